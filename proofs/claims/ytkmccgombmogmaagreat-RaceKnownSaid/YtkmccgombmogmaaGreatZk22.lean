/- Part of a proof: see the last text. -/
import Derived.Test.YtkmccgombmogmaaGreatZk21
import Derived.Sort.CutIn
namespace Go.Proofs.YtkmccgombmogmaaGreat
open Go.RowKit
open Go.Ev (iz uz iN)
set_option linter.unusedVariables false
set_option linter.unusedSimpArgs false
set_option maxRecDepth 8000
section
variable {ctx:Ev.Ctx} {w:World} {r:List Ev.Asr} {c:Cfg} {x:RaceS} {rs:Nat→OwR} {p:Nat} {o:OwnS} {M:MacS} {lv rv:Value} {B:Int}
theorem there12H (m:Nat) (p:Int) {n:Nat} {la ra:Option Addr} {rn rk lk:Nat} {ops pts:Int} (hn:n≤8) (h:Ev.Hold ctx r w) :
  CallsIn Fence.wide m Tryz.prog 48 #[.agg (rV c (.slice ra rn rk) ops (.slice la n lk) pts).toArray,.int .i64 p] w fun e w'=>e=.returned (.bool (decide (0≤p∧p < (n:Int))))∧Ev.Hold ctx r w' :=
 (there12 m p hn w).mono (fun e w' ⟨h1,h2⟩=>⟨h1,hold_keep h h2⟩)
abbrev z3:List Value:=[.int .i64 0,.int .i64 0,.slice none 0 0]
theorem step_kd {R:OwR} (h:macR c p R (some M)) (hC:CallI o M) : R.kd=o.kd:=by
 cases M with
 | put u=>exact h.1.trans hC.1.symm
 | get u=>exact h.1.trans (show o.kd=2 from hC).symm
 | steal v u=>exact h.1.trans hC.1.symm
theorem step_sok {m:MemM} {gn:Bool} {l:List Int} (hp:p < c.n) (hR:Rings c B m) (h:MacI c B m p M gn l) : ∀ v u,(M.step c p m).1=.steal v u→StealOk u:=by
 intro v u e
 cases M with
 | put u=>cases e
 | get u=>cases e
 | steal v' u' =>
  obtain ⟨hv,_,hSI⟩:=h
  cases e
  exact (stealStep_ok hp hv hSI.ok hR.mem hR.sl).1
set_option maxHeartbeats 4000000 in
theorem step12 (m:Nat) (hI:RaceI c B x) (ho:x.ow[p]? = some o) (hM:o.mac=some M) (hR:RefOk c x rs) (h:Ev.Hold ctx (refL c x rs lv rv++r) w) :
    CallsIn Fence.wide m Tryz.prog 25 #[.agg (rV c rv x.m.ops lv x.pts).toArray,.int .i64 (p:Int)] w fun e w'=>∃ x1 rs1 lv1 rv1 o1,x1=atPoint c x p o M∧x1.ow[p]? = some o1∧o1.mac=some (M.step c p x.m).1 ∧
      ((M.step c p x.m).1.st=0∧(∃ ov,e=.returned (.tuple #[.agg (rV c rv1 x1.m.ops lv1 x1.pts).toArray,.agg #[iz o.kd,iz (M.step c p x.m).1.got,ov],.bool true])∧RefOk c (x1.own p (o1.now none)) rs1∧Ev.Hold ctx (isA ov (M.step c p x.m).1.over::(refL c (x1.own p (o1.now none)) rs1 lv1 rv1++r)) w') ∨
       (M.step c p x.m).1.st ≠ 0∧e=.returned (.tuple #[.agg (rV c rv1 x1.m.ops lv1 x1.pts).toArray,.agg #[iz 0,iz 0,.slice none 0 0],.bool false])∧RefOk c x1 rs1∧Ev.Hold ctx (refL c x1 rs1 lv1 rv1++r) w'):=by
  refine callsIn_of_wp Tryz.func25 rfl trivial ?_ rfl
  simp only [Tryz.ntmps25,List.size_toArray,List.length_cons,List.length_nil,Nat.reduceAdd,Nat.reduceSub,Array.replicate_succ,Array.replicate_zero,List.push_toArray,List.append_toArray,List.nil_append,List.cons_append]
  have hnb:=c.nb
  have hl:=hI.len
  have hlt:p < x.ow.length:=(List.getElem?_eq_some_iff.1 ho).1
  have hp:p < c.n:=by rw [← hl]; exact hlt
  have hOk:=hR p o ho
  obtain ⟨h0,hMI,hC⟩:=(hI.ow p o ho).mac M hM
  have hkd:(rs p).kd=o.kd:=step_kd (by rw [← hM]; exact hOk.mac) hC
  have hS:∀ v u,(M.step c p x.m).1=.steal v u→StealOk u:=step_sok hp hI.R hMI
  have t1:=ref_take hp ho h
  obtain ⟨pre,post,e1,e2,hpre⟩:=ows_split hp (hR.len hl)
  have hone:=ows_one (hR.ones hl)
  rw [e2] at hone
  obtain ⟨ra,rk,hrv⟩ : ∃ a k,rv=.slice a x.m.cells.length k:=slr_val (hold_slr (hold_drop (r:=[_]) t1))
  have hlen:((rs p).cs c).length=54:=hR.len hl p hp
  have t2:Ev.Hold ctx (Ev.slA 114 54 lv c.n (pre++((rs p).cs c++post))::(cA rv x.m::((rs p).ps c o++(famR c x rs p++r)))) w:=by rw [← e2]; exact t1
  obtain ⟨ba,off,lk,hav,hcc,hll⟩:=sl_some t2 (by omega) (by decide)
  rw [hrv,hav]
  rw [hrv,hav] at t2
  obtain ⟨T,hT⟩ : ∃ T,(cA (.slice ra x.m.cells.length rk) x.m::((rs p).ps c o++(famR c x rs p++r)))=T:=⟨_,rfl⟩
  rw [hT] at t2
  obtain ⟨b1,hb1⟩ : ∃ b1,w.heap.size=b1:=⟨_,rfl⟩
  obtain ⟨RV,hRV⟩ : ∃ RV,rV c (.slice ra x.m.cells.length rk) x.m.ops (.slice (some ⟨ba,off,none⟩) c.n lk) x.pts=RV:=⟨_,rfl⟩
  rw [hRV]
  have g1:=hold_new RV 56 t2
  rw [hb1] at g1
  obtain ⟨W1,hW1⟩ : ∃ W1,w.alloc (.cells RV.toArray 56)=W1:=⟨_,rfl⟩
  rw [hW1] at g1
  obtain ⟨b2,hb2⟩ : ∃ b2,W1.heap.size=b2:=⟨_,rfl⟩
  have g2:=hold_new rZ 56 g1
  rw [hb2] at g2
  obtain ⟨W2,hW2⟩ : ∃ W2,W1.alloc (.cells #[.int .i64 0,.int .i64 0,.int .i64 0,.int .i64 0,.int .i64 0,.int .i64 0,.slice none 0 0,.int .u64 0,.slice none 0 0,.int .i64 0] 56)=W2:=⟨_,rfl⟩
  replace g2:Ev.Hold ctx (Ev.blkA b2 rZ 56 :: Ev.blkA b1 RV 56 :: Ev.slA 114 54 (.slice (some ⟨ba,off,none⟩) c.n lk) c.n (pre++((rs p).cs c++post))::T) W2:=by rw [← hW2]; exact g2
  obtain ⟨b3,hb3⟩ : ∃ b3,W2.heap.size=b3:=⟨_,rfl⟩
  have g3:=hold_new z3 62 g2
  rw [hb3] at g3
  obtain ⟨W3,hW3⟩ : ∃ W3,W2.alloc (.cells #[.int .i64 0,.int .i64 0,.slice none 0 0] 62)=W3:=⟨_,rfl⟩
  replace g3:Ev.Hold ctx (Ev.blkA b3 z3 62 :: Ev.blkA b2 rZ 56 :: Ev.blkA b1 RV 56 :: Ev.slA 114 54 (.slice (some ⟨ba,off,none⟩) c.n lk) c.n (pre++((rs p).cs c++post))::T) W3:=by rw [← hW3]; exact g3
  have r0:=ld_all (hold_up [_,_] g3) Tryz.underlying56 rfl (by rw [← hRV]; kernel_rfl)
  have hth:=there12H (m - 1) (p:Int) (c:=c) (ra:=ra) (rn:=x.m.cells.length) (rk:=rk) (ops:=x.m.ops) (pts:=x.pts) (la:=some ⟨ba,off,none⟩) (lk:=lk) hnb.2 g3
  rw [hRV,decide_eq_true (show 0≤(p:Int)∧(p:Int) < (c.n:Int) from ⟨by omega,by omega⟩)] at hth
  have hpI:(p:Int) < (c.n:Int):=by omega
  clear hcc hll t1
  gi_wp2_with (refine wpListIn_load_run rfl _ _ rfl r0 rfl ?_)
  refine ⟨trivial,fun h=>by simp [Fence.wide] at h,hth.mono ?_⟩
  clear hth r0 g3 g2 g1 t2
  rintro e w4 ⟨rfl,g4⟩
  have c8:w4.cell? ⟨b1,8,none⟩=some (.slice (some ⟨ba,off,none⟩) c.n lk):=cell_of (hold_blk (hold_up [_,_] g4)) 8 _ (by rw [← hRV]; rfl)
  obtain ⟨mid,hmid⟩ : ∃ mid,(rs p).cs c=mid:=⟨_,rfl⟩
  have hm0:mid[0]? = some (iz o.kd):=by rw [← hmid,OwR.at0,hkd]
  rw [hmid] at g4 hone hlen
  have ck:w4.cell? ⟨ba,off+p * 54,none⟩=some (.int .i64 o.kd):=by
    obtain ⟨b',o',c',hv,hc,_⟩:=sl_some (hold_up [_,_,_] g4) (by omega) (by decide)
    cases hv
    have hlt:p * 54 < c.n * 54:=by omega
    have h1:=at_mid (pre:=pre) (post:=post) hm0
    rw [hpre,Nat.add_zero] at h1
    rw [hc _ hlt,h1]
  have r1:=ld_sl (o:=off+p * 54) (t := 114) (hold_up [_,_,_] g4) (by rw [hpre]) (by omega) Tryz.underlying114 rfl (by rw [hlen]; kernel_rfl)
  obtain ⟨b4,hb4⟩ : ∃ b4,w4.heap.size=b4:=⟨_,rfl⟩
  have g5:=hold_new oZ 114 g4
  rw [hb4] at g5
  obtain ⟨W5,hW5⟩ : ∃ W5,w4.alloc (.cells oZ.toArray 114)=W5:=⟨_,rfl⟩
  rw [hW5] at g5
  obtain ⟨w6,r2,g6⟩:=st_all (t := 114) (cs':=mid) g5 (by rw [hlen]; rfl) (fun x hx=>hone x (List.mem_append_right _ (List.mem_append_left _ hx))) (by rw [hlen]; kernel_rfl)
  have hk0:¬ o.kd=0:=by
    have:=hOk.mac
    rw [hM] at this
    rw [← hkd]
    cases M with
    | put u=>rw [this.1]; decide
    | get u=>rw [this.1]; decide
    | steal v u=>rw [this.1]; decide
  have k0:w6.cell? ⟨b4,0,none⟩=some (.int .i64 o.kd):=cell_of (hold_blk g6) 0 _ (by rw [List.getElem?_toArray]; exact hm0)
  gi_upto_region 5 with (first
    | (refine wpListIn_load_run rfl _ _ rfl r1 rfl ?_)
    | (refine wpListIn_store_run rfl _ _ _ rfl r2 rfl rfl ?_))
  rename_i K22 a22 K5 a5
  obtain ⟨M1,hM1⟩ : ∃ M1,(M.step c p x.m).1=M1:=⟨_,rfl⟩
  have hK22:∀ (x1:RaceS) (rs1:Nat→OwR) (la1 ra1:Option Addr) (lk1 rk1:Nat) (o1:OwnS) (w7:World) {z7 z9 z10 z11 z12 z13 z14 z15 z16 z17 z18 z19 z20 z21 z22 z23 z24 z25 z26 z27 z28 z29 z30 z31 z32 z33 z34 z35 z36 z37 z38 z39 z40 z41 z42 z43 z44 z45 z46 z47 z48 z49 z50 z51 z52 z53 z54 z55 z56 z57 z58 z59 z60 z61 z62 z63 z64 z65 z66 z67 z68 z69 z70 z71 z72 z73 z74 z75 z76 z77 z78 z79 z80 z81 z82 z83 z84 z85 z86 z87 z88 z89 z90 z91 z92 z93 z94 z95 z96 z97 z98 z99 z100 z101 z102 z103 z104 z105 z106 z107 z108 z109 z110:Value} {s8:Int},s8=(M1.st:Int)→atPoint c x p o M=x1→x1.ow.length=c.n→x1.ow[p]? = some o1→o1.mac=some M1→RefOk c x1 rs1→(rs1 p).kd=o.kd→Ev.Hold ctx ([Ev.blkA b3 z3 62,Ev.blkA b2 rZ 56,Ev.blkA b1 (rV c (.slice ra1 x1.m.cells.length rk1) x1.m.ops (.slice la1 c.n lk1) x1.pts) 56]++(refL c x1 rs1 (.slice la1 c.n lk1) (.slice ra1 x1.m.cells.length rk1)++r)) w7→K22 { tmps:=#[.agg RV.toArray,.int .i64 (p:Int),.pointer (some ⟨b1,0,none⟩),undef,.pointer (some ⟨b2,0,none⟩),.pointer (some ⟨b3,0,none⟩),.bool false,z7,.int .i64 s8,z9,z10,z11,z12,z13,z14,z15,z16,z17,z18,z19,z20,z21,z22,z23,z24,z25,z26,z27,z28,z29,z30,z31,z32,z33,z34,z35,z36,z37,z38,z39,z40,z41,z42,z43,z44,z45,z46,z47,z48,z49,z50,z51,z52,z53,z54,z55,z56,z57,z58,z59,z60,z61,z62,z63,z64,z65,z66,z67,z68,z69,z70,z71,z72,z73,z74,z75,z76,z77,z78,z79,z80,z81,z82,z83,z84,z85,z86,z87,z88,z89,z90,z91,z92,z93,z94,z95,z96,z97,z98,z99,z100,z101,z102,z103,z104,z105,z106,z107,z108,z109,z110,undef,undef,undef,undef,undef,undef,undef,undef,undef,undef],defers:=[] } w7:=by
    intro x1 rs1 la1 ra1 lk1 rk1 o1 w7 z7 z9 z10 z11 z12 z13 z14 z15 z16 z17 z18 z19 z20 z21 z22 z23 z24 z25 z26 z27 z28 z29 z30 z31 z32 z33 z34 z35 z36 z37 z38 z39 z40 z41 z42 z43 z44 z45 z46 z47 z48 z49 z50 z51 z52 z53 z54 z55 z56 z57 z58 z59 z60 z61 z62 z63 z64 z65 z66 z67 z68 z69 z70 z71 z72 z73 z74 z75 z76 z77 z78 z79 z80 z81 z82 z83 z84 z85 z86 z87 z88 z89 z90 z91 z92 z93 z94 z95 z96 z97 z98 z99 z100 z101 z102 z103 z104 z105 z106 z107 z108 z109 z110 s8 hs8 hx1 hl1 ho1 hm1 hR1 hkd1 g7
    subst hs8
    clear a5 g6 g5 g4 k0 r1 r2 c8 ck hone hm0 hmid hlen hRV hT hb1 hb2 hb3 hb4 hW1 hW2 hW3 hW5
    obtain ⟨RV1,hRV1⟩ : ∃ RV1,rV c (.slice ra1 x1.m.cells.length rk1) x1.m.ops (.slice la1 c.n lk1) x1.pts=RV1:=⟨_,rfl⟩
    have hRVl:RV1.length=10:=by rw [← hRV1]; rfl
    have hRVo:∀ y ∈ RV1,y.oneCell'=true:=by rw [← hRV1]; simp [rV,Value.oneCell']
    have hi1:(Tryz.prog.info? 56).map (·.size)=some RV1.length:=by rw [hRVl]; kernel_rfl
    have hu1:=Tryz.underlying56
    have hu3:=Tryz.underlying62
    by_cases hz:M1.st=0
    · have hzI:((M1.st:Nat) : Int)=0:=by omega
      have hen:=ends12 (m - 1) (pts:=x1.pts) hp hl1 ho1 hm1 hz (by intro v u e; exact hS v u (hM1.trans e)) hR1 (hold_perm (List.perm_append_comm_assoc _ _ _) g7)
      rw [hRV1] at hen g7
      have r3:=ld_all (hold_up [_,_] g7) hu1 rfl hi1
      gi_wp2_with (refine wpListIn_load_run rfl _ _ rfl r3 rfl ?_)
      refine ⟨trivial,fun h=>by simp [Fence.wide] at h,hen.mono ?_⟩
      clear hen r3 g7 hzI
      rw [hkd1]
      rintro e w8 ⟨lv2,rfl,hR2,g8⟩
      replace g8:=hold_perm (List.perm_append_comm_assoc (isA (outV (rs1 p) M1) M1.over::refL c (x1.own p (o1.now none)) (setR rs1 p (rs1 p).free) lv2 (.slice ra1 x1.m.cells.length rk1)) _ r) g8
      obtain ⟨la2,lk2,rfl⟩ : ∃ a k,lv2=.slice a c.n k:=slr_val (hold_slr (hold_drop (r:=[_,_,_,_]) g8))
      obtain ⟨oa,ok,hov⟩ : ∃ a k,outV (rs1 p) M1=.slice a M1.over.length k:=slr_val (hold_slr (hold_drop (r:=[_,_,_]) g8))
      rw [hov] at g8 ⊢
      clear hov hkd1
      obtain ⟨w9,r4,g9⟩:=st_all (t := 56) (cs':=rV c (.slice ra1 x1.m.cells.length rk1) x1.m.ops (.slice la2 c.n lk2) x1.pts) (hold_up [_] g8) rfl (by simp [rV,Value.oneCell']) (by kernel_rfl)
      obtain ⟨wA,r5,gA⟩:=st_all (t := 62) (cs':=[iz o.kd,iz M1.got,.slice oa M1.over.length ok]) (hold_up [_] g9) rfl (by simp [Value.oneCell']) (by kernel_rfl)
      gi_wp2_with (first
        | (refine wpListIn_store_run rfl _ _ _ rfl r4 rfl rfl ?_)
        | (refine wpListIn_store_run rfl _ _ _ rfl r5 rfl rfl ?_))
      refine post_cell2T rfl rfl rfl rfl (lv_all (hold_up [_] gA) hu1 rfl (by kernel_rfl)) (lv_all gA hu3 rfl (by kernel_rfl)) ?_
      rw [hM1]
      refine ⟨x1,setR rs1 p (rs1 p).free,.slice la2 c.n lk2,.slice ra1 x1.m.cells.length rk1,o1,hx1.symm,ho1,hm1,.inl ⟨hz,.slice oa M1.over.length ok,rfl,hR2,hold_drop (r:=[_,_,_]) gA⟩⟩
    · have hzI:¬ ((M1.st:Nat) : Int)=0:=by omega
      have r3:=ld_all (hold_up [_,_] g7) hu1 rfl (by kernel_rfl)
      obtain ⟨w9,r4,g9⟩:=st_all (t := 56) (cs':=RV1) (hold_up [_] g7) hRVl hRVo hi1
      obtain ⟨wA,r5,gA⟩:=st_all (t := 62) (cs':=z3) (hold_up [_] g9) rfl (by simp [Value.oneCell']) (by kernel_rfl)
      rw [hRV1] at r3
      gi_wp2_with (first
        | (refine wpListIn_load_run rfl _ _ rfl r3 rfl ?_)
        | (refine wpListIn_store_run rfl _ _ _ rfl r4 rfl rfl ?_)
        | (refine wpListIn_store_run rfl _ _ _ rfl r5 rfl rfl ?_))
      refine post_cell2T rfl rfl rfl rfl (lv_all (hold_up [_] gA) hu1 rfl hi1) (lv_all gA hu3 rfl (by kernel_rfl)) ?_
      rw [hM1]
      refine ⟨x1,rs1,.slice la1 c.n lk1,.slice ra1 x1.m.cells.length rk1,o1,hx1.symm,ho1,hm1,.inr ⟨hz,by rw [hRV1]; rfl,hR1,hold_drop (r:=[_,_,_]) gA⟩⟩
  clear a22
  obtain ⟨R,hRe⟩ : ∃ R,rs p=R:=⟨_,rfl⟩
  rw [hRe] at hOk hmid hkd
  rw [← hT,hRe] at g6
  rw [← hRV] at g6
  clear hT T hRV hm0 ck c8 hW1 hW2 hW3 hW5 hb1 hb2 hb3 hb4 g5 g4
  have hB:=hI.R.hB
  have hwo:=hI.R.w p hp
  cases M with
  | put u =>
    have hkd1:o.kd=1:=hC.1
    obtain ⟨q1,q2,q3⟩:=(by rw [← hM]; exact hOk.mac:macR c p R (some (.put u)))
    rw [hkd1] at k0
    have hkdS:Unit→o.kd=1:=fun _=>hkd1
    have hmid':mid=[iz 1,iz R.cv,iz R.cg]++((p9 c p u R.tk R.hd).toList++(R.G++(R.S++[iN c.q,R.dv]))):=by
      rw [← hmid]
      unfold OwR.cs
      rw [q1,q3]
    clear hmid hkd
    subst hmid'
    have hP:=hOk.P
    have hG:=hOk.G
    have hSl:=hOk.S
    obtain ⟨u1,hu1⟩ : ∃ u1,(putStep c p u x.m).1=u1:=⟨_,rfl⟩
    obtain ⟨m1,hm1⟩ : ∃ m1,(putStep c p u x.m).2=m1:=⟨_,rfl⟩
    obtain rfl:M1=.put u1:=by rw [← hM1,← hu1]; rfl
    have hgg:u1.gg=u.gg:=by rw [← hu1]; exact (put_does hI.R hp hMI h0).2.2.2.1
    have hcg:R.cg=o.cg:=q2.trans hC.2.symm
    have hA0:=at_put0 (c:=c) (u:=u) (o:=o) hlt
    have hA1:=at_put1 (c:=c) (u:=u) (o:=o) hlt
    rw [hu1,hm1] at hA0 hA1
    rw [← hcg] at hA1
    clear hcg
    have l1:(Instr.loadAt 106 (.pointer (some ⟨b4,3,none⟩))).run Tryz.prog w6=.ok (.agg (p9 c p u R.tk R.hd)) w6:=ld_blk g6 (by rfl) Tryz.underlying106 rfl (by kernel_rfl)
    have l2:(Instr.loadAt 53 (.pointer (some ⟨b1,6,none⟩))).run Tryz.prog w6=.ok (.agg #[.slice ra x.m.cells.length rk,.int .u64 x.m.ops]) w6:=ld_blk (pre:=[iN c.n,iN c.q,iz c.g,iz c.m,iz c.t,iz c.s]) (mid:=[.slice ra x.m.cells.length rk,.int .u64 x.m.ops]) (hold_up [_,_,_] g6) rfl Tryz.underlying53 rfl (by kernel_rfl)
    rw [(by unfold OwR.ps; rw [hM]; rfl:R.ps c o=[isA R.dv (dqAll c o.dq),isA R.tk u.ts,isA R.hd u.hs])] at g6
    have hc:=put9H (m - 1) hp (PutI.ok hMI) h0 hI.R.mem (hold_up [_,_,_,_,_,_,_] (hold_up [_,_,_,_,_,_,_,_] (hold_up [_,_,_,_,_,_,_,_] g6)))
    rw [hu1,hm1] at hc
    clear hM1 hu1 hm1 hkd1 q1 q3 g6
    gi_wp2_with (first
      | (refine wpListIn_load_run rfl _ _ rfl l1 rfl ?_)
      | (refine wpListIn_load_run rfl _ _ rfl l2 rfl ?_))
    refine ⟨trivial,fun h=>by simp [Fence.wide] at h,hc.mono ?_⟩
    clear hc l1 l2 k0
    rintro e w7 ⟨v1,tk1,hd1,rfl,g7⟩
    obtain ⟨ra1,rk1,rfl⟩ : ∃ a k,v1=.slice a m1.cells.length k:=slr_val (hold_slr g7)
    have lt8:Ev.leafV tk1=true:=hold_leaf (hold_up [_] g7)
    have lh8:Ev.leafV hd1=true:=hold_leaf (hold_up [_,_] g7)
    have oP:∀ y ∈ (p9 c p u1 tk1 hd1).toList,y.oneCell'=true:=by
      intro y hy
      simp only [p9,List.mem_cons,List.not_mem_nil,or_false] at hy
      have:=leaf_oc lt8
      have:=leaf_oc lh8
      rcases hy with rfl|rfl|rfl|rfl|rfl|rfl|rfl|rfl|rfl|rfl|rfl|rfl <;> first | rfl | assumption
    obtain ⟨w8,s1,g8⟩:=st_blk (t := 106) (mid':=(p9 c p u1 tk1 hd1).toList) (o:=3) (hold_up [_,_,_] g7) (by rfl) rfl oP (by kernel_rfl)
    obtain ⟨w9,s2,g9⟩:=st_blk (t := 53) (pre:=[iN c.n,iN c.q,iz c.g,iz c.m,iz c.t,iz c.s]) (mid:=[.slice ra x.m.cells.length rk,.int .u64 x.m.ops]) (post:=[.slice (some ⟨ba,off,none⟩) c.n lk,iz x.pts]) (mid':=[.slice ra1 m1.cells.length rk1,.int .u64 m1.ops]) (o:=6) (hold_up [_,_,_,_,_,_] g8) rfl rfl (by simp [Value.oneCell']) (by kernel_rfl)
    have k9:w9.cell? ⟨b1,9,none⟩=some (.int .i64 x.pts):=cell_of (hold_blk g9) 9 _ rfl
    have f9:w9.frozen? ⟨b1,9,none⟩=false:=froz_of (hold_blk g9) 9
    have k8:w9.cell? ⟨b4,11,none⟩=some (.int .i64 (u1.st:Int)):=cell_of (hold_blk (hold_up [_] g9)) 11 _ rfl
    have hmac:∀ dv,macR c p ⟨1,R.cv,R.cg,(p9 c p u1 tk1 hd1).toList,R.G,R.S,dv,tk1,hd1,R.bt,R.ll⟩ (some (.put u1)):=fun dv=>⟨rfl,q2.trans hgg.symm,rfl⟩
    by_cases hz:u1.st=0
    · have hzI:((u1.st:Nat) : Int)=0:=by omega
      replace hA1:=hA1 hz
      have hD:∀ g,dputL c.q (dqAll c o.dq) g=dqAll c (dqPut c o.dq g).1:=fun g=>(dqPut_L (hI.ow p o ho).dq.ok (by rw [(hI.ow p o ho).dq.w]; exact hwo) hB g).symm
      have h10:=hold_set 9 (.int .i64 (IntKind.i64.wrap (x.pts+1))) g9
      obtain ⟨y,hy⟩ : ∃ y,IntKind.i64.wrap (x.pts+1)=y:=⟨_,rfl⟩
      have hy2:wrap64 (x.pts+1)=y:=by rw [← hy,IntKind.wrap_i64]; unfold wrap64; rfl
      rw [hy] at h10 hA1
      obtain ⟨wA,hwA⟩ : ∃ wA,w9.setCell ⟨b1,9,none⟩ (.int .i64 y)=wA:=⟨_,rfl⟩
      rw [hwA] at h10
      replace h10:Ev.Hold ctx (Ev.blkA b1 (rV c (.slice ra1 m1.cells.length rk1) m1.ops (.slice (some ⟨ba,off,none⟩) c.n lk) y) 56 :: _) wA:=h10
      have k2:wA.cell? ⟨b4,2,none⟩=some (.int .i64 R.cg):=cell_of (hold_blk (hold_up [_] h10)) 2 _ rfl
      have gX:=blk_eq (ow_D _ _ _ _ _) (hold_up [_] h10)
      have l3:(Instr.loadAt 103 (.pointer (some ⟨b4,52,none⟩))).run Tryz.prog wA=.ok (.agg #[iN c.q,R.dv]) wA:=ld_blk gX (by simp [hG,hSl,p9]) Tryz.underlying103 rfl (by kernel_rfl)
      have hq64:c.q≤64:=by have:=hI.R.h8; omega
      have hl64:(dqAll c o.dq).length≤64:=by have:=(hI.ow p o ho).dq.ok.sz; rw [dqAll_ln]; omega
      have hc:=dputH (m - 1) hq64 hl64 R.cg (hold_up [_,_,_,_,_,_,_,_] gX)
      clear hC q2
      gi_wp2_with (first
        | (refine wpListIn_store_run rfl _ _ _ rfl s1 rfl rfl ?_)
        | (refine wpListIn_store_run rfl _ _ _ rfl s2 rfl rfl ?_)
        | (refine wpListIn_load_run rfl _ _ rfl l3 rfl ?_))
      refine ⟨trivial,fun h=>by simp [Fence.wide] at h,hc.mono ?_⟩
      clear hc l3 k2 hwA hy hy2 s1 s2
      rintro e wB ⟨dv1,xo,rfl,gB⟩
      rw [hD] at gB
      have ldv:Ev.leafV dv1=true:=hold_leaf gB
      obtain ⟨wD,s3,gD⟩:=st_blk (t := 103) (mid':=[iN c.q,dv1]) (o:=52) (hold_up [_] gB) (by simp [hG,hSl,p9]) rfl (by intro y hy; simp only [List.mem_cons,List.not_mem_nil,or_false] at hy; have:=leaf_oc ldv; rcases hy with rfl | rfl <;> first | rfl | assumption) (by kernel_rfl)
      replace gD:=blk_eq (ow_D _ _ _ _ _).symm gD
      obtain ⟨R1,eC,eP,eK,hR1⟩ : ∃ R1:OwR,([iz 1,iz R.cv,iz R.cg]++((p9 c p u1 tk1 hd1).toList++(R.G++(R.S++[iN c.q,dv1]))) : List Value)=OwR.cs c R1∧R1.ps c ((o.now (some (.put u1))).deq (dqPut c o.dq R.cg).1)=[isA dv1 (dqAll c ((o.now (some (.put u1))).deq (dqPut c o.dq R.cg).1).dq),isA tk1 u1.ts,isA hd1 u1.hs]∧R1.kd=1∧OwR.Ok c p (some (.put u1)) R1:=⟨⟨1,R.cv,R.cg,(p9 c p u1 tk1 hd1).toList,R.G,R.S,dv1,tk1,hd1,R.bt,R.ll⟩,rfl,rfl,rfl,⟨rfl,hG,hSl,fun y hy=>(List.mem_append.1 hy).elim (oP y) (fun h=>hOk.one y (List.mem_append_right _ h)),ldv,hmac _⟩⟩
      rw [eC] at gD
      have hRl:=hR1.len
      have r1:(Instr.loadAt 56 (.pointer (some ⟨b1,0,none⟩))).run Tryz.prog wD=.ok (.agg (rV c (.slice ra1 m1.cells.length rk1) m1.ops (.slice (some ⟨ba,off,none⟩) c.n lk) (y)).toArray) wD:=ld_all (hold_up [_,_] gD) Tryz.underlying56 rfl (by kernel_rfl)
      have r2:(Instr.loadAt 114 (.pointer (some ⟨b4,0,none⟩))).run Tryz.prog wD=.ok (.agg (OwR.cs c R1).toArray) wD:=ld_all gD Tryz.underlying114 rfl (by rw [hRl]; kernel_rfl)
      have hw:=with12 (c:=c) (m - 1) (ra:=ra1) (rn:=m1.cells.length) (rk:=rk1) (ops:=m1.ops) (pts:=y) hnb.2 hp hpre hlen hRl hR1.ones hone (hold_up [_,_,_,_,_,_,_,_] gD)
      clear eC hRl
      gi_wp2_with (first
        | (refine wpListIn_store_run rfl _ _ _ rfl s3 rfl rfl ?_)
        | (refine wpListIn_load_run rfl _ _ rfl r1 rfl ?_)
        | (refine wpListIn_load_run rfl _ _ rfl r2 rfl ?_))
      refine ⟨trivial,fun h=>by simp [Fence.wide] at h,hw.mono ?_⟩
      clear hw r1 r2
      rintro e wB ⟨la1,lk1,rfl,gB⟩
      obtain ⟨wC,r4,gC⟩:=st_all (t := 56) (cs':=rV c (.slice ra1 m1.cells.length rk1) m1.ops (.slice la1 c.n lk1) (y)) (hold_up [_,_,_] gB) rfl (by simp [rV,Value.oneCell']) (by kernel_rfl)
      gi_wp2_with (first
        | (refine wpListIn_store_run rfl _ _ _ rfl r4 rfl rfl ?_))
      obtain ⟨x1,hx1⟩ : ∃ x1,atPoint c x p o (.put u)=x1:=⟨_,rfl⟩
      rw [hx1] at hA1
      have gE:=hold_drop (r:=[_]) (hold_up [_,_,_,_,_,_,_,_] (hold_up [_,_,_,_,_,_,_] (hold_up [_,_,_,_,_,_,_,_] (hold_up [_,_,_,_,_,_,_] (hold_up [_,_,_,_,_,_,_,_] (hold_up [_,_,_,_,_,_,_,_] (hold_up [_,_,_,_,_,_,_,_] (hold_up [_,_,_,_,_,_,_,_] gC))))))))
      refine hK22 x1 (setR rs p R1) la1 ra1 lk1 rk1 _ wC (by first | rfl | exact hzI.symm) hx1 (hA1.len.trans hl) hA1.self rfl (refOk_set hR hA1.other hA1.self hR1) (by rw [setR_at,eK]; exact (hkdS ()).symm) ?_
      rw [hA1.m,hA1.pts]
      refine ref_close (L:=[_,_,_]) hp hA1 e1 ?_
      rw [eP]
      exact gE
    · have hzI:¬ ((u1.st:Nat) : Int)=0:=by omega
      replace hA0:=hA0 hz
      obtain ⟨R1,eC,eP,eK,hR1⟩ : ∃ R1:OwR,([iz 1,iz R.cv,iz R.cg]++((p9 c p u1 tk1 hd1).toList++(R.G++(R.S++[iN c.q,R.dv]))) : List Value)=OwR.cs c R1∧R1.ps c (o.now (some (.put u1)))=[isA R.dv (dqAll c (o.now (some (.put u1))).dq),isA tk1 u1.ts,isA hd1 u1.hs]∧R1.kd=1∧OwR.Ok c p (some (.put u1)) R1:=⟨⟨1,R.cv,R.cg,(p9 c p u1 tk1 hd1).toList,R.G,R.S,R.dv,tk1,hd1,R.bt,R.ll⟩,rfl,rfl,rfl,⟨rfl,hG,hSl,fun y hy=>(List.mem_append.1 hy).elim (oP y) (fun h=>hOk.one y (List.mem_append_right _ h)),hOk.dv,hmac _⟩⟩
      rw [eC] at g9
      have hRl:=hR1.len
      have r1:(Instr.loadAt 56 (.pointer (some ⟨b1,0,none⟩))).run Tryz.prog w9=.ok (.agg (rV c (.slice ra1 m1.cells.length rk1) m1.ops (.slice (some ⟨ba,off,none⟩) c.n lk) (x.pts)).toArray) w9:=ld_all g9 Tryz.underlying56 rfl (by kernel_rfl)
      have r2:(Instr.loadAt 114 (.pointer (some ⟨b4,0,none⟩))).run Tryz.prog w9=.ok (.agg (OwR.cs c R1).toArray) w9:=ld_all (hold_up [_] g9) Tryz.underlying114 rfl (by rw [hRl]; kernel_rfl)
      have hw:=with12 (c:=c) (m - 1) (ra:=ra1) (rn:=m1.cells.length) (rk:=rk1) (ops:=m1.ops) (pts:=x.pts) hnb.2 hp hpre hlen hRl hR1.ones hone (hold_up [_,_,_,_,_,_,_] g9)
      clear eC hRl
      clear hC q2
      gi_wp2_with (first
        | (refine wpListIn_store_run rfl _ _ _ rfl s1 rfl rfl ?_)
        | (refine wpListIn_store_run rfl _ _ _ rfl s2 rfl rfl ?_)
        | (refine wpListIn_load_run rfl _ _ rfl r1 rfl ?_)
        | (refine wpListIn_load_run rfl _ _ rfl r2 rfl ?_))
      refine ⟨trivial,fun h=>by simp [Fence.wide] at h,hw.mono ?_⟩
      clear hw r1 r2
      rintro e wB ⟨la1,lk1,rfl,gB⟩
      obtain ⟨wC,r4,gC⟩:=st_all (t := 56) (cs':=rV c (.slice ra1 m1.cells.length rk1) m1.ops (.slice la1 c.n lk1) (x.pts)) (hold_up [_] gB) rfl (by simp [rV,Value.oneCell']) (by kernel_rfl)
      gi_wp2_with (first
        | (refine wpListIn_store_run rfl _ _ _ rfl r4 rfl rfl ?_))
      obtain ⟨x1,hx1⟩ : ∃ x1,atPoint c x p o (.put u)=x1:=⟨_,rfl⟩
      rw [hx1] at hA0
      have gE:=hold_drop (r:=[_]) (hold_up [_,_,_,_,_,_,_,_] (hold_up [_,_,_,_,_,_,_] (hold_up [_,_,_,_,_,_,_,_] (hold_up [_,_,_,_,_,_,_,_] (hold_up [_,_,_,_,_,_,_] (hold_up [_,_,_,_,_,_,_] (hold_up [_,_,_,_,_,_,_] (hold_up [_,_,_,_,_,_,_] gC))))))))
      refine hK22 x1 (setR rs p R1) la1 ra1 lk1 rk1 _ wC (by first | rfl | exact hzI.symm) hx1 (hA0.len.trans hl) hA0.self rfl (refOk_set hR hA0.other hA0.self hR1) (by rw [setR_at,eK]; exact (hkdS ()).symm) ?_
      rw [hA0.m,hA0.pts]
      refine ref_close (L:=[_,_,_]) hp hA0 e1 ?_
      rw [eP]
      exact gE
  | get u =>
    have hkd1:o.kd=2:=hC
    obtain ⟨q1,gt,tr,q3,q4⟩:=(by rw [← hM]; exact hOk.mac:macR c p R (some (.get u)))
    rw [hkd1] at k0
    have hkdS:Unit→o.kd=2:=fun _=>hkd1
    have hmid':mid=[iz 2,iz R.cv,iz R.cg]++(R.P++((g10 c p u gt tr).toList++(R.S++[iN c.q,R.dv]))):=by
      rw [← hmid]
      unfold OwR.cs
      rw [q1,q3]
    clear hmid hkd
    subst hmid'
    have hP:=hOk.P
    have hG:=hOk.G
    have hSl:=hOk.S
    obtain ⟨u1,hu1⟩ : ∃ u1,(getStep c p u x.m).1=u1:=⟨_,rfl⟩
    obtain ⟨m1,hm1⟩ : ∃ m1,(getStep c p u x.m).2=m1:=⟨_,rfl⟩
    obtain rfl:M1=.get u1:=by rw [← hM1,← hu1]; rfl
    have hA0:=at_get0 (c:=c) (u:=u) (o:=o) hlt
    have hA1:=at_get1 (c:=c) (u:=u) (o:=o) hlt
    rw [hu1,hm1] at hA0 hA1
    clear q4
    have l1:(Instr.loadAt 108 (.pointer (some ⟨b4,15,none⟩))).run Tryz.prog w6=.ok (.agg (g10 c p u gt tr)) w6:=ld_blk (blk_eq (ow_G _ _ _ _) g6) (by simp [hP]) Tryz.underlying108 rfl (by kernel_rfl)
    have l2:(Instr.loadAt 53 (.pointer (some ⟨b1,6,none⟩))).run Tryz.prog w6=.ok (.agg #[.slice ra x.m.cells.length rk,.int .u64 x.m.ops]) w6:=ld_blk (pre:=[iN c.n,iN c.q,iz c.g,iz c.m,iz c.t,iz c.s]) (mid:=[.slice ra x.m.cells.length rk,.int .u64 x.m.ops]) (hold_up [_,_,_] g6) rfl Tryz.underlying53 rfl (by kernel_rfl)
    rw [(by unfold OwR.ps; rw [hM]; rfl:R.ps c o=[isA R.dv (dqAll c o.dq)])] at g6
    have hc:=get10H (m - 1) hp (GetI.ok hMI) h0 hI.R.mem hwo.sz gt tr (hold_up [_,_,_,_,_] g6)
    rw [hu1,hm1] at hc
    clear hM1 hu1 hm1 hkd1 q1 q3 g6
    gi_wp2_with (first
      | (refine wpListIn_load_run rfl _ _ rfl l1 rfl ?_)
      | (refine wpListIn_load_run rfl _ _ rfl l2 rfl ?_))
    refine ⟨trivial,fun h=>by simp [Fence.wide] at h,hc.mono ?_⟩
    clear hc l1 l2 k0
    rintro e w7 ⟨v1,gt1,tr1,rfl,hgt,g7⟩
    obtain ⟨ra1,rk1,rfl⟩ : ∃ a k,v1=.slice a m1.cells.length k:=slr_val (hold_slr g7)
    have oP:∀ y ∈ (g10 c p u1 gt1 tr1).toList,y.oneCell'=true:=by
      intro y hy
      simp only [g10,List.mem_cons,List.not_mem_nil,or_false] at hy
      rcases hy with rfl|rfl|rfl|rfl|rfl|rfl|rfl|rfl|rfl|rfl|rfl|rfl|rfl <;> rfl
    obtain ⟨w8,s1,g8⟩:=st_blk (t := 108) (mid':=(g10 c p u1 gt1 tr1).toList) (o:=15) (blk_eq (ow_G _ _ _ _) (hold_up [_] g7)) (by simp [hP]) rfl oP (by kernel_rfl)
    replace g8:=blk_eq (ow_G _ _ _ _).symm g8
    obtain ⟨w9,s2,g9⟩:=st_blk (t := 53) (pre:=[iN c.n,iN c.q,iz c.g,iz c.m,iz c.t,iz c.s]) (mid:=[.slice ra x.m.cells.length rk,.int .u64 x.m.ops]) (post:=[.slice (some ⟨ba,off,none⟩) c.n lk,iz x.pts]) (mid':=[.slice ra1 m1.cells.length rk1,.int .u64 m1.ops]) (o:=6) (hold_up [_,_,_,_] g8) rfl rfl (by simp [Value.oneCell']) (by kernel_rfl)
    have k9:w9.cell? ⟨b1,9,none⟩=some (.int .i64 x.pts):=cell_of (hold_blk g9) 9 _ rfl
    have f9:w9.frozen? ⟨b1,9,none⟩=false:=froz_of (hold_blk g9) 9
    have k8:w9.cell? ⟨b4,22,none⟩=some (.int .i64 (u1.st:Int)):=by
      have h1:=at_mid (pre:=[iz 2,iz R.cv,iz R.cg]++R.P) (mid:=(g10 c p u1 gt1 tr1).toList) (post:=R.S++[iN c.q,R.dv]) (j:=7) (v:=.int .i64 (u1.st:Int)) rfl
      rw [show ([iz 2,iz R.cv,iz R.cg]++R.P).length+7=22 by simp [hP]] at h1
      exact cell_of (hold_blk (blk_eq (ow_G _ _ _ _) (hold_up [_] g9))) 22 _ (by rw [List.getElem?_toArray]; exact h1)
    have hmac:∀ dv,macR c p ⟨2,R.cv,R.cg,R.P,(g10 c p u1 gt1 tr1).toList,R.S,dv,R.tk,R.hd,R.bt,R.ll⟩ (some (.get u1)):=fun dv=>⟨rfl,gt1,tr1,rfl,hgt⟩
    by_cases hz:u1.st=0
    · have hzI:((u1.st:Nat) : Int)=0:=by omega
      replace hA1:=hA1 hz
      have hD:=(dqGet_L (hI.ow p o ho).dq.ok (by rw [(hI.ow p o ho).dq.w]; exact hwo) hB).symm
      have h10:=hold_set 9 (.int .i64 (IntKind.i64.wrap (x.pts+1))) g9
      obtain ⟨y,hy⟩ : ∃ y,IntKind.i64.wrap (x.pts+1)=y:=⟨_,rfl⟩
      have hy2:wrap64 (x.pts+1)=y:=by rw [← hy,IntKind.wrap_i64]; unfold wrap64; rfl
      rw [hy] at h10 hA1
      obtain ⟨wA,hwA⟩ : ∃ wA,w9.setCell ⟨b1,9,none⟩ (.int .i64 y)=wA:=⟨_,rfl⟩
      rw [hwA] at h10
      replace h10:Ev.Hold ctx (Ev.blkA b1 (rV c (.slice ra1 m1.cells.length rk1) m1.ops (.slice (some ⟨ba,off,none⟩) c.n lk) y) 56 :: _) wA:=h10
      have k2:wA.cell? ⟨b4,2,none⟩=some (.int .i64 R.cg):=cell_of (hold_blk (hold_up [_] h10)) 2 _ rfl
      have gX:=blk_eq (ow_D _ _ _ _ _) (hold_up [_] h10)
      have l3:(Instr.loadAt 103 (.pointer (some ⟨b4,52,none⟩))).run Tryz.prog wA=.ok (.agg #[iN c.q,R.dv]) wA:=ld_blk gX (by simp [hP,hSl,g10]) Tryz.underlying103 rfl (by kernel_rfl)
      have hq64:c.q≤64:=by have:=hI.R.h8; omega
      have hl64:(dqAll c o.dq).length≤64:=by have:=(hI.ow p o ho).dq.ok.sz; rw [dqAll_ln]; omega
      have hc:=dgetH (m - 1) hq64 hl64 (hold_up [_,_,_,_,_,_] gX)
      clear hC
      gi_wp2_with (first
        | (refine wpListIn_store_run rfl _ _ _ rfl s1 rfl rfl ?_)
        | (refine wpListIn_store_run rfl _ _ _ rfl s2 rfl rfl ?_)
        | (refine wpListIn_load_run rfl _ _ rfl l3 rfl ?_))
      refine ⟨trivial,fun h=>by simp [Fence.wide] at h,hc.mono ?_⟩
      clear hc l3 k2 hwA hy hy2 s1 s2
      rintro e wB ⟨dv1,xo,yo,rfl,gB⟩
      rw [hD] at gB
      have ldv:Ev.leafV dv1=true:=hold_leaf gB
      obtain ⟨wD,s3,gD⟩:=st_blk (t := 103) (mid':=[iN c.q,dv1]) (o:=52) (hold_up [_] gB) (by simp [hP,hSl,g10]) rfl (by intro y hy; simp only [List.mem_cons,List.not_mem_nil,or_false] at hy; have:=leaf_oc ldv; rcases hy with rfl | rfl <;> first | rfl | assumption) (by kernel_rfl)
      replace gD:=blk_eq (ow_D _ _ _ _ _).symm gD
      obtain ⟨R1,eC,eP,eK,hR1⟩ : ∃ R1:OwR,([iz 2,iz R.cv,iz R.cg]++(R.P++((g10 c p u1 gt1 tr1).toList++(R.S++[iN c.q,dv1]))) : List Value)=OwR.cs c R1∧R1.ps c ((o.now (some (.get u1))).deq (dqGet o.dq))=[isA dv1 (dqAll c ((o.now (some (.get u1))).deq (dqGet o.dq)).dq)]∧R1.kd=2∧OwR.Ok c p (some (.get u1)) R1:=⟨⟨2,R.cv,R.cg,R.P,(g10 c p u1 gt1 tr1).toList,R.S,dv1,R.tk,R.hd,R.bt,R.ll⟩,rfl,rfl,rfl,⟨hP,rfl,hSl,fun y hy=>(List.mem_append.1 hy).elim (fun h=>hOk.one y (List.mem_append_left _ h)) (fun h=>(List.mem_append.1 h).elim (oP y) (fun h=>hOk.one y (List.mem_append_right _ (List.mem_append_right _ h)))),ldv,hmac _⟩⟩
      rw [eC] at gD
      have hRl:=hR1.len
      have r1:(Instr.loadAt 56 (.pointer (some ⟨b1,0,none⟩))).run Tryz.prog wD=.ok (.agg (rV c (.slice ra1 m1.cells.length rk1) m1.ops (.slice (some ⟨ba,off,none⟩) c.n lk) (y)).toArray) wD:=ld_all (hold_up [_,_] gD) Tryz.underlying56 rfl (by kernel_rfl)
      have r2:(Instr.loadAt 114 (.pointer (some ⟨b4,0,none⟩))).run Tryz.prog wD=.ok (.agg (OwR.cs c R1).toArray) wD:=ld_all gD Tryz.underlying114 rfl (by rw [hRl]; kernel_rfl)
      have hw:=with12 (c:=c) (m - 1) (ra:=ra1) (rn:=m1.cells.length) (rk:=rk1) (ops:=m1.ops) (pts:=y) hnb.2 hp hpre hlen hRl hR1.ones hone (hold_up [_,_,_,_,_,_] gD)
      clear eC hRl
      gi_wp2_with (first
        | (refine wpListIn_store_run rfl _ _ _ rfl s3 rfl rfl ?_)
        | (refine wpListIn_load_run rfl _ _ rfl r1 rfl ?_)
        | (refine wpListIn_load_run rfl _ _ rfl r2 rfl ?_))
      refine ⟨trivial,fun h=>by simp [Fence.wide] at h,hw.mono ?_⟩
      clear hw r1 r2
      rintro e wB ⟨la1,lk1,rfl,gB⟩
      obtain ⟨wC,r4,gC⟩:=st_all (t := 56) (cs':=rV c (.slice ra1 m1.cells.length rk1) m1.ops (.slice la1 c.n lk1) (y)) (hold_up [_,_,_] gB) rfl (by simp [rV,Value.oneCell']) (by kernel_rfl)
      gi_wp2_with (first
        | (refine wpListIn_store_run rfl _ _ _ rfl r4 rfl rfl ?_))
      obtain ⟨x1,hx1⟩ : ∃ x1,atPoint c x p o (.get u)=x1:=⟨_,rfl⟩
      rw [hx1] at hA1
      have gE:=hold_drop (r:=[_]) (hold_up [_,_,_,_,_,_] (hold_up [_,_,_,_,_] (hold_up [_,_,_,_,_,_] (hold_up [_,_,_,_,_] (hold_up [_,_,_,_,_,_] (hold_up [_,_,_,_,_,_] gC))))))
      refine hK22 x1 (setR rs p R1) la1 ra1 lk1 rk1 _ wC (by first | rfl | exact hzI.symm) hx1 (hA1.len.trans hl) hA1.self rfl (refOk_set hR hA1.other hA1.self hR1) (by rw [setR_at,eK]; exact (hkdS ()).symm) ?_
      rw [hA1.m,hA1.pts]
      refine ref_close (L:=[_,_,_]) hp hA1 e1 ?_
      rw [eP]
      exact gE
    · have hzI:¬ ((u1.st:Nat) : Int)=0:=by omega
      replace hA0:=hA0 hz
      obtain ⟨R1,eC,eP,eK,hR1⟩ : ∃ R1:OwR,([iz 2,iz R.cv,iz R.cg]++(R.P++((g10 c p u1 gt1 tr1).toList++(R.S++[iN c.q,R.dv]))) : List Value)=OwR.cs c R1∧R1.ps c (o.now (some (.get u1)))=[isA R.dv (dqAll c (o.now (some (.get u1))).dq)]∧R1.kd=2∧OwR.Ok c p (some (.get u1)) R1:=⟨⟨2,R.cv,R.cg,R.P,(g10 c p u1 gt1 tr1).toList,R.S,R.dv,R.tk,R.hd,R.bt,R.ll⟩,rfl,rfl,rfl,⟨hP,rfl,hSl,fun y hy=>(List.mem_append.1 hy).elim (fun h=>hOk.one y (List.mem_append_left _ h)) (fun h=>(List.mem_append.1 h).elim (oP y) (fun h=>hOk.one y (List.mem_append_right _ (List.mem_append_right _ h)))),hOk.dv,hmac _⟩⟩
      rw [eC] at g9
      have hRl:=hR1.len
      have r1:(Instr.loadAt 56 (.pointer (some ⟨b1,0,none⟩))).run Tryz.prog w9=.ok (.agg (rV c (.slice ra1 m1.cells.length rk1) m1.ops (.slice (some ⟨ba,off,none⟩) c.n lk) (x.pts)).toArray) w9:=ld_all g9 Tryz.underlying56 rfl (by kernel_rfl)
      have r2:(Instr.loadAt 114 (.pointer (some ⟨b4,0,none⟩))).run Tryz.prog w9=.ok (.agg (OwR.cs c R1).toArray) w9:=ld_all (hold_up [_] g9) Tryz.underlying114 rfl (by rw [hRl]; kernel_rfl)
      have hw:=with12 (c:=c) (m - 1) (ra:=ra1) (rn:=m1.cells.length) (rk:=rk1) (ops:=m1.ops) (pts:=x.pts) hnb.2 hp hpre hlen hRl hR1.ones hone (hold_up [_,_,_,_,_] g9)
      clear eC hRl
      clear hC
      gi_wp2_with (first
        | (refine wpListIn_store_run rfl _ _ _ rfl s1 rfl rfl ?_)
        | (refine wpListIn_store_run rfl _ _ _ rfl s2 rfl rfl ?_)
        | (refine wpListIn_load_run rfl _ _ rfl r1 rfl ?_)
        | (refine wpListIn_load_run rfl _ _ rfl r2 rfl ?_))
      refine ⟨trivial,fun h=>by simp [Fence.wide] at h,hw.mono ?_⟩
      clear hw r1 r2
      rintro e wB ⟨la1,lk1,rfl,gB⟩
      obtain ⟨wC,r4,gC⟩:=st_all (t := 56) (cs':=rV c (.slice ra1 m1.cells.length rk1) m1.ops (.slice la1 c.n lk1) (x.pts)) (hold_up [_] gB) rfl (by simp [rV,Value.oneCell']) (by kernel_rfl)
      gi_wp2_with (first
        | (refine wpListIn_store_run rfl _ _ _ rfl r4 rfl rfl ?_))
      obtain ⟨x1,hx1⟩ : ∃ x1,atPoint c x p o (.get u)=x1:=⟨_,rfl⟩
      rw [hx1] at hA0
      have gE:=hold_drop (r:=[_]) (hold_up [_,_,_,_,_,_] (hold_up [_,_,_,_,_] (hold_up [_,_,_,_,_,_] (hold_up [_,_,_,_,_,_] (hold_up [_,_,_,_,_] (hold_up [_,_,_,_,_] gC))))))
      refine hK22 x1 (setR rs p R1) la1 ra1 lk1 rk1 _ wC (by first | rfl | exact hzI.symm) hx1 (hA0.len.trans hl) hA0.self rfl (refOk_set hR hA0.other hA0.self hR1) (by rw [setR_at,eK]; exact (hkdS ()).symm) ?_
      rw [hA0.m,hA0.pts]
      refine ref_close (L:=[_,_,_]) hp hA0 e1 ?_
      rw [eP]
      exact gE
  | steal v u =>
    have hkd1:o.kd=3:=hC.1
    rw [hkd1] at k0
    have hkdS:Unit→o.kd=3:=fun _=>hkd1
    have r1:(Instr.loadAt 56 (.pointer (some ⟨b1,0,none⟩))).run Tryz.prog w6=.ok (.agg (rV c (.slice ra x.m.cells.length rk) x.m.ops (.slice (some ⟨ba,off,none⟩) c.n lk) x.pts).toArray) w6:=ld_all (hold_up [_,_,_] g6) Tryz.underlying56 rfl (by kernel_rfl)
    have gR:Ev.Hold ctx (refL c x rs (.slice (some ⟨ba,off,none⟩) c.n lk) (.slice ra x.m.cells.length rk)++([Ev.blkA b4 mid 114,Ev.blkA b3 z3 62,Ev.blkA b2 rZ 56,Ev.blkA b1 (rV c (.slice ra x.m.cells.length rk) x.m.ops (.slice (some ⟨ba,off,none⟩) c.n lk) x.pts) 56]++r)) w6:=by
      refine ref_put (x:=x) (rs:=rs) hp ho (fun q _=>rfl) ?_
      unfold lA
      rw [e2,hRe,hmid]
      exact hold_perm (((perm4n [] _ _ [_,_,_,_] r).symm.cons _).cons _) (hold_up [_,_,_,_,_] (hold_up [_,_,_,_,_] (hold_up [_,_,_] (hold_up [_,_,_] (hold_up [_,_,_] (hold_up [_,_,_] g6))))))
    have hc:=steals12 (m - 1) hI ho hM hR gR
    have hMid:=(race_point hI ho hM).2.2.1
    clear gR hmid hkd hkd1 g6 hRe
    gi_wp2_with (refine wpListIn_load_run rfl _ _ rfl r1 rfl ?_)
    refine ⟨trivial,fun h=>by simp [Fence.wide] at h,hc.mono ?_⟩
    clear hc r1 k0
    rintro e w7 ⟨x1,rs1,lv1,rv1,hx1,rfl,hR1,hk1,g7⟩
    replace hMid:MidI c (B+8) x p o M1 (MacS.step c p (.steal v u) x.m).2 (atPoint c x p o (.steal v u)):=by rw [← hM1]; exact hMid
    rw [hx1] at hMid
    obtain ⟨o1,i1,_,_,_,i2,_⟩:=hMid.self
    have hl1:=hMid.len
    obtain ⟨u1,hu1⟩ : ∃ u1,M1=.steal v u1:=⟨_,hM1.symm⟩
    subst hu1
    have hOk1:=hR1 p o1 i1
    rw [i2] at hOk1
    obtain ⟨Q,hQ⟩ : ∃ Q,rs1 p=Q:=⟨_,rfl⟩
    obtain ⟨la1,lk1,rfl⟩ : ∃ a k,lv1=.slice a c.n k:=slr_val (hold_slr g7)
    obtain ⟨ra1,rk1,rfl⟩ : ∃ a k,rv1=.slice a x1.m.cells.length k:=slr_val (hold_slr (hold_drop (r:=[_]) g7))
    replace g7:=hold_perm (List.perm_append_comm_assoc _ [_,_,_,_] r) g7
    obtain ⟨w8,r4,g8⟩:=st_all (t := 56) (cs':=rV c (.slice ra1 x1.m.cells.length rk1) x1.m.ops (.slice la1 c.n lk1) x1.pts) (hold_up [_,_,_] g7) rfl (by simp [rV,Value.oneCell']) (by kernel_rfl)
    obtain ⟨pre2,post2,_,e22,hpre2⟩:=ows_split hp (hR1.len hl1)
    rw [hQ] at hOk1 e22
    obtain ⟨s1,s2,s3,s4⟩:=hOk1.mac
    have hgS:Ev.Hold ctx (lA c (.slice la1 c.n lk1) rs1::(([_,_,_,_] : List Ev.Asr)++_)) w8:=hold_up [_,_,_,_] g8
    unfold lA at hgS
    rw [e22] at hgS
    obtain ⟨ba1,off1,lk2,hav1,hcc1,hll1⟩:=sl_some hgS (by omega) (by decide)
    cases hav1
    have c8:w8.cell? ⟨b1,8,none⟩=some (.slice (some ⟨ba1,off1,none⟩) c.n lk1):=cell_of (hold_blk g8) 8 _ rfl
    have hcs:(Q.cs c)[36]? = some (.int .i64 (u1.st:Int)):=by
      rw [OwR.atS hOk1.P hOk1.G hOk1.S (j:=8) (by omega),s3]
      rfl
    have c36:w8.cell? ⟨ba1,off1+p * 54+36,none⟩=some (.int .i64 (u1.st:Int)):=by
      have hlt:p * 54+36 < c.n * 54:=by omega
      have h1:=at_mid (pre:=pre2) (post:=post2) hcs
      rw [hpre2] at h1
      rw [Nat.add_assoc,hcc1 _ hlt,h1]
    clear hM1 hcc1 hll1 hQ s1 s2 s3 hcs hgS
    gi_wp2_with (refine wpListIn_store_run rfl _ _ _ rfl r4 rfl rfl ?_)
    refine hK22 x1 rs1 (some ⟨ba1,off1,none⟩) ra1 lk1 rk1 o1 w8 rfl hx1 hl1 i1 i2 hR1 (hk1.trans (hkdS ()).symm) ?_
    exact hold_drop (r:=[_]) (hold_up [_,_,_] (hold_up [_,_,_] (hold_up [_,_,_] g8)))
end
end Go.Proofs.YtkmccgombmogmaaGreat
namespace Go.Proofs.YtkmccgombmogmaaGreat
open Go.RowKit
open Go.Ev (iz uz iN)
set_option linter.unusedVariables false
set_option linter.unusedSimpArgs false
set_option maxRecDepth 8000
section
variable {ctx:Ev.Ctx} {w:World} {r:List Ev.Asr} {c:Cfg} {p v:Nat}
theorem thereH (m:Nat) (hp:p < c.n) (h:Ev.Hold ctx r w) : CallsIn Fence.wide m Tryz.prog 78 #[c.v,.int .i64 (p:Int)] w fun e w'=>e=.returned (.bool true)∧Ev.Hold ctx r w' :=
 (callsIn_wide.2 (there_ok c p hp w)).mono (fun e w' ⟨h1,h2⟩=>⟨h1,hold_keep h h2⟩)
set_option maxHeartbeats 1000000 in
theorem new10 (m:Nat) (hp:p < c.n) (h:Ev.Hold ctx r w) : CallsIn Fence.wide m Tryz.prog 50 #[c.v,.int .i64 (p:Int)] w fun e w'=>e=.returned (.agg (g10 c p newGet 0 0))∧Ev.Hold ctx r w':=by
 refine callsIn_of_wp Tryz.func50 rfl trivial ?_ rfl
 simp only [Tryz.ntmps50,List.size_toArray,List.length_cons,List.length_nil,Nat.reduceAdd,Nat.reduceSub,Array.replicate_succ,Array.replicate_zero,List.push_toArray,List.append_toArray,List.nil_append,List.cons_append]
 obtain ⟨b1,hb1⟩ : ∃ b1,w.heap.size=b1:=⟨_,rfl⟩
 have g1:=hold_new (cfL c) 49 h
 rw [hb1] at g1
 have g2:=hold_new [.int .i64 0,.int .i64 0,.int .i64 0,.int .i64 0,.int .i64 0,.int .i64 0,.int .i64 0,.int .i64 0,.int .u64 0,.int .i64 0,.int .i64 0,.bool false,.int .i64 0] 108 g1
 rw [show (w.alloc (.cells (cfL c).toArray 49)).heap.size=b1+1 by rw [← hb1]; exact Array.size_push ..] at g2
 gi_wp2
 refine ⟨trivial,fun h=>by simp [Fence.wide] at h,(thereH (m - 1) hp g2).mono ?_⟩
 rintro e w3 ⟨rfl,g3⟩
 have k0:(Instr.loadAt 49 (.pointer (some ⟨b1,0,none⟩))).run Tryz.prog w3=.ok (.agg (cfL c).toArray) w3:=ld_all (hold_up [_] g3) Tryz.underlying49 rfl (by kernel_rfl)
 obtain ⟨w4,s1,g4⟩:=st_all (t := 108) (cs':=(g10 c p newGet 0 0).toList) g3 rfl (by simp [g10,Value.oneCell']) (by kernel_rfl)
 gi_wp2_with (first
  | (refine wpListIn_load_run rfl _ _ rfl k0 rfl ?_)
  | (refine wpListIn_store_run rfl _ _ _ rfl s1 rfl rfl ?_))
 exact post_cell rfl rfl rfl (lv_all g4 Tryz.underlying108 rfl (by kernel_rfl)) ⟨rfl,hold_drop (r:=[_,_]) g4⟩
set_option maxHeartbeats 1000000 in
theorem new09 (m:Nat) (hp:p < c.n) {g:Int} (hg:0≤g) (h:Ev.Hold ctx r w) : CallsIn Fence.wide m Tryz.prog 49 #[c.v,.int .i64 (p:Int),.int .i64 g] w fun e w'=>∃ hd,e=.returned (.agg (p9 c p (newPut g) (.slice none 0 0) hd))∧Ev.Hold ctx (isA hd [g]::r) w':=by
 have hn:newPut g=⟨1,g,0,[],[g]⟩:=if_pos hg
 rw [hn]
 have hgI:¬ g < 0:=by omega
 refine callsIn_of_wp Tryz.func49 rfl trivial ?_ rfl
 simp only [Tryz.ntmps49,List.size_toArray,List.length_cons,List.length_nil,Nat.reduceAdd,Nat.reduceSub,Array.replicate_succ,Array.replicate_zero,List.push_toArray,List.append_toArray,List.nil_append,List.cons_append]
 obtain ⟨b1,hb1⟩ : ∃ b1,w.heap.size=b1:=⟨_,rfl⟩
 have g1:=hold_new (cfL c) 49 h
 rw [hb1] at g1
 have g2:=hold_new [.int .i64 0,.int .i64 0,.int .i64 0,.int .i64 0,.int .i64 0,.int .i64 0,.int .i64 0,.int .i64 0,.int .i64 0,.int .u64 0,.slice none 0 0,.slice none 0 0] 106 g1
 rw [show (w.alloc (.cells (cfL c).toArray 49)).heap.size=b1+1 by rw [← hb1]; exact Array.size_push ..] at g2
 clear hn
 gi_wp2
 refine ⟨trivial,fun h=>by simp [Fence.wide] at h,(thereH (m - 1) hp g2).mono ?_⟩
 rintro e w3 ⟨rfl,g3⟩
 have k0:(Instr.loadAt 49 (.pointer (some ⟨b1,0,none⟩))).run Tryz.prog w3=.ok (.agg (cfL c).toArray) w3:=ld_all (hold_up [_] g3) Tryz.underlying49 rfl (by kernel_rfl)
 obtain ⟨b3,hb3⟩ : ∃ b3,w3.heap.size=b3:=⟨_,rfl⟩
 have g4:=hold_new [.int .i64 g] 3 g3
 rw [hb3] at g4
 obtain ⟨W4,hW4⟩ : ∃ W4,w3.alloc (.cells #[.int .i64 g] 3)=W4:=⟨_,rfl⟩
 rw [show w3.alloc (.cells ([.int .i64 g] : List Value).toArray 3)=W4 from hW4] at g4
 obtain ⟨w5,s1,g5⟩:=st_all (t := 106) (cs':=(p9 c p ⟨1,g,0,[],[g]⟩ (.slice none 0 0) (.slice (some ⟨b3,0,none⟩) 1 1)).toList) (hold_up [_] g4) rfl (by simp [p9,Value.oneCell']) (by kernel_rfl)
 gi_wp2_with (first
  | (refine wpListIn_load_run rfl _ _ rfl k0 rfl ?_)
  | (refine wpListIn_store_run rfl _ _ _ rfl s1 rfl rfl ?_))
 exact post_cell rfl rfl rfl (lv_all g5 Tryz.underlying106 rfl (by kernel_rfl)) ⟨.slice (some ⟨b3,0,none⟩) 1 1,rfl,blk_isA (hold_drop (r:=[_]) (hold_swap (hold_drop (r:=[_]) g5)))⟩
set_option maxHeartbeats 1000000 in
theorem new11 (m:Nat) (hp:p < c.n) (hv:v < c.n) (hpv:v ≠ p) (ll:Value) (h:Ev.Hold ctx r w) : CallsIn Fence.wide m Tryz.prog 51 #[c.v,.int .i64 (p:Int),.int .i64 (v:Int)] w fun e w'=>e=.returned (.agg (s11 c p v newSteal (.slice none 0 0) ll))∧Ev.Hold ctx r w':=by
 have hpvI:¬ (p:Int)=(v:Int):=by omega
 refine callsIn_of_wp Tryz.func51 rfl trivial ?_ rfl
 simp only [Tryz.ntmps51,List.size_toArray,List.length_cons,List.length_nil,Nat.reduceAdd,Nat.reduceSub,Array.replicate_succ,Array.replicate_zero,List.push_toArray,List.append_toArray,List.nil_append,List.cons_append]
 obtain ⟨b1,hb1⟩ : ∃ b1,w.heap.size=b1:=⟨_,rfl⟩
 have g1:=hold_new (cfL c) 49 h
 rw [hb1] at g1
 have g2:=hold_new [.int .i64 0,.int .i64 0,.int .i64 0,.int .i64 0,.int .i64 0,.int .i64 0,.int .i64 0,.int .i64 0,.int .i64 0,.int .u64 0,.slice none 0 0,.int .i64 0,.int .i64 0,.int .i64 0,.int .i64 0,.int .i64 0,.int .i64 0,.int .i64 0,.int .i64 0,.slice none 0 0,.int .i64 0,.int .u64 0,.int .i64 0,.int .i64 0] 112 g1
 rw [show (w.alloc (.cells (cfL c).toArray 49)).heap.size=b1+1 by rw [← hb1]; exact Array.size_push ..] at g2
 gi_wp2
 refine ⟨trivial,fun h=>by simp [Fence.wide] at h,(thereH (m - 1) hp g2).mono ?_⟩
 rintro e w3 ⟨rfl,g3⟩
 have hb:=cell_of (hold_blk (hold_up [_] g3))
 have k0:=hb 0 _ rfl
 have k1:=hb 1 _ rfl
 have k2:=hb 2 _ rfl
 have k3:=hb 3 _ rfl
 have k4:=hb 4 _ rfl
 have k5:=hb 5 _ rfl
 clear hb
 gi_wp2
 refine ⟨trivial,fun h=>by simp [Fence.wide] at h,(thereH (m - 1) hv g3).mono ?_⟩
 clear k0 k1 k2 k3 k4 k5
 rintro e w4 ⟨rfl,g4⟩
 have k0:(Instr.loadAt 49 (.pointer (some ⟨b1,0,none⟩))).run Tryz.prog w4=.ok (.agg (cfL c).toArray) w4:=ld_all (hold_up [_] g4) Tryz.underlying49 rfl (by kernel_rfl)
 obtain ⟨w5,s1,g5⟩:=st_all (t := 112) (cs':=(s11 c p v newSteal (.slice none 0 0) ll).toList) g4 rfl (by simp [s11,newSteal,lay0,Value.oneCell']) (by kernel_rfl)
 gi_wp2_with (first
  | (refine wpListIn_load_run rfl _ _ rfl k0 rfl ?_)
  | (refine wpListIn_store_run rfl _ _ _ rfl s1 rfl rfl ?_))
 exact post_cell rfl rfl rfl (lv_all g5 Tryz.underlying112 rfl (by kernel_rfl)) ⟨rfl,hold_drop (r:=[_,_]) g5⟩
end
end Go.Proofs.YtkmccgombmogmaaGreat
