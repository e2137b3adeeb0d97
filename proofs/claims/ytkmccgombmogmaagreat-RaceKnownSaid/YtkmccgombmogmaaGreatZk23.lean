/- Part of a proof: see the last text. -/
import Derived.Test.YtkmccgombmogmaaGreatZk22
import Derived.Test.YtkmccgombmogmaaGreatZk15
namespace Go.Proofs.YtkmccgombmogmaaGreat
open Go.RowKit
open Go.Ev (iz uz iN)
set_option linter.unusedVariables false
set_option linter.unusedSimpArgs false
set_option maxRecDepth 8000
section
variable {ctx:Ev.Ctx} {w:World} {r:List Ev.Asr} {c:Cfg} {x:RaceS} {rs:Nat→OwR} {p:Nat} {o:OwnS} {lv rv:Value} {B:Int}
set_option maxHeartbeats 4000000 in
theorem begin12 (m:Nat) (hl:x.ow.length=c.n) (ho:x.ow[p]? = some o) (hR:RefOk c x rs) (kd cv cg:Int) (h:Ev.Hold ctx (refL c x rs lv rv++r) w) :
  CallsIn Fence.wide m Tryz.prog 24 #[.agg (rV c rv x.m.ops lv x.pts).toArray,.int .i64 (p:Int),.agg #[.int .i64 kd,.int .i64 cv,.int .i64 cg]] w fun e w'=>∃ rs1 lv1,e=.returned (.tuple #[.agg (rV c rv x.m.ops lv1 x.pts).toArray,.int .i64 (begErr c p o kd cv cg)])∧RefOk c (begRace c x p o kd cv cg) rs1∧Ev.Hold ctx (refL c (begRace c x p o kd cv cg) rs1 lv1 rv++r) w':=by
 refine callsIn_of_wp Tryz.func24 rfl trivial ?_ rfl
 simp only [Tryz.ntmps24,List.size_toArray,List.length_cons,List.length_nil,Nat.reduceAdd,Nat.reduceSub,Array.replicate_succ,Array.replicate_zero,List.push_toArray,List.append_toArray,List.nil_append,List.cons_append]
 have hnb:=c.nb
 have hlt:p < x.ow.length:=(List.getElem?_eq_some_iff.1 ho).1
 have hp:p < c.n:=by rw [← hl]; exact hlt
 have hpI:(p:Int) < (c.n:Int):=by omega
 have hOk:=hR p o ho
 have t1:=ref_take hp ho h
 obtain ⟨pre,post,e1,e2,hpre⟩:=ows_split hp (hR.len hl)
 have hone:=ows_one (hR.ones hl)
 rw [e2] at hone
 obtain ⟨ra,rk,hrv⟩ : ∃ a k,rv=.slice a x.m.cells.length k:=slr_val (hold_slr (hold_drop (r:=[_]) t1))
 obtain ⟨R,hRe⟩ : ∃ R,rs p=R:=⟨_,rfl⟩
 rw [hRe] at t1 e2 hone hOk
 have hlen:(R.cs c).length=54:=hOk.len
 have t2:Ev.Hold ctx (Ev.slA 114 54 lv c.n (pre++(R.cs c++post))::(cA rv x.m::(R.ps c o++(famR c x rs p++r)))) w:=by rw [← e2]; exact t1
 obtain ⟨ba,off,lk,hav,hcc,hll⟩:=sl_some t2 (by omega) (by decide)
 rw [hrv,hav]
 rw [hrv,hav] at t2
 obtain ⟨b1,hb1⟩ : ∃ b1,w.heap.size=b1:=⟨_,rfl⟩
 obtain ⟨RV,hRV⟩ : ∃ RV,rV c (.slice ra x.m.cells.length rk) x.m.ops (.slice (some ⟨ba,off,none⟩) c.n lk) x.pts=RV:=⟨_,rfl⟩
 rw [hRV]
 have g1:=hold_new RV 56 t2
 rw [hb1] at g1
 obtain ⟨W1,hW1⟩ : ∃ W1,w.alloc (.cells RV.toArray 56)=W1:=⟨_,rfl⟩
 rw [hW1] at g1
 obtain ⟨b2,hb2⟩ : ∃ b2,W1.heap.size=b2:=⟨_,rfl⟩
 have g2:=hold_new [.int .i64 kd,.int .i64 cv,.int .i64 cg] 61 g1
 rw [hb2] at g2
 obtain ⟨W2,hW2⟩ : ∃ W2,W1.alloc (.cells #[.int .i64 kd,.int .i64 cv,.int .i64 cg] 61)=W2:=⟨_,rfl⟩
 rw [show W1.alloc (.cells ([.int .i64 kd,.int .i64 cv,.int .i64 cg] : List Value).toArray 61)=W2 from hW2] at g2
 obtain ⟨b3,hb3⟩ : ∃ b3,W2.heap.size=b3:=⟨_,rfl⟩
 have g3:=hold_new rZ 56 g2
 rw [hb3] at g3
 obtain ⟨W3,hW3⟩ : ∃ W3,W2.alloc (.cells #[.int .i64 0,.int .i64 0,.int .i64 0,.int .i64 0,.int .i64 0,.int .i64 0,.slice none 0 0,.int .u64 0,.slice none 0 0,.int .i64 0] 56)=W3:=⟨_,rfl⟩
 rw [show W2.alloc (.cells rZ.toArray 56)=W3 from hW3] at g3
 have r0:=ld_all (hold_up [_,_] g3) Tryz.underlying56 rfl (by rw [← hRV]; kernel_rfl)
 have hth:=there12H (m - 1) (p:Int) (c:=c) (ra:=ra) (rn:=x.m.cells.length) (rk:=rk) (ops:=x.m.ops) (pts:=x.pts) (la:=some ⟨ba,off,none⟩) (lk:=lk) hnb.2 g3
 rw [hRV,decide_eq_true (show 0≤(p:Int)∧(p:Int) < (c.n:Int) from ⟨by omega,by omega⟩)] at hth
 clear hcc hll t1
 gi_upto_region 1 with fail
 rename_i K3 a3 K1 a1
 have hRVl:RV.length=10:=by rw [← hRV]; rfl
 have hRVo:∀ y ∈ RV,y.oneCell'=true:=by rw [← hRV]; simp [rV,Value.oneCell']
 have hi1:(Tryz.prog.info? 56).map (·.size)=some RV.length:=by rw [hRVl]; kernel_rfl
 have hRV2:Unit→rV c (.slice ra x.m.cells.length rk) x.m.ops (.slice (some ⟨ba,off,none⟩) c.n lk) x.pts=RV:=fun _=>hRV
 have hback:∀ (wX:World),Ev.Hold ctx (Ev.slA 114 54 (.slice (some ⟨ba,off,none⟩) c.n lk) c.n (pre++(R.cs c++post))::cA (.slice ra x.m.cells.length rk) x.m::(R.ps c o++(famR c x rs p++r))) wX→Ev.Hold ctx (refL c x rs (.slice (some ⟨ba,off,none⟩) c.n lk) (.slice ra x.m.cells.length rk)++r) wX:=by
  intro wX hX
  refine ref_put (x:=x) (rs:=rs) hp ho (fun q _=>rfl) ?_
  unfold lA
  rw [e2,hRe]
  exact hX
 have hB:∀ (wX:World) {z9 z10 z11 z12 z13 z14 z15 z16 z17 z18 z19 z20 z21 z22 z23 z24 z25 z26 z27 z28 z29 z30 z31 z32 z33 z34 z35 z36 z37 z38 z39 z40 z41 z42 z43 z44 z45 z46 z47 z48 z49:Value},newMac c p kd cv cg=none→Ev.Hold ctx (Ev.blkA b3 rZ 56 :: Ev.blkA b2 [.int .i64 kd,.int .i64 cv,.int .i64 cg] 61 :: Ev.blkA b1 RV 56 :: Ev.slA 114 54 (.slice (some ⟨ba,off,none⟩) c.n lk) c.n (pre++(R.cs c++post))::cA (.slice ra x.m.cells.length rk) x.m::(R.ps c o++(famR c x rs p++r))) wX→K1 { tmps:=#[.agg RV.toArray,.int .i64 (p:Int),.agg #[.int .i64 kd,.int .i64 cv,.int .i64 cg],.pointer (some ⟨b1,0,none⟩),undef,.pointer (some ⟨b2,0,none⟩),.pointer (some ⟨b3,0,none⟩),.int .i64 0,undef,z9,z10,z11,z12,z13,z14,z15,z16,z17,z18,z19,z20,z21,z22,z23,z24,z25,z26,z27,z28,z29,z30,z31,z32,z33,z34,z35,z36,z37,z38,z39,z40,z41,z42,z43,z44,z45,z46,z47,z48,z49,.bool true,undef,undef,undef,undef,undef,undef,undef,undef,undef,undef,undef,undef,undef,undef,undef,undef,undef,undef,undef,undef,undef,undef,undef,undef,undef,undef,undef,undef,undef,undef,undef,undef,undef,undef,undef,undef,undef,undef,undef,undef,undef,undef],defers:=[] } wX:=by
  intro wX z9 z10 z11 z12 z13 z14 z15 z16 z17 z18 z19 z20 z21 z22 z23 z24 z25 z26 z27 z28 z29 z30 z31 z32 z33 z34 z35 z36 z37 z38 z39 z40 z41 z42 z43 z44 z45 z46 z47 z48 z49 hN hX
  refine a1 _ _ ?_
  have hE:begErr c p o kd cv cg=2:=by unfold begErr; rw [hN]; rfl
  have hG:begRace c x p o kd cv cg=x:=by unfold begRace; rw [hN]
  have r1:=ld_all (hold_up [_,_] hX) Tryz.underlying56 rfl hi1
  obtain ⟨wY,r2,gY⟩:=st_all (t := 56) (cs':=RV) hX hRVl hRVo hi1
  clear a1 a3 hth r0 hN hRV hW1 hW2 hW3 hb1 hb2 hb3 g1 g2 g3
  gi_wp2_with (first
   | (refine wpListIn_load_run rfl _ _ rfl r1 rfl ?_)
   | (refine wpListIn_store_run rfl _ _ _ rfl r2 rfl rfl ?_))
  refine post_cellT rfl rfl rfl (lv_all gY Tryz.underlying56 rfl hi1) ?_
  exact ⟨rs,_,by rw [hE,hRV2 ()]; rfl,by rw [hG]; exact hR,by rw [hG]; exact hback _ (hold_drop (r:=[_,_,_]) gY)⟩
 have hGd:∀ (wX:World) (M:MacS) {z9 z10 z11 z12 z13 z14 z15 z16 z17 z18 z19 z20 z21 z22 z23 z24 z25 z26 z27 z28 z29 z30 z31 z32 z33 z34 z35 z36 z37 z38 z39 z40 z41 z42 z43 z44 z45 z46 z47 z48 z49:Value},newMac c p kd cv cg=some M→Ev.Hold ctx (Ev.blkA b3 rZ 56 :: Ev.blkA b2 [.int .i64 kd,.int .i64 cv,.int .i64 cg] 61 :: Ev.blkA b1 RV 56 :: Ev.slA 114 54 (.slice (some ⟨ba,off,none⟩) c.n lk) c.n (pre++(R.cs c++post))::cA (.slice ra x.m.cells.length rk) x.m::(R.ps c o++(famR c x rs p++r))) wX→K1 { tmps:=#[.agg RV.toArray,.int .i64 (p:Int),.agg #[.int .i64 kd,.int .i64 cv,.int .i64 cg],.pointer (some ⟨b1,0,none⟩),undef,.pointer (some ⟨b2,0,none⟩),.pointer (some ⟨b3,0,none⟩),.int .i64 0,undef,z9,z10,z11,z12,z13,z14,z15,z16,z17,z18,z19,z20,z21,z22,z23,z24,z25,z26,z27,z28,z29,z30,z31,z32,z33,z34,z35,z36,z37,z38,z39,z40,z41,z42,z43,z44,z45,z46,z47,z48,z49,.bool false,undef,undef,undef,undef,undef,undef,undef,undef,undef,undef,undef,undef,undef,undef,undef,undef,undef,undef,undef,undef,undef,undef,undef,undef,undef,undef,undef,undef,undef,undef,undef,undef,undef,undef,undef,undef,undef,undef,undef,undef,undef,undef],defers:=[] } wX:=by
  intro wX M z9 z10 z11 z12 z13 z14 z15 z16 z17 z18 z19 z20 z21 z22 z23 z24 z25 z26 z27 z28 z29 z30 z31 z32 z33 z34 z35 z36 z37 z38 z39 z40 z41 z42 z43 z44 z45 z46 z47 z48 z49 hN hX
  refine a1 _ _ ?_
  clear a1 hB hth r0 hRV hW1 hW2 hW3 hb1 hb2 hb3 g1 g2 g3
  have c8:wX.cell? ⟨b1,8,none⟩=some (.slice (some ⟨ba,off,none⟩) c.n lk):=cell_of (hold_blk (hold_up [_,_] hX)) 8 _ (by rw [← hRV2 ()]; rfl)
  have r5:=ld_sl (o:=off+p * 54) (t := 114) (hold_up [_,_,_] hX) (by rw [hpre]) (by rw [hlen]; decide) Tryz.underlying114 rfl (by rw [hlen]; kernel_rfl)
  obtain ⟨b4,hb4⟩ : ∃ b4,wX.heap.size=b4:=⟨_,rfl⟩
  have gF:=hold_new oZ 114 hX
  rw [hb4] at gF
  obtain ⟨WF,hWF⟩ : ∃ WF,wX.alloc (.cells oZ.toArray 114)=WF:=⟨_,rfl⟩
  rw [hWF] at gF
  obtain ⟨wG,r6,gG⟩:=st_all (t := 114) (cs':=R.cs c) gF (by rw [hlen]; rfl) hOk.ones (by rw [hlen]; kernel_rfl)
  have k0:wG.cell? ⟨b4,0,none⟩=some (.int .i64 R.kd):=cell_of (hold_blk gG) 0 _ rfl
  have q0:wG.cell? ⟨b2,0,none⟩=some (.int .i64 kd):=cell_of (hold_blk (hold_up [_,_] gG)) 0 _ rfl
  have q1:wG.cell? ⟨b2,1,none⟩=some (.int .i64 cv):=cell_of (hold_blk (hold_up [_,_] gG)) 1 _ rfl
  have q2:wG.cell? ⟨b2,2,none⟩=some (.int .i64 cg):=cell_of (hold_blk (hold_up [_,_] gG)) 2 _ rfl
  have r1:=ld_all (hold_up [_,_,_] gG) Tryz.underlying56 rfl hi1
  have hMc:=hOk.mac
  cases hM:o.mac with
  | some M' =>
   rw [hM] at hMc
   have hk:R.kd > 0:=by
    cases M' with
    | put u=>rw [hMc.1]; decide
    | get u=>rw [hMc.1]; decide
    | steal v u=>rw [hMc.1]; decide
   have hE:begErr c p o kd cv cg=4:=by unfold begErr; rw [hN,hM]; rfl
   have hG:begRace c x p o kd cv cg=x:=by unfold begRace; rw [hN,hM]; rfl
   obtain ⟨wY,r2,gY⟩:=st_all (t := 56) (cs':=RV) (hold_up [_] gG) hRVl hRVo hi1
   clear hMc hM hN q0 q1 q2
   gi_wp2_with (first
    | (refine wpListIn_load_run rfl _ _ rfl r5 rfl ?_)
    | (refine wpListIn_store_run rfl _ _ _ rfl r6 rfl rfl ?_)
    | (refine wpListIn_load_run rfl _ _ rfl r1 rfl ?_)
    | (refine wpListIn_store_run rfl _ _ _ rfl r2 rfl rfl ?_))
   refine post_cellT rfl rfl rfl (lv_all gY Tryz.underlying56 rfl hi1) ?_
   exact ⟨rs,_,by rw [hE,hRV2 ()]; rfl,by rw [hG]; exact hR,by rw [hG]; exact hback _ (hold_drop (r:=[_,_,_,_]) gY)⟩
  | none =>
   rw [hM] at hMc
   have hk:R.kd=0:=hMc
   rw [hk] at k0
   obtain ⟨wH,s1,gH⟩:=st_blk (t := 61) (pre:=[]) (mid:=[iz R.kd,iz R.cv,iz R.cg]) (post:=R.P++(R.G++(R.S++[iN c.q,R.dv]))) (mid':=[.int .i64 kd,.int .i64 cv,.int .i64 cg]) (o:=0) gG rfl rfl (by simp [Value.oneCell']) (by kernel_rfl)
   have p0:wH.cell? ⟨b2,0,none⟩=some (.int .i64 kd):=cell_of (hold_blk (hold_up [_,_] gH)) 0 _ rfl
   have p1:wH.cell? ⟨b2,1,none⟩=some (.int .i64 cv):=cell_of (hold_blk (hold_up [_,_] gH)) 1 _ rfl
   have p2:wH.cell? ⟨b2,2,none⟩=some (.int .i64 cg):=cell_of (hold_blk (hold_up [_,_] gH)) 2 _ rfl
   clear hMc hk
   gi_upto_region 9 with (first
    | (refine wpListIn_load_run rfl _ _ rfl r5 rfl ?_)
    | (refine wpListIn_store_run rfl _ _ _ rfl r6 rfl rfl ?_)
    | (refine wpListIn_store_run rfl _ _ _ rfl s1 rfl rfl ?_))
   rename_i K13 a13 K9 a9
   have hK13:∀ (wY:World) (R1:OwR) {z9 z10 z11 z12 z13 z14 z15 z16 z17 z18 z19 z20 z21 z22 z23 z24 z25 z26 z27 z28 z29 z30 z31 z32 z33 z34 z35 z36 z37 z38 z39 z40 z41 z42 z43 z44 z45 z46 z47 z48 z49 z50 z51 z52 z53 z54 z55 z56 z57 z58 z59 z60 z61 z62 z63 z64 z65 z66 z67 z68 z69 z70 z71 z72 z73 z74 z75 z76 z77 z78 z79 z80 z81 z82 z83 z84 z85 z86 z87 z88 z89 z90 z91 z92:Value},R1.Ok c p (some M)→Ev.Hold ctx (Ev.blkA b4 (R1.cs c) 114 :: Ev.blkA b3 rZ 56 :: Ev.blkA b2 [.int .i64 kd,.int .i64 cv,.int .i64 cg] 61 :: Ev.blkA b1 RV 56 :: Ev.slA 114 54 (.slice (some ⟨ba,off,none⟩) c.n lk) c.n (pre++(R.cs c++post))::cA (.slice ra x.m.cells.length rk) x.m::(R1.ps c (o.beg kd cv cg M)++(famR c x rs p++r))) wY→K13 { tmps:=#[.agg RV.toArray,.int .i64 (p:Int),.agg #[.int .i64 kd,.int .i64 cv,.int .i64 cg],.pointer (some ⟨b1,0,none⟩),undef,.pointer (some ⟨b2,0,none⟩),.pointer (some ⟨b3,0,none⟩),.int .i64 0,.pointer (some ⟨b4,0,none⟩),z9,z10,z11,z12,z13,z14,z15,z16,z17,z18,z19,z20,z21,z22,z23,z24,z25,z26,z27,z28,z29,z30,z31,z32,z33,z34,z35,z36,z37,z38,z39,z40,z41,z42,z43,z44,z45,z46,z47,z48,z49,z50,z51,z52,z53,z54,z55,z56,z57,z58,z59,z60,z61,z62,z63,z64,z65,z66,z67,z68,z69,z70,z71,z72,z73,z74,z75,z76,z77,z78,z79,z80,z81,z82,z83,z84,z85,z86,z87,z88,z89,z90,z91,z92],defers:=[] } wY:=by
    intro wY R1 z9 z10 z11 z12 z13 z14 z15 z16 z17 z18 z19 z20 z21 z22 z23 z24 z25 z26 z27 z28 z29 z30 z31 z32 z33 z34 z35 z36 z37 z38 z39 z40 z41 z42 z43 z44 z45 z46 z47 z48 z49 z50 z51 z52 z53 z54 z55 z56 z57 z58 z59 z60 z61 z62 z63 z64 z65 z66 z67 z68 z69 z70 z71 z72 z73 z74 z75 z76 z77 z78 z79 z80 z81 z82 z83 z84 z85 z86 z87 z88 z89 z90 z91 z92 hR1 hY
    refine a13 _ _ ?_
    have hE:begErr c p o kd cv cg=0:=by unfold begErr; rw [hN,hM]; rfl
    have hG:begRace c x p o kd cv cg=x.own p (o.beg kd cv cg M):=by unfold begRace; rw [hN,hM]; rfl
    have hA:AtI x p x.m x.pts (o.beg kd cv cg M) (x.own p (o.beg kd cv cg M)):=AtI.no hlt x.m _
    have hRl:=hR1.len
    have r2:(Instr.loadAt 114 (.pointer (some ⟨b4,0,none⟩))).run Tryz.prog wY=.ok (.agg (R1.cs c).toArray) wY:=ld_all hY Tryz.underlying114 rfl (by rw [hRl]; kernel_rfl)
    have r7:=ld_all (hold_up [_,_,_] hY) Tryz.underlying56 rfl hi1
    have hw:=with12 (c:=c) (m - 1) (ra:=ra) (rn:=x.m.cells.length) (rk:=rk) (ops:=x.m.ops) (pts:=x.pts) hnb.2 hp hpre hlen hRl hR1.ones hone (hold_up [_,_,_,_] hY)
    rw [hRV2 ()] at hw
    clear hN hM a13 a9 gH gG gF s1 r6 r5 r1 k0 q0 q1 q2 p0 hRl
    gi_wp2_with (first
     | (refine wpListIn_load_run rfl _ _ rfl r7 rfl ?_)
     | (refine wpListIn_load_run rfl _ _ rfl r2 rfl ?_))
    refine ⟨trivial,fun h=>by simp [Fence.wide] at h,hw.mono ?_⟩
    clear hw r2 r7
    rintro e wZ ⟨la1,lk1,rfl,gZ⟩
    obtain ⟨wC,r4,gC⟩:=st_all (t := 56) (cs':=rV c (.slice ra x.m.cells.length rk) x.m.ops (.slice la1 c.n lk1) x.pts) (hold_up [_,_] gZ) rfl (by simp [rV,Value.oneCell']) (by kernel_rfl)
    gi_wp2_with (refine wpListIn_store_run rfl _ _ _ rfl r4 rfl rfl ?_)
    refine post_cellT rfl rfl rfl (lv_all gC Tryz.underlying56 rfl (by kernel_rfl)) ?_
    refine ⟨setR rs p R1,.slice la1 c.n lk1,by rw [hE]; rfl,by rw [hG]; exact refOk_set hR hA.other hA.self hR1,?_⟩
    rw [hG]
    exact ref_close (L:=[]) hp hA e1 (hold_drop (r:=[_,_,_,_]) (hold_up [_,_,_,_,_] (hold_up [_,_,_,_,_] (hold_up [_,_,_,_,_] (hold_up [_,_,_,_,_] (hold_up [_,_] (hold_up [_,_,_,_,_] gC)))))))
   clear a13
   have lc:(Instr.loadAt 49 (.pointer (some ⟨b1,0,none⟩))).run Tryz.prog wH=.ok (.agg (cfL c).toArray) wH:=ld_blk (pre:=[]) (mid:=cfL c) (post:=[.slice ra x.m.cells.length rk,uz x.m.ops,.slice (some ⟨ba,off,none⟩) c.n lk,iz x.pts]) (by have h1:=hold_up [_,_,_] gH; rw [← hRV2 ()] at h1; exact h1) rfl Tryz.underlying49 rfl (by kernel_rfl)
   rw [show R.ps c o=[isA R.dv (dqAll c o.dq)] by unfold OwR.ps; rw [hM]; rfl] at gH
   clear hM r5 r6 r1 s1 gF gG k0 q0 q1 q2 p0 hWF hb4 c8
   unfold newMac at hN
   split at hN
   ·next hq =>
    obtain ⟨hq1,hcg⟩:=hq
    subst hq1
    have hn:newPut cg=⟨1,cg,0,[],[cg]⟩:=if_pos hcg
    rw [hn] at hN
    cases hN
    have hc0:=new09 (m - 1) hp hcg gH
    rw [hn] at hc0
    clear hn hcg
    have hc:=hc0
    gi_wp2_with (refine wpListIn_load_run rfl _ _ rfl lc rfl ?_)
    refine ⟨trivial,fun h=>by simp [Fence.wide] at h,hc.mono ?_⟩
    clear hc lc
    rintro e wI ⟨hd,rfl,gI⟩
    clear hc0
    have lh8:Ev.leafV hd=true:=hold_leaf gI
    have oP:∀ y ∈ (p9 c p ⟨1,cg,0,[],[cg]⟩ (.slice none 0 0) hd).toList,y.oneCell'=true:=by
     intro y hy
     simp only [p9,List.mem_cons,List.not_mem_nil,or_false] at hy
     have:=leaf_oc lh8
     rcases hy with rfl|rfl|rfl|rfl|rfl|rfl|rfl|rfl|rfl|rfl|rfl|rfl <;> first | rfl | assumption
    obtain ⟨wJ,s2,gJ⟩:=st_blk (t := 106) (mid:=R.P) (mid':=(p9 c p ⟨1,cg,0,[],[cg]⟩ (.slice none 0 0) hd).toList) (o:=3) (pre:=[.int .i64 1,.int .i64 cv,.int .i64 cg]) (hold_up [_] gI) rfl hOk.P.symm oP (by first | kernel_rfl | (rw [s11_len]; kernel_rfl))
    replace gJ:=gJ
    gi_wp2_with (refine wpListIn_store_run rfl _ _ _ rfl s2 rfl rfl ?_)
    refine hK13 wJ ⟨1,cv,cg,(p9 c p ⟨1,cg,0,[],[cg]⟩ (.slice none 0 0) hd).toList,R.G,R.S,R.dv,.slice none 0 0,hd,R.bt,R.ll⟩ ⟨rfl,hOk.G,hOk.S,fun y hy=>(List.mem_append.1 hy).elim (oP y) (fun h=>hOk.one y (List.mem_append_right _ h)),hOk.dv,⟨rfl,rfl,rfl⟩⟩ ?_
    exact (hold_up [_,_,_,_,_,_,_,_] (hold_up [_,_,_,_,_,_,_,_] (hold_up [_,_,_,_,_,_,_,_] (hold_up [_,_,_,_,_,_,_,_] (hold_up [_,_,_,_,_,_,_,_] (hold_up [_,_,_,_,_,_,_,_] (hold_up [_,_,_,_,_,_,_,_] (hold_up [_] (hold_up [_,_] (gJ.nilSl (e := 3) (sz:=1)))))))))))
   ·split at hN
    ·next hq2 =>
     subst hq2
     cases hN
     have hc:=new10 (m - 1) hp gH
     gi_wp2_with (refine wpListIn_load_run rfl _ _ rfl lc rfl ?_)
     refine ⟨trivial,fun h=>by simp [Fence.wide] at h,hc.mono ?_⟩
     clear hc lc
     rintro e wI ⟨rfl,gI⟩
     have oP:∀ y ∈ (g10 c p newGet 0 0).toList,y.oneCell'=true:=by
      intro y hy
      simp only [g10,List.mem_cons,List.not_mem_nil,or_false] at hy
      rcases hy with rfl|rfl|rfl|rfl|rfl|rfl|rfl|rfl|rfl|rfl|rfl|rfl|rfl <;> rfl
     obtain ⟨wJ,s2,gJ⟩:=st_blk (t := 108) (mid:=R.G) (mid':=(g10 c p newGet 0 0).toList) (o:=15) (pre:=[.int .i64 2,.int .i64 cv,.int .i64 cg]++R.P) (blk_eq (ow_G _ _ _ _) gI) (by simp [hOk.P]) hOk.G.symm oP (by first | kernel_rfl | (rw [s11_len]; kernel_rfl))
     replace gJ:=blk_eq (ow_G _ _ _ _).symm gJ
     gi_wp2_with (refine wpListIn_store_run rfl _ _ _ rfl s2 rfl rfl ?_)
     refine hK13 wJ ⟨2,cv,cg,R.P,(g10 c p newGet 0 0).toList,R.S,R.dv,R.tk,R.hd,R.bt,R.ll⟩ ⟨hOk.P,rfl,hOk.S,fun y hy=>(List.mem_append.1 hy).elim (fun h=>hOk.one y (List.mem_append_left _ h)) (fun h=>(List.mem_append.1 h).elim (oP y) (fun h=>hOk.one y (List.mem_append_right _ (List.mem_append_right _ h)))),hOk.dv,⟨rfl,0,0,rfl,fun h=>by cases h⟩⟩ ?_
     exact gJ
    ·split at hN
     ·next hq3 =>
      obtain ⟨hq4,hq5,hq6,hq7⟩:=hq3
      subst hq4
      obtain ⟨v,rfl⟩ : ∃ v:Nat,cv=(v:Int):=⟨cv.toNat,by omega⟩
      rw [Int.toNat_natCast] at hN
      cases hN
      have hvn:v < c.n:=by omega
      have hvp:v ≠ p:=by omega
      have hc:=new11 (m - 1) hp hvn hvp (.slice none 0 0) gH
      gi_wp2_with (refine wpListIn_load_run rfl _ _ rfl lc rfl ?_)
      refine ⟨trivial,fun h=>by simp [Fence.wide] at h,hc.mono ?_⟩
      clear hc lc
      rintro e wI ⟨rfl,gI⟩
      have oP:=s11_ones (c:=c) (p:=p) (v:=v) (u:=newSteal) (bt:=.slice none 0 0) (ll:=.slice none 0 0) rfl rfl
      obtain ⟨wJ,s2,gJ⟩:=st_blk (t := 112) (mid:=R.S) (mid':=(s11 c p v newSteal (.slice none 0 0) (.slice none 0 0)).toList) (o:=28) (pre:=[.int .i64 3,.int .i64 (v:Int),.int .i64 cg]++(R.P++R.G)) (blk_eq (ow_S _ _ _ _ _) gI) (by simp [hOk.P,hOk.G]) ((s11_len ..).trans hOk.S.symm) oP (by first | kernel_rfl | (rw [s11_len]; kernel_rfl))
      replace gJ:=blk_eq (ow_S _ _ _ _ _).symm gJ
      gi_wp2_with (refine wpListIn_store_run rfl _ _ _ rfl s2 rfl rfl ?_)
      refine hK13 wJ ⟨3,(v:Int),cg,R.P,R.G,(s11 c p v newSteal (.slice none 0 0) (.slice none 0 0)).toList,R.dv,R.tk,R.hd,.slice none 0 0,.slice none 0 0⟩ ⟨hOk.P,hOk.G,s11_len c p v newSteal (.slice none 0 0) (.slice none 0 0),fun y hy=>(List.mem_append.1 hy).elim (fun h=>hOk.one y (List.mem_append_left _ h)) (fun h=>(List.mem_append.1 h).elim (fun h=>hOk.one y (List.mem_append_right _ (List.mem_append_left _ h))) (oP y)),hOk.dv,⟨rfl,rfl,rfl,rfl⟩⟩ ?_
      exact (hold_up [_,_,_,_,_,_,_] (hold_up [_,_,_,_,_,_,_] (hold_up [_,_,_,_,_,_,_] (hold_up [_,_,_,_,_,_,_] (hold_up [_,_,_,_,_,_,_] (hold_up [_,_,_,_,_,_,_] (hold_up [_,_,_,_,_,_,_] (gJ.nilSl (e := 3) (sz:=1)))))))))
     ·cases hN
 have nN:¬ (kd=1∧0≤cg)→¬ kd=2→¬ (kd=3∧0≤cv∧cv < (c.n:Int)∧cv ≠ (p:Int))→newMac c p kd cv cg=none:=fun h1 h2 h3=>by unfold newMac; rw [if_neg h1,if_neg h2,if_neg h3]
 clear a1 a3 hW1 hW2 hW3 hb1 hb2 hb3 g1 g2
 gi_wp2_with (refine wpListIn_load_run rfl _ _ rfl r0 rfl ?_)
 refine ⟨trivial,fun h=>by simp [Fence.wide] at h,hth.mono ?_⟩
 clear hth r0 g3
 rintro e w4 ⟨rfl,g4⟩
 have p0:w4.cell? ⟨b2,0,none⟩=some (.int .i64 kd):=cell_of (hold_blk (hold_up [_] g4)) 0 _ rfl
 have p1:w4.cell? ⟨b2,1,none⟩=some (.int .i64 cv):=cell_of (hold_blk (hold_up [_] g4)) 1 _ rfl
 have p2:w4.cell? ⟨b2,2,none⟩=some (.int .i64 cg):=cell_of (hold_blk (hold_up [_] g4)) 2 _ rfl
 by_cases h1:kd < 1
 ·have hN:=nN (by omega) (by omega) (by omega)
  clear hGd nN hRV
  gi_wp2
  ·rename_i g1 g2
   exact absurd g1 (by intro h; cases h)
  ·rename_i g1 g2
   exact absurd g1 (by intro h; cases h)
  refine ⟨trivial,?_⟩
  gi_wp2
  first | done | exact hN | exact hB _ hN g4
 by_cases h3:kd > 3
 ·have hN:=nN (by omega) (by omega) (by omega)
  clear hGd nN hRV
  gi_wp2
  ·rename_i g1 g2
   exact absurd g1 (by intro h; cases h)
  ·rename_i g1 g2
   exact absurd g1 (by intro h; cases h)
  refine ⟨trivial,?_⟩
  gi_wp2
  first | done | exact hN | exact hB _ hN g4
 have hk:kd=1∨kd=2∨kd=3:=by omega
 rcases hk with rfl | rfl | rfl
 ·by_cases h4:cg < 0
  ·have hN:=nN (by omega) (by omega) (by omega)
   clear hGd nN hRV
   gi_wp2
   ·rename_i g1 g2
    exact absurd g1 (by intro h; cases h)
   ·rename_i g1 g2
    exact absurd g1 (by intro h; cases h)
   refine ⟨trivial,?_⟩
   gi_wp2
   first | done | exact hN | exact hB _ hN g4
  ·have hN:newMac c p 1 cv cg=some (.put (newPut cg)):=if_pos ⟨rfl,by omega⟩
   clear hB nN hRV
   gi_wp2
   refine ⟨trivial,?_⟩
   gi_wp2
   simp only [show decide (cg < 0)=false from decide_eq_false (by omega)]
   first | done | exact hN | exact hGd _ _ hN g4
 ·have hN:newMac c p 2 cv cg=some (.get newGet):=rfl
  clear hB nN hRV
  gi_wp2
  refine ⟨trivial,?_⟩
  gi_wp2
  first | done | exact hN | exact hGd _ _ hN g4
 ·have hth:=there12H (m - 1) cv (c:=c) (ra:=ra) (rn:=x.m.cells.length) (rk:=rk) (ops:=x.m.ops) (pts:=x.pts) (la:=some ⟨ba,off,none⟩) (lk:=lk) hnb.2 g4
  have hb:=cell_of (hold_blk (hold_up [_,_] g4))
  rw [← hRV] at hb
  have c0:w4.cell? ⟨b1,0,none⟩=some (.int .i64 (c.n:Int)):=hb 0 _ rfl
  have c1:w4.cell? ⟨b1,1,none⟩=some (.int .i64 (c.q:Int)):=hb 1 _ rfl
  have c2:w4.cell? ⟨b1,2,none⟩=some (.int .i64 c.g):=hb 2 _ rfl
  have c3:w4.cell? ⟨b1,3,none⟩=some (.int .i64 c.m):=hb 3 _ rfl
  have c4:w4.cell? ⟨b1,4,none⟩=some (.int .i64 c.t):=hb 4 _ rfl
  have c5:w4.cell? ⟨b1,5,none⟩=some (.int .i64 c.s):=hb 5 _ rfl
  have c6:w4.cell? ⟨b1,6,none⟩=some (.slice ra x.m.cells.length rk):=hb 6 _ rfl
  have c7:w4.cell? ⟨b1,7,none⟩=some (.int .u64 x.m.ops):=hb 7 _ rfl
  have c8:w4.cell? ⟨b1,8,none⟩=some (.slice (some ⟨ba,off,none⟩) c.n lk):=hb 8 _ rfl
  have c9:w4.cell? ⟨b1,9,none⟩=some (.int .i64 x.pts):=hb 9 _ rfl
  clear hb hRV
  by_cases hcv:0≤cv∧cv < (c.n:Int)
  ·rw [decide_eq_true hcv] at hth
   by_cases hcp:cv=(p:Int)
   ·have hN:=nN (by omega) (by omega) (by omega)
    clear hGd nN
    subst hcp
    gi_wp2
    refine ⟨trivial,fun h=>by simp [Fence.wide] at h,hth.mono ?_⟩
    clear hth
    rintro e w5 ⟨rfl,g5⟩
    have q1:=cell_of (hold_blk (hold_up [_] g5)) 1 (.int .i64 (p:Int)) rfl
    gi_wp2
    first | done | exact hN | exact hB _ hN g5
   ·have hN:newMac c p 3 cv cg=some (.steal cv.toNat newSteal):=by
     unfold newMac
     rw [if_neg (by omega),if_neg (by omega),if_pos ⟨rfl,hcv.1,hcv.2,hcp⟩]
    clear hB nN
    gi_wp2
    refine ⟨trivial,fun h=>by simp [Fence.wide] at h,hth.mono ?_⟩
    clear hth
    rintro e w5 ⟨rfl,g5⟩
    have q1:=cell_of (hold_blk (hold_up [_] g5)) 1 (.int .i64 cv) rfl
    gi_wp2
    simp only [show decide (cv=(p:Int))=false from decide_eq_false hcp,show (cv == (p:Int))=false from beq_false_of_ne hcp]
    first | done | exact hN | exact hGd _ _ hN g5
  ·rw [decide_eq_false hcv] at hth
   have hN:=nN (by omega) (by omega) (by omega)
   clear hGd nN
   gi_wp2
   refine ⟨trivial,fun h=>by simp [Fence.wide] at h,hth.mono ?_⟩
   clear hth
   rintro e w5 ⟨rfl,g5⟩
   gi_wp2
   first | done | exact hN | exact hB _ hN g5
end
end Go.Proofs.YtkmccgombmogmaaGreat
namespace Go.Proofs.YtkmccgombmogmaaGreat
open Go.RowKit
open Go.Ev (iz iN uz)
set_option linter.unusedVariables false
set_option linter.unusedSimpArgs false
set_option maxRecDepth 8000
theorem s11_at (c:Cfg) (p v:Nat) (u:StealS) (bt ll:Value) : (s11 c p v u bt ll)[10]? = some bt∧(s11 c p v u bt ll)[11]? = some (iN u.many)∧∀ l,u.ly=some l→(s11 c p v u bt ll)[19]? = some ll:=by
 unfold s11
 refine ⟨?_,?_,?_⟩
 ·cases u.ly <;> rfl
 ·cases u.ly <;> rfl
 ·intro l hl
  rw [hl]
  rfl
set_option maxHeartbeats 2000000 in
theorem hands11 {ctx:Ev.Ctx} {w:World} {r:List Ev.Asr} {c:Cfg} {p v:Nat} (n:Nat) {u:StealS} (hu:StealOk u) {bt ll:Value} (h:Ev.Hold ctx (s11L u bt ll++r) w) :
  CallsIn Fence.wide n Tryz.prog 92 #[.agg (s11 c p v u bt ll)] w fun e w'=>∃ y,e=.returned y∧Ev.Hold ctx (isA y u.hands::(s11L u bt ll++r)) w':=by
 refine callsIn_of_wp Tryz.func92 rfl trivial ?_ rfl
 simp only [Tryz.ntmps92,List.size_toArray,List.length_cons,List.length_nil,Nat.reduceAdd,Nat.reduceSub,Array.replicate_succ,Array.replicate_zero,List.push_toArray,List.append_toArray,List.nil_append,List.cons_append]
 obtain ⟨a10,a11,a19⟩:=s11_at c p v u bt ll
 obtain ⟨SA,hSA⟩ : ∃ SA,s11 c p v u bt ll=SA:=⟨_,rfl⟩
 rw [hSA] at a10 a11 a19 ⊢
 have g1:=hold_new SA.toList 112 h
 rw [Array.toArray_toList] at g1
 obtain ⟨b1,hb1⟩ : ∃ b1,w.heap.size=b1:=⟨_,rfl⟩
 obtain ⟨W1,hW1⟩ : ∃ W1,w.alloc (.cells SA 112)=W1:=⟨_,rfl⟩
 rw [hb1,hW1] at g1
 have bb:=hold_blk g1
 rw [Array.toArray_toList] at bb
 have c11:W1.cell? ⟨b1,11,none⟩=some (iN u.many):=cell_of bb 11 _ a11
 cases hl:u.ly with
 | none =>
  have hm:iN u.many=.int .i64 0:=by unfold StealS.many; rw [hl]; rfl
  rw [hm] at c11
  gi_wp2
  refine bodyPost_ret (results_tmp rfl _ _ _) rfl ⟨_,rfl,?_⟩
  have e0:u.hands=[]:=by unfold StealS.hands; rw [hl]
  rw [e0]
  exact (hold_drop (r:=[_]) g1).nilSl (e := 3) (sz:=1)
 | some l =>
  obtain ⟨hB,hpos⟩:=hu.lay l hl
  have hbl:=hu.bt
  have hls:=hB.ls
  have hm:iN u.many=.int .i64 (u.bt.length:Int):=by unfold StealS.many; rw [hl]
  have hne:¬ ((u.bt.length:Nat) : Int)=0:=by omega
  rw [hm] at c11
  have e1:s11L u bt ll=[isA bt u.bt,isA ll l.ls]:=by unfold s11L; rw [hl]
  rw [e1] at g1 ⊢
  have e2:u.hands=[u.bt.getD 0 0]++l.ls:=by
   unfold StealS.hands
   rw [hl]
   cases hb:u.bt with
   | nil=>rw [hb] at hpos; exact absurd hpos (by decide)
   | cons g t=>rfl
  rw [e2]
  obtain ⟨ba,bk,rfl⟩:=slr_val (hold_slr (hold_drop (r:=[_]) g1))
  obtain ⟨bo,of,rfl,cb⟩:=slr_cell (hold_slr (hold_drop (r:=[_]) g1)) hpos
  rw [Nat.add_zero] at cb
  have c10:W1.cell? ⟨b1,10,none⟩=some (.slice (some ⟨bo,of,none⟩) u.bt.length bk):=cell_of bb 10 _ a10
  have c19:W1.cell? ⟨b1,19,none⟩=some ll:=cell_of bb 19 _ (a19 l hl)
  obtain ⟨g0,hg0⟩ : ∃ g0,u.bt.getD 0 0=g0:=⟨_,rfl⟩
  rw [hg0] at cb ⊢
  have hposI:(0:Int) < ((u.bt.length:Nat) : Int):=by omega
  obtain ⟨W2,hW2⟩ : ∃ W2,W1.alloc (.cells #[.int .i64 g0] 3)=W2:=⟨_,rfl⟩
  obtain ⟨b2,hb2⟩ : ∃ b2,W1.heap.size=b2:=⟨_,rfl⟩
  have g2:Ev.Hold ctx (isA (.slice none 0 0) []::isA (.slice (some ⟨b2,0,none⟩) 1 1) [g0]::Ev.blkA b1 SA.toList 112 :: isA (.slice (some ⟨bo,of,none⟩) u.bt.length bk) u.bt::isA ll l.ls::r) W2:=by
   have k:=hold_new [.int .i64 g0] 3 g1
   rw [hb2] at k
   rw [← hW2]
   exact (blk_isA k).nilSl (e := 3) (sz:=1)
  obtain ⟨a1,k1,w3,r1,g3⟩:=aapp (t := 35) rfl (by simp) g2
  obtain ⟨a2,k2,w4,r2,g4⟩:=aapp (t := 35) rfl (by simp; omega) (hold_swap (hold_up [_,_,_,_] g3))
  have bb3:=hold_blk (hold_up [_,_] g3)
  rw [Array.toArray_toList] at bb3
  have c19b:w3.cell? ⟨b1,19,none⟩=some ll:=cell_of bb3 19 _ (a19 l hl)
  gi_wp2_with (gi_at_builtin; first | refine wpListIn_append_run rfl _ _ _ rfl r1 ?_ | refine wpListIn_append_run rfl _ _ _ rfl r2 ?_)
  rw [List.nil_append,show ([g0]++l.ls).length=l.ls.length+1 by simp] at g4
  have g5:=hold_swap (hold_up [_,_] (hold_drop (r:=[_]) (hold_up [_,_] (hold_drop (r:=[_]) (hold_up [_,_] g4)))))
  exact bodyPost_ret (results_tmp rfl _ _ _) rfl ⟨.slice a2 (l.ls.length+1) k2,rfl,g5⟩
end Go.Proofs.YtkmccgombmogmaaGreat
namespace Go.Proofs.YtkmccgombmogmaaGreat
open Go.RowKit
open Go.Ev (iz uz iN)
set_option linter.unusedVariables false
set_option linter.unusedSimpArgs false
set_option maxRecDepth 8000
section
variable {ctx:Ev.Ctx} {w:World} {r:List Ev.Asr} {c:Cfg} {x:RaceS} {rs:Nat→OwR} {p:Nat} {o:OwnS} {lv rv:Value} {B:Int}
theorem ref_shape (h:Ev.Hold ctx (refL c x rs lv rv++r) w) : (∃ a k,rv=.slice a x.m.cells.length k)∧∃ a k,lv=.slice a c.n k :=
 ⟨slr_val (hold_slr (hold_drop (r:=[_]) h)),slr_val (hold_slr h)⟩
set_option maxHeartbeats 4000000 in
theorem hands12 (m:Nat) (hl:x.ow.length=c.n) (ho:x.ow[p]? = some o) (hR:RefOk c x rs) (hH:∀ u,o.mac=some (.get u)→u.has=false) (hS:∀ v u,o.mac=some (.steal v u)→StealOk u) (h:Ev.Hold ctx (refL c x rs lv rv++r) w) :
  CallsIn Fence.wide m Tryz.prog 60 #[.agg (rV c rv x.m.ops lv x.pts).toArray,.int .i64 (p:Int)] w fun e w'=>∃ v L,e=.returned v∧Ev.Hold ctx (isA v (handsO o)::lA c lv rs::isA (rs p).dv (dqAll c o.dq)::(L++r)) w'∧∀ r' w2,Ev.Hold ctx (isA v (handsO o)::lA c lv rs::isA (rs p).dv (dqAll c o.dq)::(L++r')) w2→Ev.Hold ctx (refL c x rs lv rv++r') w2:=by
 refine callsIn_of_wp Tryz.func60 rfl trivial ?_ rfl
 simp only [Tryz.ntmps60,List.size_toArray,List.length_cons,List.length_nil,Nat.reduceAdd,Nat.reduceSub,Array.replicate_succ,Array.replicate_zero,List.push_toArray,List.append_toArray,List.nil_append,List.cons_append]
 have hnb:=c.nb
 have hlt:p < x.ow.length:=(List.getElem?_eq_some_iff.1 ho).1
 have hp:p < c.n:=by rw [← hl]; exact hlt
 have hpI:(p:Int) < (c.n:Int):=by omega
 have hOk:=hR p o ho
 have t1:=ref_take hp ho h
 obtain ⟨pre,post,e1,e2,hpre⟩:=ows_split hp (hR.len hl)
 obtain ⟨⟨ra,rk,hrv⟩,_⟩:=ref_shape h
 obtain ⟨R,hRe⟩ : ∃ R,rs p=R:=⟨_,rfl⟩
 rw [hRe] at t1 e2 hOk
 have hlen:(R.cs c).length=54:=hOk.len
 have t2:Ev.Hold ctx (Ev.slA 114 54 lv c.n (pre++(R.cs c++post))::(cA rv x.m::(R.ps c o++(famR c x rs p++r)))) w:=by rw [← e2]; exact t1
 obtain ⟨ba,off,lk,hav,hcc,hll⟩:=sl_some t2 (by omega) (by decide)
 subst hrv
 subst hav
 have hback:∀ (r':List Ev.Asr) (wX:World),Ev.Hold ctx (Ev.slA 114 54 (.slice (some ⟨ba,off,none⟩) c.n lk) c.n (pre++(R.cs c++post))::cA (.slice ra x.m.cells.length rk) x.m::(R.ps c o++(famR c x rs p++r'))) wX→Ev.Hold ctx (refL c x rs (.slice (some ⟨ba,off,none⟩) c.n lk) (.slice ra x.m.cells.length rk)++r') wX:=by
  intro r' wX hX
  refine ref_put (x:=x) (rs:=rs) hp ho (fun q _=>rfl) ?_
  unfold lA
  rw [e2,hRe]
  exact hX
 have hlA:lA c (.slice (some ⟨ba,off,none⟩) c.n lk) rs=Ev.slA 114 54 (.slice (some ⟨ba,off,none⟩) c.n lk) c.n (pre++(R.cs c++post)):=by unfold lA; rw [e2]
 rw [hlA,hRe]
 obtain ⟨b1,hb1⟩ : ∃ b1,w.heap.size=b1:=⟨_,rfl⟩
 obtain ⟨RV,hRV⟩ : ∃ RV,rV c (.slice ra x.m.cells.length rk) x.m.ops (.slice (some ⟨ba,off,none⟩) c.n lk) x.pts=RV:=⟨_,rfl⟩
 rw [hRV]
 have g1:=hold_new RV 56 t2
 rw [hb1] at g1
 obtain ⟨W1,hW1⟩ : ∃ W1,w.alloc (.cells RV.toArray 56)=W1:=⟨_,rfl⟩
 rw [hW1] at g1
 have r0:=ld_all g1 Tryz.underlying56 rfl (by rw [← hRV]; kernel_rfl)
 have hth:=there12H (m - 1) (p:Int) (c:=c) (ra:=ra) (rn:=x.m.cells.length) (rk:=rk) (ops:=x.m.ops) (pts:=x.pts) (la:=some ⟨ba,off,none⟩) (lk:=lk) hnb.2 g1
 rw [hRV,decide_eq_true (show 0≤(p:Int)∧(p:Int) < (c.n:Int) from ⟨by omega,by omega⟩)] at hth
 clear hcc hll t1
 gi_wp2_with (refine wpListIn_load_run rfl _ _ rfl r0 rfl ?_)
 refine ⟨trivial,fun h=>by simp [Fence.wide] at h,hth.mono ?_⟩
 clear hth r0 g1 t2
 rintro e w4 ⟨rfl,g4⟩
 have c8:w4.cell? ⟨b1,8,none⟩=some (.slice (some ⟨ba,off,none⟩) c.n lk):=cell_of (hold_blk g4) 8 _ (by rw [← hRV]; rfl)
 have r5:=ld_sl (o:=off+p * 54) (t := 114) (hold_up [_] g4) (by rw [hpre]) (by rw [hlen]; decide) Tryz.underlying114 rfl (by rw [hlen]; kernel_rfl)
 obtain ⟨b4,hb4⟩ : ∃ b4,w4.heap.size=b4:=⟨_,rfl⟩
 have gF:=hold_new oZ 114 g4
 rw [hb4] at gF
 obtain ⟨WF,hWF⟩ : ∃ WF,w4.alloc (.cells oZ.toArray 114)=WF:=⟨_,rfl⟩
 rw [hWF] at gF
 obtain ⟨wG,r6,gG⟩:=st_all (t := 114) (cs':=R.cs c) gF (by rw [hlen]; rfl) hOk.ones (by rw [hlen]; kernel_rfl)
 have k0:wG.cell? ⟨b4,0,none⟩=some (.int .i64 R.kd):=cell_of (hold_blk gG) 0 _ rfl
 have hMc:=hOk.mac
 cases hM:o.mac with
 | none =>
  rw [hM] at hMc
  have hk:R.kd=0:=hMc
  rw [hk] at k0
  have hO:handsO o=[]:=by unfold handsO; rw [hM]; rfl
  clear hk
  have hps:R.ps c o=[isA R.dv (dqAll c o.dq)]:=by unfold OwR.ps; rw [hM]; rfl
  rw [hps] at gG
  simp only [hps] at hback
  clear hMc
  gi_wp2_with (first
   | (refine wpListIn_load_run rfl _ _ rfl r5 rfl ?_)
   | (refine wpListIn_store_run rfl _ _ _ rfl r6 rfl rfl ?_))
  have g9:=(hold_up [_,_] (hold_up [_,_] (hold_up [_] (hold_drop (r:=[_,_]) gG))))
  refine bodyPost_ret (results_tmp rfl _ _ _) rfl ⟨.slice none 0 0,cA (.slice ra x.m.cells.length rk) x.m::famR c x rs p,rfl,by rw [hO]; exact g9.nilSl (e := 3) (sz:=1),fun r' w2 h2=>hback r' w2 (hold_up [_,_] (hold_up [_,_] (hold_up [_] (hold_drop (r:=[_]) h2))))⟩
 | some M =>
  rw [hM] at hMc
  cases M with
  | get u =>
   rw [hMc.1] at k0
   have hO:handsO o=[]:=by
    unfold handsO
    rw [hM]
    show (if u.has then [u.sn] else [])=[]
    rw [hH u hM]
    rfl
   have hps:R.ps c o=[isA R.dv (dqAll c o.dq)]:=by unfold OwR.ps; rw [hM]; rfl
   rw [hps] at gG
   simp only [hps] at hback
   clear hMc
   gi_wp2_with (first
    | (refine wpListIn_load_run rfl _ _ rfl r5 rfl ?_)
    | (refine wpListIn_store_run rfl _ _ _ rfl r6 rfl rfl ?_))
   have g9:=(hold_up [_,_] (hold_up [_,_] (hold_up [_] (hold_drop (r:=[_,_]) gG))))
   refine bodyPost_ret (results_tmp rfl _ _ _) rfl ⟨.slice none 0 0,cA (.slice ra x.m.cells.length rk) x.m::famR c x rs p,rfl,by rw [hO]; exact g9.nilSl (e := 3) (sz:=1),fun r' w2 h2=>hback r' w2 (hold_up [_,_] (hold_up [_,_] (hold_up [_] (hold_drop (r:=[_]) h2))))⟩
  | put u =>
   obtain ⟨q1,q2,q3⟩:=hMc
   rw [q1] at k0
   have hO:handsO o=u.hs:=by unfold handsO; rw [hM]; rfl
   have hps:R.ps c o=[isA R.dv (dqAll c o.dq),isA R.tk u.ts,isA R.hd u.hs]:=by unfold OwR.ps; rw [hM]; rfl
   have k14:wG.cell? ⟨b4,14,none⟩=some R.hd:=cell_of (hold_blk gG) 14 _ (by unfold OwR.cs; rw [q3]; rfl)
   rw [hps] at gG
   simp only [hps] at hback
   clear q2 q1
   gi_wp2_with (first
    | (refine wpListIn_load_run rfl _ _ rfl r5 rfl ?_)
    | (refine wpListIn_store_run rfl _ _ _ rfl r6 rfl rfl ?_))
   have g9:=(hold_up [_,_,_,_] (hold_up [_,_,_] (hold_up [_,_,_] (hold_up [_,_] (hold_up [_,_,_] (hold_drop (r:=[_,_]) gG))))))
   exact bodyPost_ret (results_tmp rfl _ _ _) rfl ⟨R.hd,cA (.slice ra x.m.cells.length rk) x.m::isA R.tk u.ts::famR c x rs p,rfl,by rw [hO]; exact g9,fun r' w2 h2=>hback r' w2 (hold_up [_,_,_,_] (hold_up [_,_,_,_] (hold_up [_,_,_] (hold_up [_,_,_,_] (show Ev.Hold ctx (isA R.hd u.hs::_) w2 by rw [← hO]; exact h2)))))⟩
  | steal v u =>
   obtain ⟨q1,q2,q3,q4⟩:=hMc
   rw [q1] at k0
   have hO:handsO o=u.hands:=by unfold handsO; rw [hM]; rfl
   have hps:R.ps c o=isA R.dv (dqAll c o.dq)::s11L u R.bt R.ll:=by unfold OwR.ps; rw [hM]; rfl
   have l28:(Instr.loadAt 112 (.pointer (some ⟨b4,28,none⟩))).run Tryz.prog wG=.ok (.agg (s11 c p v u R.bt R.ll)) wG:=by
    have:=ld_blk (o:=28) (t := 112) (pre:=[iz R.kd,iz R.cv,iz R.cg]++(R.P++R.G)) (mid:=R.S) (post:=[iN c.q,R.dv]) (blk_eq (ow_S _ _ _ _ _) gG) (by simp [hOk.P,hOk.G]) Tryz.underlying112 rfl (by rw [hOk.S]; kernel_rfl)
    rwa [q3,Array.toArray_toList] at this
   rw [hps] at gG
   simp only [hps] at hback
   have gM:Ev.Hold ctx (s11L u R.bt R.ll++([Ev.blkA b4 (R.cs c) 114,Ev.blkA b1 RV 56,Ev.slA 114 54 (.slice (some ⟨ba,off,none⟩) c.n lk) c.n (pre++(R.cs c++post)),cA (.slice ra x.m.cells.length rk) x.m,isA R.dv (dqAll c o.dq)]++(famR c x rs p++r))) wG:=hold_perm (List.perm_append_comm_assoc _ _ _) gG
   have hc:=hands11 (c:=c) (p:=p) (v:=v) (m - 1) (hS v u hM) gM
   clear q2 q1 q3 q4
   gi_wp2_with (first
    | (refine wpListIn_load_run rfl _ _ rfl r5 rfl ?_)
    | (refine wpListIn_store_run rfl _ _ _ rfl r6 rfl rfl ?_)
    | (refine wpListIn_load_run rfl _ _ rfl l28 rfl ?_))
   refine ⟨trivial,fun h=>by simp [Fence.wide] at h,hc.mono ?_⟩
   clear hc l28
   rintro e w5 ⟨y,rfl,g5⟩
   have g6:Ev.Hold ctx (isA y u.hands::Ev.blkA b4 (R.cs c) 114 :: Ev.blkA b1 RV 56 :: Ev.slA 114 54 (.slice (some ⟨ba,off,none⟩) c.n lk) c.n (pre++(R.cs c++post))::cA (.slice ra x.m.cells.length rk) x.m::isA R.dv (dqAll c o.dq)::(s11L u R.bt R.ll++(famR c x rs p++r))) w5:=hold_perm ((List.perm_append_comm_assoc _ _ _).cons _) g5
   gi_wp2
   have g9:=(hold_up [_,_,_] (hold_up [_,_,_] (hold_up [_,_,_] (hold_up [_,_] (hold_drop (r:=[_,_]) (hold_up [_,_] (hold_up [_,_] g6)))))))
   exact bodyPost_ret (results_tmp rfl _ _ _) rfl ⟨y,cA (.slice ra x.m.cells.length rk) x.m::(s11L u R.bt R.ll++famR c x rs p),rfl,by rw [hO,List.cons_append,List.append_assoc]; exact g9,fun r' w2 h2=>hback r' w2 (by rw [List.cons_append,List.append_assoc] at h2; exact (hold_up [_,_] (hold_up [_,_] (hold_up [_] (hold_drop (r:=[_]) h2)))))⟩
end
end Go.Proofs.YtkmccgombmogmaaGreat
namespace Go.Proofs.YtkmccgombmogmaaGreat
open Go.RowKit
open Go.Ev (iz uz iN)
set_option linter.unusedVariables false
set_option linter.unusedSimpArgs false
set_option maxRecDepth 8000
section
variable {ctx:Ev.Ctx} {w:World} {r:List Ev.Asr} {c:Cfg} {x:RaceS} {rs:Nat→OwR} {p:Nat} {o:OwnS} {lv rv:Value} {B:Int} {la ra:Option Addr} {rn rk lk:Nat} {ops pts pi:Int}
theorem ringX (m:Nat) (hp:¬ (0≤pi∧pi < (c.n:Int))) (h:Ev.Hold ctx r w) :
  CallsIn Fence.wide m Tryz.prog 59 #[(.agg (rV c (.slice ra rn rk) ops (.slice la c.n lk) pts).toArray),.int .i64 pi] w fun e w'=>e=.returned (.slice none 0 0)∧Ev.Hold ctx r w':=by
 refine callsIn_of_wp Tryz.func59 rfl trivial ?_ rfl
 simp only [Tryz.ntmps59,List.size_toArray,List.length_cons,List.length_nil,Nat.reduceAdd,Nat.reduceSub,Array.replicate_succ,Array.replicate_zero,List.push_toArray,List.append_toArray,List.nil_append,List.cons_append]
 have hnb:=c.nb
 obtain ⟨RV,hRV⟩ : ∃ RV,rV c (.slice ra rn rk) ops (.slice la c.n lk) pts=RV:=⟨_,rfl⟩
 have hRVl:RV.length=10:=by rw [← hRV]; rfl
 have hRVo:∀ y ∈ RV,y.oneCell'=true:=by rw [← hRV]; simp [rV,Value.oneCell']
 have hi1:(Tryz.prog.info? 56).map (·.size)=some RV.length:=by rw [hRVl]; kernel_rfl
 rw [hRV]
 obtain ⟨b1,hb1⟩ : ∃ b1,w.heap.size=b1:=⟨_,rfl⟩
 have g1:=hold_new RV 56 h
 rw [hb1] at g1
 obtain ⟨W1,hW1⟩ : ∃ W1,w.alloc (.cells RV.toArray 56)=W1:=⟨_,rfl⟩
 rw [hW1] at g1
 have r0:=ld_all g1 Tryz.underlying56 rfl hi1
 have hth:=there12H (m - 1) pi (c:=c) (ra:=ra) (rn:=rn) (rk:=rk) (ops:=ops) (pts:=pts) (la:=la) (lk:=lk) hnb.2 g1
 rw [hRV,decide_eq_false hp] at hth
 gi_wp2_with (refine wpListIn_load_run rfl _ _ rfl r0 rfl ?_)
 refine ⟨trivial,fun h=>by simp [Fence.wide] at h,hth.mono ?_⟩
 clear hth r0
 rintro e w4 ⟨rfl,g4⟩
 gi_wp2
 exact bodyPost_ret (results_tmp rfl _ _ _) rfl ⟨rfl,hold_drop (r:=[_]) g4⟩
theorem handsX (m:Nat) (hp:¬ (0≤pi∧pi < (c.n:Int))) (h:Ev.Hold ctx r w) :
  CallsIn Fence.wide m Tryz.prog 60 #[(.agg (rV c (.slice ra rn rk) ops (.slice la c.n lk) pts).toArray),.int .i64 pi] w fun e w'=>e=.returned (.slice none 0 0)∧Ev.Hold ctx r w':=by
 refine callsIn_of_wp Tryz.func60 rfl trivial ?_ rfl
 simp only [Tryz.ntmps60,List.size_toArray,List.length_cons,List.length_nil,Nat.reduceAdd,Nat.reduceSub,Array.replicate_succ,Array.replicate_zero,List.push_toArray,List.append_toArray,List.nil_append,List.cons_append]
 have hnb:=c.nb
 obtain ⟨RV,hRV⟩ : ∃ RV,rV c (.slice ra rn rk) ops (.slice la c.n lk) pts=RV:=⟨_,rfl⟩
 have hRVl:RV.length=10:=by rw [← hRV]; rfl
 have hRVo:∀ y ∈ RV,y.oneCell'=true:=by rw [← hRV]; simp [rV,Value.oneCell']
 have hi1:(Tryz.prog.info? 56).map (·.size)=some RV.length:=by rw [hRVl]; kernel_rfl
 rw [hRV]
 obtain ⟨b1,hb1⟩ : ∃ b1,w.heap.size=b1:=⟨_,rfl⟩
 have g1:=hold_new RV 56 h
 rw [hb1] at g1
 obtain ⟨W1,hW1⟩ : ∃ W1,w.alloc (.cells RV.toArray 56)=W1:=⟨_,rfl⟩
 rw [hW1] at g1
 have r0:=ld_all g1 Tryz.underlying56 rfl hi1
 have hth:=there12H (m - 1) pi (c:=c) (ra:=ra) (rn:=rn) (rk:=rk) (ops:=ops) (pts:=pts) (la:=la) (lk:=lk) hnb.2 g1
 rw [hRV,decide_eq_false hp] at hth
 gi_wp2_with (refine wpListIn_load_run rfl _ _ rfl r0 rfl ?_)
 refine ⟨trivial,fun h=>by simp [Fence.wide] at h,hth.mono ?_⟩
 clear hth r0
 rintro e w4 ⟨rfl,g4⟩
 gi_wp2
 exact bodyPost_ret (results_tmp rfl _ _ _) rfl ⟨rfl,hold_drop (r:=[_]) g4⟩
set_option maxHeartbeats 2000000 in
theorem stepX (m:Nat) (hp:¬ (0≤pi∧pi < (c.n:Int))) (h:Ev.Hold ctx r w) :
  CallsIn Fence.wide m Tryz.prog 25 #[(.agg (rV c (.slice ra rn rk) ops (.slice la c.n lk) pts).toArray),.int .i64 pi] w fun e w'=>e=.returned (.tuple #[(.agg (rV c (.slice ra rn rk) ops (.slice la c.n lk) pts).toArray),.agg #[iz 0,iz 0,.slice none 0 0],.bool false])∧Ev.Hold ctx r w':=by
 refine callsIn_of_wp Tryz.func25 rfl trivial ?_ rfl
 simp only [Tryz.ntmps25,List.size_toArray,List.length_cons,List.length_nil,Nat.reduceAdd,Nat.reduceSub,Array.replicate_succ,Array.replicate_zero,List.push_toArray,List.append_toArray,List.nil_append,List.cons_append]
 have hnb:=c.nb
 obtain ⟨RV,hRV⟩ : ∃ RV,rV c (.slice ra rn rk) ops (.slice la c.n lk) pts=RV:=⟨_,rfl⟩
 have hRVl:RV.length=10:=by rw [← hRV]; rfl
 have hRVo:∀ y ∈ RV,y.oneCell'=true:=by rw [← hRV]; simp [rV,Value.oneCell']
 have hi1:(Tryz.prog.info? 56).map (·.size)=some RV.length:=by rw [hRVl]; kernel_rfl
 rw [hRV]
 obtain ⟨b1,hb1⟩ : ∃ b1,w.heap.size=b1:=⟨_,rfl⟩
 have g1:=hold_new RV 56 h
 rw [hb1] at g1
 obtain ⟨W1,hW1⟩ : ∃ W1,w.alloc (.cells RV.toArray 56)=W1:=⟨_,rfl⟩
 rw [hW1] at g1
 obtain ⟨b2,hb2⟩ : ∃ b2,W1.heap.size=b2:=⟨_,rfl⟩
 have g2:=hold_new rZ 56 g1
 rw [hb2] at g2
 obtain ⟨W2,hW2⟩ : ∃ W2,W1.alloc (.cells #[.int .i64 0,.int .i64 0,.int .i64 0,.int .i64 0,.int .i64 0,.int .i64 0,.slice none 0 0,.int .u64 0,.slice none 0 0,.int .i64 0] 56)=W2:=⟨_,rfl⟩
 rw [show W1.alloc (.cells rZ.toArray 56)=W2 from hW2] at g2
 obtain ⟨b3,hb3⟩ : ∃ b3,W2.heap.size=b3:=⟨_,rfl⟩
 have g3:=hold_new z3 62 g2
 rw [hb3] at g3
 obtain ⟨W3,hW3⟩ : ∃ W3,W2.alloc (.cells #[.int .i64 0,.int .i64 0,.slice none 0 0] 62)=W3:=⟨_,rfl⟩
 rw [show W2.alloc (.cells z3.toArray 62)=W3 from hW3] at g3
 have r0:=ld_all (hold_up [_,_] g3) Tryz.underlying56 rfl hi1
 have hth:=there12H (m - 1) pi (c:=c) (ra:=ra) (rn:=rn) (rk:=rk) (ops:=ops) (pts:=pts) (la:=la) (lk:=lk) hnb.2 g3
 rw [hRV,decide_eq_false hp] at hth
 gi_wp2_with (refine wpListIn_load_run rfl _ _ rfl r0 rfl ?_)
 refine ⟨trivial,fun h=>by simp [Fence.wide] at h,hth.mono ?_⟩
 clear hth r0
 rintro e w4 ⟨rfl,g4⟩
 have r1:=ld_all (hold_up [_,_] g4) Tryz.underlying56 rfl hi1
 obtain ⟨w5,s1,g5⟩:=st_all (t := 56) (cs':=RV) (hold_up [_] g4) hRVl hRVo hi1
 obtain ⟨w6,s2,g6⟩:=st_all (t := 62) (cs':=z3) (hold_up [_] g5) rfl (by simp [Value.oneCell']) (by kernel_rfl)
 gi_wp2_with (first
  | (refine wpListIn_load_run rfl _ _ rfl r1 rfl ?_)
  | (refine wpListIn_store_run rfl _ _ _ rfl s1 rfl rfl ?_)
  | (refine wpListIn_store_run rfl _ _ _ rfl s2 rfl rfl ?_))
 exact post_cell2T rfl rfl rfl rfl (lv_all (hold_up [_] g6) Tryz.underlying56 rfl hi1) (lv_all g6 Tryz.underlying62 rfl (by kernel_rfl)) ⟨rfl,hold_drop (r:=[_,_,_]) g6⟩
set_option maxHeartbeats 2000000 in
theorem stepI (m:Nat) (hl:x.ow.length=c.n) (ho:x.ow[p]? = some o) (hM:o.mac=none) (hR:RefOk c x rs) (h0:Ev.Hold ctx (refL c x rs (.slice la c.n lk) rv++r) w) :
  CallsIn Fence.wide m Tryz.prog 25 #[(.agg (rV c (.slice ra rn rk) ops (.slice la c.n lk) pts).toArray),.int .i64 (p:Int)] w fun e w'=>e=.returned (.tuple #[(.agg (rV c (.slice ra rn rk) ops (.slice la c.n lk) pts).toArray),.agg #[iz 0,iz 0,.slice none 0 0],.bool false])∧Ev.Hold ctx (refL c x rs (.slice la c.n lk) rv++r) w':=by
 refine callsIn_of_wp Tryz.func25 rfl trivial ?_ rfl
 simp only [Tryz.ntmps25,List.size_toArray,List.length_cons,List.length_nil,Nat.reduceAdd,Nat.reduceSub,Array.replicate_succ,Array.replicate_zero,List.push_toArray,List.append_toArray,List.nil_append,List.cons_append]
 have hlt:p < x.ow.length:=(List.getElem?_eq_some_iff.1 ho).1
 have hp:p < c.n:=by rw [← hl]; exact hlt
 have hpI:(p:Int) < (c.n:Int):=by omega
 have hOk:=hR p o ho
 have hk:(rs p).kd=0:=by
  have:=hOk.mac
  rwa [hM] at this
 obtain ⟨pre,post,e1,e2,hpre⟩:=ows_split hp (hR.len hl)
 obtain ⟨R',hR'⟩ : ∃ R',cA rv x.m::((List.range c.n).flatMap (fam c x rs)++r)=R':=⟨_,rfl⟩
 have h:Ev.Hold ctx (lA c (.slice la c.n lk) rs::R') w:=by rw [← hR']; exact h0
 have hfin:∀ w2,Ev.Hold ctx (lA c (.slice la c.n lk) rs::R') w2→Ev.Hold ctx (refL c x rs (.slice la c.n lk) rv++r) w2:=fun w2 h2=>by rw [← hR'] at h2; exact h2
 clear h0 hR'
 obtain ⟨ba,off,lk',hav,_,_⟩:=sl_some h (by omega) (by decide)
 cases hav
 have hnb:=c.nb
 obtain ⟨RV,hRV⟩ : ∃ RV,rV c (.slice ra rn rk) ops (.slice (some ⟨ba,off,none⟩) c.n lk) pts=RV:=⟨_,rfl⟩
 have hRVl:RV.length=10:=by rw [← hRV]; rfl
 have hRVo:∀ y ∈ RV,y.oneCell'=true:=by rw [← hRV]; simp [rV,Value.oneCell']
 have hi1:(Tryz.prog.info? 56).map (·.size)=some RV.length:=by rw [hRVl]; kernel_rfl
 rw [hRV]
 obtain ⟨b1,hb1⟩ : ∃ b1,w.heap.size=b1:=⟨_,rfl⟩
 have g1:=hold_new RV 56 h
 rw [hb1] at g1
 obtain ⟨W1,hW1⟩ : ∃ W1,w.alloc (.cells RV.toArray 56)=W1:=⟨_,rfl⟩
 rw [hW1] at g1
 obtain ⟨b2,hb2⟩ : ∃ b2,W1.heap.size=b2:=⟨_,rfl⟩
 have g2:=hold_new rZ 56 g1
 rw [hb2] at g2
 obtain ⟨W2,hW2⟩ : ∃ W2,W1.alloc (.cells #[.int .i64 0,.int .i64 0,.int .i64 0,.int .i64 0,.int .i64 0,.int .i64 0,.slice none 0 0,.int .u64 0,.slice none 0 0,.int .i64 0] 56)=W2:=⟨_,rfl⟩
 rw [show W1.alloc (.cells rZ.toArray 56)=W2 from hW2] at g2
 obtain ⟨b3,hb3⟩ : ∃ b3,W2.heap.size=b3:=⟨_,rfl⟩
 have g3:=hold_new z3 62 g2
 rw [hb3] at g3
 obtain ⟨W3,hW3⟩ : ∃ W3,W2.alloc (.cells #[.int .i64 0,.int .i64 0,.slice none 0 0] 62)=W3:=⟨_,rfl⟩
 rw [show W2.alloc (.cells z3.toArray 62)=W3 from hW3] at g3
 have r0:=ld_all (hold_up [_,_] g3) Tryz.underlying56 rfl hi1
 have hth:=there12H (m - 1) (p:Int) (c:=c) (ra:=ra) (rn:=rn) (rk:=rk) (ops:=ops) (pts:=pts) (la:=some ⟨ba,off,none⟩) (lk:=lk) hnb.2 g3
 rw [hRV,decide_eq_true (show 0≤(p:Int)∧(p:Int) < (c.n:Int) from ⟨by omega,by omega⟩)] at hth
 gi_wp2_with (refine wpListIn_load_run rfl _ _ rfl r0 rfl ?_)
 refine ⟨trivial,fun h=>by simp [Fence.wide] at h,hth.mono ?_⟩
 clear hth r0
 rintro e w4 ⟨rfl,g4⟩
 have c8:w4.cell? ⟨b1,8,none⟩=some (.slice (some ⟨ba,off,none⟩) c.n lk):=cell_of (hold_blk (hold_up [_,_] g4)) 8 _ (by rw [← hRV]; rfl)
 have ck:w4.cell? ⟨ba,off+p * 54,none⟩=some (.int .i64 0):=by
  obtain ⟨b',o',c',hv,hc,_⟩:=sl_some (hold_up [_,_,_] g4) (by omega) (by decide)
  cases hv
  have hlt:p * 54 < c.n * 54:=by omega
  have h1:=at_mid (pre:=pre) (post:=post) (OwR.at0 c (rs p))
  rw [hpre,Nat.add_zero,hk] at h1
  rw [hc _ hlt,e2,h1]
 clear e1 e2 hk
 have r1:=ld_all (hold_up [_,_] g4) Tryz.underlying56 rfl hi1
 obtain ⟨w5,s1,g5⟩:=st_all (t := 56) (cs':=RV) (hold_up [_] g4) hRVl hRVo hi1
 obtain ⟨w6,s2,g6⟩:=st_all (t := 62) (cs':=z3) (hold_up [_] g5) rfl (by simp [Value.oneCell']) (by kernel_rfl)
 gi_wp2_with (first
  | (refine wpListIn_load_run rfl _ _ rfl r1 rfl ?_)
  | (refine wpListIn_store_run rfl _ _ _ rfl s1 rfl rfl ?_)
  | (refine wpListIn_store_run rfl _ _ _ rfl s2 rfl rfl ?_))
 exact post_cell2T rfl rfl rfl rfl (lv_all (hold_up [_] g6) Tryz.underlying56 rfl hi1) (lv_all g6 Tryz.underlying62 rfl (by kernel_rfl)) ⟨rfl,hfin _ (hold_drop (r:=[_,_,_]) g6)⟩
set_option maxHeartbeats 2000000 in
theorem beginX (m:Nat) (hp:¬ (0≤pi∧pi < (c.n:Int))) (kd cv cg:Int) (h:Ev.Hold ctx r w) :
  CallsIn Fence.wide m Tryz.prog 24 #[(.agg (rV c (.slice ra rn rk) ops (.slice la c.n lk) pts).toArray),.int .i64 pi,.agg #[.int .i64 kd,.int .i64 cv,.int .i64 cg]] w fun e w'=>e=.returned (.tuple #[(.agg (rV c (.slice ra rn rk) ops (.slice la c.n lk) pts).toArray),.int .i64 2])∧Ev.Hold ctx r w':=by
 refine callsIn_of_wp Tryz.func24 rfl trivial ?_ rfl
 simp only [Tryz.ntmps24,List.size_toArray,List.length_cons,List.length_nil,Nat.reduceAdd,Nat.reduceSub,Array.replicate_succ,Array.replicate_zero,List.push_toArray,List.append_toArray,List.nil_append,List.cons_append]
 have hnb:=c.nb
 obtain ⟨RV,hRV⟩ : ∃ RV,rV c (.slice ra rn rk) ops (.slice la c.n lk) pts=RV:=⟨_,rfl⟩
 have hRVl:RV.length=10:=by rw [← hRV]; rfl
 have hRVo:∀ y ∈ RV,y.oneCell'=true:=by rw [← hRV]; simp [rV,Value.oneCell']
 have hi1:(Tryz.prog.info? 56).map (·.size)=some RV.length:=by rw [hRVl]; kernel_rfl
 rw [hRV]
 obtain ⟨b1,hb1⟩ : ∃ b1,w.heap.size=b1:=⟨_,rfl⟩
 have g1:=hold_new RV 56 h
 rw [hb1] at g1
 obtain ⟨W1,hW1⟩ : ∃ W1,w.alloc (.cells RV.toArray 56)=W1:=⟨_,rfl⟩
 rw [hW1] at g1
 obtain ⟨b2,hb2⟩ : ∃ b2,W1.heap.size=b2:=⟨_,rfl⟩
 have g2:=hold_new [.int .i64 kd,.int .i64 cv,.int .i64 cg] 61 g1
 rw [hb2] at g2
 obtain ⟨W2,hW2⟩ : ∃ W2,W1.alloc (.cells #[.int .i64 kd,.int .i64 cv,.int .i64 cg] 61)=W2:=⟨_,rfl⟩
 rw [show W1.alloc (.cells ([.int .i64 kd,.int .i64 cv,.int .i64 cg] : List Value).toArray 61)=W2 from hW2] at g2
 obtain ⟨b3,hb3⟩ : ∃ b3,W2.heap.size=b3:=⟨_,rfl⟩
 have g3:=hold_new rZ 56 g2
 rw [hb3] at g3
 obtain ⟨W3,hW3⟩ : ∃ W3,W2.alloc (.cells #[.int .i64 0,.int .i64 0,.int .i64 0,.int .i64 0,.int .i64 0,.int .i64 0,.slice none 0 0,.int .u64 0,.slice none 0 0,.int .i64 0] 56)=W3:=⟨_,rfl⟩
 rw [show W2.alloc (.cells rZ.toArray 56)=W3 from hW3] at g3
 have r0:=ld_all (hold_up [_,_] g3) Tryz.underlying56 rfl hi1
 have hth:=there12H (m - 1) pi (c:=c) (ra:=ra) (rn:=rn) (rk:=rk) (ops:=ops) (pts:=pts) (la:=la) (lk:=lk) hnb.2 g3
 rw [hRV,decide_eq_false hp] at hth
 gi_wp2_with (refine wpListIn_load_run rfl _ _ rfl r0 rfl ?_)
 refine ⟨trivial,fun h=>by simp [Fence.wide] at h,hth.mono ?_⟩
 clear hth r0
 rintro e w4 ⟨rfl,g4⟩
 have r1:=ld_all (hold_up [_,_] g4) Tryz.underlying56 rfl hi1
 obtain ⟨w5,s1,g5⟩:=st_all (t := 56) (cs':=RV) g4 hRVl hRVo hi1
 gi_wp2_with (first
  | (refine wpListIn_load_run rfl _ _ rfl r1 rfl ?_)
  | (refine wpListIn_store_run rfl _ _ _ rfl s1 rfl rfl ?_))
 ·rename_i g8 g9
  exact absurd g8 (by intro h; cases h)
 ·rename_i g8 g9
  exact absurd g8 (by intro h; cases h)
 refine ⟨trivial,?_⟩
 gi_wp2_with (first
  | (refine wpListIn_load_run rfl _ _ rfl r1 rfl ?_)
  | (refine wpListIn_store_run rfl _ _ _ rfl s1 rfl rfl ?_))
 exact post_cellT rfl rfl rfl (lv_all g5 Tryz.underlying56 rfl hi1) ⟨rfl,hold_drop (r:=[_,_,_]) g5⟩
set_option maxHeartbeats 2000000 in
theorem ring12 (m:Nat) (hp:p < c.n) {mm:MemM} (hm:MemOk c mm) (hz:szW (ld mm (c.word p))≤(c.q:Int)) (h:Ev.Hold ctx (cA (.slice ra rn rk) mm::r) w) :
  CallsIn Fence.wide m Tryz.prog 59 #[(.agg (rV c (.slice ra rn rk) mm.ops (.slice la c.n lk) pts).toArray),.int .i64 (p:Int)] w fun e w'=>∃ v,e=.returned v∧Ev.Hold ctx (isA v (ringL c mm p)::cA (.slice ra rn rk) mm::r) w':=by
 refine callsIn_of_wp Tryz.func59 rfl trivial ?_ rfl
 simp only [Tryz.ntmps59,List.size_toArray,List.length_cons,List.length_nil,Nat.reduceAdd,Nat.reduceSub,Array.replicate_succ,Array.replicate_zero,List.push_toArray,List.append_toArray,List.nil_append,List.cons_append]
 obtain ⟨ops,hops⟩ : ∃ ops,mm.ops=ops:=⟨_,rfl⟩
 rw [hops]
 have hnb:=c.nb
 obtain ⟨RV,hRV⟩ : ∃ RV,rV c (.slice ra rn rk) ops (.slice la c.n lk) pts=RV:=⟨_,rfl⟩
 have hRVl:RV.length=10:=by rw [← hRV]; rfl
 have hRVo:∀ y ∈ RV,y.oneCell'=true:=by rw [← hRV]; simp [rV,Value.oneCell']
 have hi1:(Tryz.prog.info? 56).map (·.size)=some RV.length:=by rw [hRVl]; kernel_rfl
 rw [hRV]
 obtain ⟨b1,hb1⟩ : ∃ b1,w.heap.size=b1:=⟨_,rfl⟩
 have g1:=hold_new RV 56 h
 rw [hb1] at g1
 obtain ⟨W1,hW1⟩ : ∃ W1,w.alloc (.cells RV.toArray 56)=W1:=⟨_,rfl⟩
 rw [hW1] at g1
 have r0:=ld_all g1 Tryz.underlying56 rfl hi1
 have hth:=there12H (m - 1) (p:Int) (c:=c) (ra:=ra) (rn:=rn) (rk:=rk) (ops:=ops) (pts:=pts) (la:=la) (lk:=lk) hnb.2 g1
 rw [hRV,decide_eq_true (show 0≤(p:Int)∧(p:Int) < (c.n:Int) from ⟨by omega,by omega⟩)] at hth
 gi_wp2_with (refine wpListIn_load_run rfl _ _ rfl r0 rfl ?_)
 refine ⟨trivial,fun h=>by simp [Fence.wide] at h,hth.mono ?_⟩
 clear hth r0
 rintro e w4 ⟨rfl,g4⟩
 have lc:(Instr.loadAt 49 (.pointer (some ⟨b1,0,none⟩))).run Tryz.prog w4=.ok (.agg (cfL c).toArray) w4:=ld_blk (pre:=[]) (mid:=cfL c) (post:=[.slice ra rn rk,uz ops,.slice la c.n lk,iz pts]) (by have h1:=g4; rw [← hRV] at h1; exact h1) rfl Tryz.underlying49 rfl (by kernel_rfl)
 have lm:(Instr.loadAt 53 (.pointer (some ⟨b1,6,none⟩))).run Tryz.prog w4=.ok (.agg #[.slice ra rn rk,.int .u64 ops]) w4:=ld_blk (pre:=cfL c) (mid:=[.slice ra rn rk,uz ops]) (post:=[.slice la c.n lk,iz pts]) (by have h1:=g4; rw [← hRV] at h1; exact h1) rfl Tryz.underlying53 rfl (by kernel_rfl)
 have hr:=ring9H (m - 1) hp hm hz (hold_swap g4)
 rw [hops] at hr
 gi_wp2_with (first
  | (refine wpListIn_load_run rfl _ _ rfl lc rfl ?_)
  | (refine wpListIn_load_run rfl _ _ rfl lm rfl ?_))
 refine ⟨trivial,fun h=>by simp [Fence.wide] at h,hr.mono ?_⟩
 rintro e w5 ⟨v,rfl,g5⟩
 gi_wp2
 have g6:=hold_drop (r:=[_]) (hold_up [_,_] g5)
 exact bodyPost_ret (results_tmp rfl _ _ _) rfl ⟨v,rfl,g6⟩
end
end Go.Proofs.YtkmccgombmogmaaGreat
