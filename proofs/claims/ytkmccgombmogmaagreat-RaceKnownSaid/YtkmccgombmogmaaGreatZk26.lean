/- Part of a proof: see the last text. -/
import Derived.Test.YtkmccgombmogmaaGreatZk25
import Derived.Test.YtkmccgombmogmaaGreatZk15
import Derived.Test.YtkmccgombmogmaaGreatZk3
namespace Go.Proofs.YtkmccgombmogmaaGreat
open Go.RowKit
open Go.Ev (iz uz iN)
set_option linter.unusedVariables false
set_option linter.unusedSimpArgs false
set_option maxRecDepth 8000
section
theorem cf_right (c:Cf) (w:World) : Calls Tryz.prog 21 #[c.v] w fun e w'=>e=.returned (.bool c.ok)∧Below w.heap.size w w':=by
 cases h:c.ok with
 | false=>exact Cf.wrong h w
 | true =>
  obtain ⟨d,rfl⟩:=Cf.cfg h
  exact d.right w
theorem rV_ones {ctx:Ev.Ctx} {c:Cfg} {x:RaceS} {rs:Nat→OwR} {lv rv:Value} {r:List Ev.Asr} {w:World} (h:Ev.Hold ctx (refL c x rs lv rv++r) w) (ops pts:Int) : ∀ y ∈ rV c rv ops lv pts,y.oneCell'=true:=by
 obtain ⟨⟨_,_,rfl⟩,_,_,rfl⟩:=ref_shape h
 simp [rV,Value.oneCell']
set_option maxHeartbeats 4000000 in
theorem plays_in (m:Nat) (c0:Cf) {a0:Option Addr} {N k0:Nat} {L:List Value} {w:World} (hs:Ev.SlR 4 (.slice a0 N k0) N L w) (hL:∀ j,j < N * 4→∃ i:Int,i≤9223372036854775807∧L[j]? = some (.int .i64 i)) (hWk:∀ (m:Nat) (w:World),CallsIn Fence.wide m Tryz.prog 8 #[] w fun e w'=>e=.returned (.bool true)∧Below w.heap.size w w') :
  CallsIn Fence.wide m Tryz.prog 5 #[c0.v,.slice a0 N k0] w fun e w'=>e=.returned (.bool true)∧Below w.heap.size w w':=by
 refine callsIn_of_wp Tryz.func5 rfl trivial ?_ rfl
 simp only [Tryz.ntmps5,List.size_toArray,List.length_cons,List.length_nil,Nat.reduceAdd,Nat.reduceSub,Array.replicate_succ,Array.replicate_zero,List.push_toArray,List.append_toArray,List.nil_append,List.cons_append]
 obtain ⟨W1,hW1⟩ : ∃ W1,w.alloc (.cells #[.int .i64 c0.n,.int .i64 c0.q,.int .i64 c0.g,.int .i64 c0.m,.int .i64 c0.t,.int .i64 c0.s] 23)=W1:=⟨_,rfl⟩
 have h0:Ev.Hold ⟨w,fun _=>False⟩ [] w:=Ev.Hold.start (Ev.now_nil w)
 have h1:Ev.Hold ⟨w,fun _=>False⟩ [Ev.blkA w.heap.size [.int .i64 c0.n,.int .i64 c0.q,.int .i64 c0.g,.int .i64 c0.m,.int .i64 c0.t,.int .i64 c0.s] 23] W1:=by rw [← hW1]; exact hold_new _ _ h0
 have hB1:=h1.below (fun _=>id)
 by_cases hl:N≤120
 rotate_left
 ·have hlI:(N:Int) > (120:Int):=by omega
  gi_wp2
  refine ⟨trivial,fun h=>by simp [Fence.wide] at h,(hWk _ _).mono ?_⟩
  rintro e w2 ⟨rfl,hb⟩
  gi_wp2
  exact bodyPost_ret (results_tmp rfl _ _ _) rfl ⟨rfl,hB1.trans (hb.mono hB1.size)⟩
 have hlI:¬ (N:Int) > (120:Int):=by omega
 have hcs:∀ (r:List Ev.Asr) (ctx:Ev.Ctx) (c:Cf) (bc:Nat) (w':World),Ev.Hold ctx (Ev.blkA bc [.int .i64 c.n,.int .i64 c.q,.int .i64 c.g,.int .i64 c.m,.int .i64 c.t,.int .i64 c.s] 23 :: r) w'→w'.cell? ⟨bc,0,none⟩=some (.int .i64 c.n)∧w'.cell? ⟨bc,1,none⟩=some (.int .i64 c.q)∧w'.cell? ⟨bc,2,none⟩=some (.int .i64 c.g)∧w'.cell? ⟨bc,3,none⟩=some (.int .i64 c.m)∧w'.cell? ⟨bc,4,none⟩=some (.int .i64 c.t)∧w'.cell? ⟨bc,5,none⟩=some (.int .i64 c.s)∧(∀ j,w'.frozen? ⟨bc,j,none⟩=false) :=
  fun r ctx c bc w' hh=>⟨cell_of (hold_blk hh) 0 _ rfl,cell_of (hold_blk hh) 1 _ rfl,cell_of (hold_blk hh) 2 _ rfl,cell_of (hold_blk hh) 3 _ rfl,cell_of (hold_blk hh) 4 _ rfl,cell_of (hold_blk hh) 5 _ rfl,fun j=>froz_of (hold_blk hh) j⟩
 obtain ⟨bc,hbc⟩ : ∃ bc,w.heap.size=bc:=⟨_,rfl⟩
 rw [hbc] at h1
 obtain ⟨d0,d1,d2,d3,d4,d5,d6⟩:=hcs _ _ _ _ _ h1
 have hrt:=cf_right c0 W1
 gi_wp2
 refine ⟨trivial,fun h=>by simp [Fence.wide] at h,(callsIn_wide.2 hrt).mono ?_⟩
 clear hrt
 rintro e w2 ⟨rfl,B2⟩
 have h2:=hold_keep h1 B2
 clear d0 d1 d2 d3 d4 d5 d6
 obtain ⟨d0,d1,d2,d3,d4,d5,d6⟩:=hcs _ _ _ _ _ h2
 cases hok:c0.ok with
 | false =>
  have hn:=newNo (m - 1) hok h2
  clear hok
  gi_wp2
  refine ⟨trivial,fun h=>by simp [Fence.wide] at h,hn.mono ?_⟩
  clear hn
  rintro e w3 ⟨rfl,h3⟩
  gi_wp2
  refine ⟨trivial,fun h=>by simp [Fence.wide] at h,(hWk _ _).mono ?_⟩
  rintro e w4 ⟨rfl,hb⟩
  gi_wp2
  have hB3:=h3.below (fun _=>id)
  exact bodyPost_ret (results_tmp rfl _ _ _) rfl ⟨rfl,hB3.trans (hb.mono hB3.size)⟩
 | true =>
  obtain ⟨c,hc⟩ : ∃ c:Cfg,made c0=c:=⟨_,rfl⟩
  have hq8:=made_q8 c0
  have hmade:=made_ok c0 w2
  rw [hc] at hq8 hmade
  clear hc hok
  gi_wp2
  refine ⟨trivial,fun h=>by simp [Fence.wide] at h,(callsIn_wide.2 hmade).mono ?_⟩
  clear hmade
  rintro e w3 ⟨rfl,B3⟩
  have h3:=hold_keep h2 B3
  clear d0 d1 d2 d3 d4 d5 d6
  obtain ⟨p0,p1,p2,p3,p4,p5,p6⟩:=hcs _ _ _ _ _ h3
  obtain ⟨w4,s4,h4⟩:=st_all (t := 23) (cs':=confL c) h3 rfl (by simp [confL,Value.oneCell']) (by kernel_rfl)
  have l4:=ld_all h4 Tryz.underlying23 rfl (by kernel_rfl)
  clear p0 p1 p2 p3 p4 p5 p6 hcs h1 h2 h3 B2 B3
  gi_wp2_with (first
   | (refine wpListIn_load_run rfl _ _ rfl l4 rfl ?_)
   | (refine wpListIn_store_run rfl _ _ _ rfl s4 rfl rfl ?_))
  refine ⟨trivial,fun h=>by simp [Fence.wide] at h,(anew (m - 1) c h4).mono ?_⟩
  clear s4 l4
  rintro e w5 ⟨b,rfl,h5⟩
  have l5:=ld_all (hold_swap h5) Tryz.underlying23 rfl (by kernel_rfl)
  have hcf:=conf_in (c:=c) (m - 1) h5
  gi_wp2_with (refine wpListIn_load_run rfl _ _ rfl l5 rfl ?_)
  refine ⟨trivial,fun h=>by simp [Fence.wide] at h,hcf.mono ?_⟩
  clear hcf l5
  rintro e w6 ⟨rfl,h6⟩
  have hnw:=new12 (c:=c) (m - 1) h6
  gi_wp2
  refine ⟨trivial,fun h=>by simp [Fence.wide] at h,hnw.mono ?_⟩
  clear hnw
  rintro e w7 ⟨lv,rv,rfl,h7⟩
  obtain ⟨b9,hb9⟩ : ∃ b9,w7.heap.size=b9:=⟨_,rfl⟩
  obtain ⟨W8,hW8⟩ : ∃ W8,w7.alloc (.cells #[.int .i64 0,.int .i64 0,.int .i64 0,.int .i64 0,.int .i64 0,.int .i64 0,.slice none 0 0,.int .u64 0,.slice none 0 0,.int .i64 0] 56)=W8:=⟨_,rfl⟩
  have h8:=hold_new [.int .i64 0,.int .i64 0,.int .i64 0,.int .i64 0,.int .i64 0,.int .i64 0,.slice none 0 0,.int .u64 0,.slice none 0 0,.int .i64 0] 56 h7
  rw [hb9,show w7.alloc (.cells ([.int .i64 0,.int .i64 0,.int .i64 0,.int .i64 0,.int .i64 0,.int .i64 0,.slice none 0 0,.int .u64 0,.slice none 0 0,.int .i64 0] : List Value).toArray 56)=W8 from hW8] at h8
  obtain ⟨w9,s9,h9⟩:=st_all (t := 56) (cs':=rV c rv 0 lv 0) h8 rfl (rV_ones h7 0 0) (by kernel_rfl)
  have h10:Ev.Hold ⟨w,fun _=>False⟩ (raceA b c (newRace c)::Ev.blkA bc (confL c) 23 :: Ev.blkA b9 (rV c rv (newRace c).m.ops lv (newRace c).pts) 56 :: (refL c (newRace c) (fun _=>own0) lv rv++[])) w9:=by
   have k1:Ev.Hold ⟨w,fun _=>False⟩ ([Ev.blkA b9 (rV c rv 0 lv 0) 56]++(refL c (newRace c) (fun _=>own0) lv rv++[raceA b c (newRace c),Ev.blkA bc (confL c) 23])) w9:=h9
   refine hold_perm (perm_of (fun f=>?_)) k1
   simp only [List.cons_append,List.nil_append,List.append_nil,List.map_append,List.map_cons,List.map_nil,List.sum_append,List.sum_cons,List.sum_nil,newRace]
   omega
  have hnb:=c.nb
  clear h9 h8 h7 h6 h5 h4
  gi_upto_region 11 with (refine wpListIn_store_run rfl _ _ _ rfl s9 rfl rfl ?_)
  clear s9 hW8 hb9
  gi_wp2
  gi_loopw [10] (fun q wr=>∃ (i:Nat) (x:RaceS) (rs:Nat→OwR) (lv rv:Value),q=.int .i64 (i:Int)∧i≤N∧(∃ B:Int,B≤8 * (i:Int)∧RaceI c B x)∧RefOk c x rs∧Ev.Hold ⟨w,fun _=>False⟩ (raceA b c x::Ev.blkA bc (confL c) 23 :: Ev.blkA b9 (rV c rv x.m.ops lv x.pts) 56 :: (refL c x rs lv rv++[])) wr) (fun q _=>N - (intOf q).toNat)
  case atStart=>exact ⟨0,newRace c,fun _=>own0,lv,rv,rfl,Nat.zero_le _,⟨0,by omega,(race_new c hq8).1⟩,refOk_new,h10⟩
  case round =>
   clear h10
   obtain ⟨i,x,rs,lv,rv,rfl,hi,⟨B,hB,hI⟩,hR,hH⟩:=hrel
   by_cases hlt:i < N
   ·have hlI2:(i:Int) < (N:Int):=by omega
    rcases hs.2 with ⟨e,_⟩ | ⟨ba,off,c1,hv,hb,hc⟩
    ·omega
    cases hv
    have hgt:∀ (j:Nat),j < 4→∃ u:Int,u≤9223372036854775807∧∀ W:World,Below w.heap.size w W→W.cell? ⟨ba,off+i * 4+j,none⟩=some (.int .i64 u):=by
     intro j hj
     obtain ⟨u,hu1,hu⟩:=hL (i * 4+j) (by omega)
     refine ⟨u,hu1,fun W hW=>?_⟩
     rw [hW.cell (p:=⟨ba,off+i * 4+j,none⟩) hb.1,Nat.add_assoc,hc _ (by omega),hu]
    obtain ⟨aP,_,g0⟩:=hgt 0 (by decide)
    obtain ⟨aK,_,g1⟩:=hgt 1 (by decide)
    obtain ⟨aV,_,g2⟩:=hgt 2 (by decide)
    obtain ⟨aG,hG,g3⟩:=hgt 3 (by decide)
    rw [Nat.add_zero] at g0
    have q0:=g0 wr (hH.below (fun _=>id))
    have q1:=g1 wr (hH.below (fun _=>id))
    have q2:=g2 wr (hH.below (fun _=>id))
    have q3:=g3 wr (hH.below (fun _=>id))
    clear g0 g1 g2 g3 hgt
    obtain ⟨er,xb,hIb,hBg⟩:=beg_both (ctx:=⟨w,fun _=>False⟩) hI aP aK aV aG hG
    obtain ⟨os,xs,B2,hB2,hIs,hol,hSt⟩:=step_both (ctx:=⟨w,fun _=>False⟩) hIb (by omega) aP
    obtain ⟨RVa,hVa⟩ : ∃ RV,rV c rv x.m.ops lv x.pts=RV:=⟨_,rfl⟩
    have vla:RVa.length=10:=by rw [← hVa]; rfl
    have voa:∀ y ∈ RVa,y.oneCell'=true:=by rw [← hVa]; exact rV_ones (hold_drop (r:=[_,_,_]) hH) _ _
    have via:(Tryz.prog.info? 56).map (·.size)=some RVa.length:=by rw [vla]; kernel_rfl
    rw [hVa] at hH
    obtain ⟨b11,hb11⟩ : ∃ b11,wr.heap.size=b11:=⟨_,rfl⟩
    obtain ⟨Wa,hWa⟩ : ∃ Wa,wr.alloc (.cells #[.int .i64 0,.int .i64 0,.int .i64 0,.int .i64 0] 45)=Wa:=⟨_,rfl⟩
    have ga:=hold_new [.int .i64 0,.int .i64 0,.int .i64 0,.int .i64 0] 45 hH
    rw [hb11,show wr.alloc (.cells ([.int .i64 0,.int .i64 0,.int .i64 0,.int .i64 0] : List Value).toArray 45)=Wa from hWa] at ga
    obtain ⟨wb,sb,gb⟩:=st_all (t := 45) (cs':=[.int .i64 aP,.int .i64 aK,.int .i64 aV,.int .i64 aG]) ga rfl (by simp [Value.oneCell']) (by kernel_rfl)
    have hca:∀ (r':List Ev.Asr) (w':World),Ev.Hold ⟨w,fun _=>False⟩ (Ev.blkA b11 [.int .i64 aP,.int .i64 aK,.int .i64 aV,.int .i64 aG] 45 :: r') w'→w'.cell? ⟨b11,0,none⟩=some (.int .i64 aP)∧w'.cell? ⟨b11,1,none⟩=some (.int .i64 aK)∧w'.cell? ⟨b11,2,none⟩=some (.int .i64 aV)∧w'.cell? ⟨b11,3,none⟩=some (.int .i64 aG):=fun r' w' hh=>⟨cell_of (hold_blk hh) 0 _ rfl,cell_of (hold_blk hh) 1 _ rfl,cell_of (hold_blk hh) 2 _ rfl,cell_of (hold_blk hh) 3 _ rfl⟩
    obtain ⟨e0,e1,e2,e3⟩:=hca _ _ gb
    have rb:=ld_all (hold_up [_,_,_] gb) Tryz.underlying56 rfl via
    have hd:=hBg.doc (m - 1) _ wb rs lv rv hR (hold_perm (List.perm_append_comm_assoc [_,_,_,_] (refL c x rs lv rv) []) gb)
    rw [hVa] at hd
    clear hVa
    gi_wp2_with (first
     | (refine wpListIn_load_run rfl _ _ rfl rb rfl ?_)
     | (refine wpListIn_store_run rfl _ _ _ rfl sb rfl rfl ?_))
    refine ⟨trivial,fun h=>by simp [Fence.wide] at h,hd.mono ?_⟩
    clear hd rb sb e0 e1 e2 e3 q0 q1 q2 q3 hWa hb11 ga
    rintro e wc ⟨rs1,lv1,hE,hR1,gc⟩
    obtain ⟨RVb,hVb⟩ : ∃ RV,rV c rv xb.m.ops lv1 xb.pts=RV:=⟨_,rfl⟩
    have vlb:RVb.length=10:=by rw [← hVb]; rfl
    have vob:∀ y ∈ RVb,y.oneCell'=true:=by rw [← hVb]; exact rV_ones gc _ _
    have vib:(Tryz.prog.info? 56).map (·.size)=some RVb.length:=by rw [vlb]; kernel_rfl
    rw [hVb] at hE
    subst hE
    have gd:Ev.Hold ⟨w,fun _=>False⟩ (Ev.blkA b11 [.int .i64 aP,.int .i64 aK,.int .i64 aV,.int .i64 aG] 45 :: raceA b c x::Ev.blkA bc (confL c) 23 :: Ev.blkA b9 RVa 56 :: (refL c xb rs1 lv1 rv++[])) wc:=(hold_perm (List.perm_append_comm_assoc (refL c xb rs1 lv1 rv) [_,_,_,_] []) gc)
    obtain ⟨b12,hb12⟩ : ∃ b12,wc.heap.size=b12:=⟨_,rfl⟩
    obtain ⟨Wd,hWd⟩ : ∃ Wd,wc.alloc (.cells #[.int .i64 0,.int .i64 0,.int .i64 0,.int .i64 0,.int .i64 0,.int .i64 0,.slice none 0 0,.int .u64 0,.slice none 0 0,.int .i64 0] 56)=Wd:=⟨_,rfl⟩
    have ge:=hold_new [.int .i64 0,.int .i64 0,.int .i64 0,.int .i64 0,.int .i64 0,.int .i64 0,.slice none 0 0,.int .u64 0,.slice none 0 0,.int .i64 0] 56 gd
    rw [hb12,show wc.alloc (.cells ([.int .i64 0,.int .i64 0,.int .i64 0,.int .i64 0,.int .i64 0,.int .i64 0,.slice none 0 0,.int .u64 0,.slice none 0 0,.int .i64 0] : List Value).toArray 56)=Wd from hWd] at ge
    obtain ⟨we,se,gf⟩:=st_all (t := 56) (cs':=RVb) ge vlb vob vib
    have rf:=ld_all gf Tryz.underlying56 rfl vib
    obtain ⟨wf,sf,gg⟩:=st_all (t := 56) (cs':=RVb) (hold_up [_,_,_,_] gf) (vlb.trans vla.symm) vob vib
    have gh:=hold_drop (r:=[_]) (hold_up [_,_,_,_] (hold_up [_,_,_,_] (hold_up [_,_,_] (hold_up [_,_,_,_] gg))))
    obtain ⟨e0,e1,e2,e3⟩:=hca _ _ (hold_up [_] gh)
    have hp:=hBg.prog (m - 1) _ wf b gh
    clear gb gc gd ge gf gg
    gi_wp2_with (first
     | (refine wpListIn_load_run rfl _ _ rfl rf rfl ?_)
     | (refine wpListIn_store_run rfl _ _ _ rfl se rfl rfl ?_)
     | (refine wpListIn_store_run rfl _ _ _ rfl sf rfl rfl ?_))
    refine ⟨trivial,fun h=>by simp [Fence.wide] at h,hp.mono ?_⟩
    clear hp rf se sf e0 e1 e2 e3 hWd hb12 gh
    rintro e wg ⟨rfl,gi⟩
    obtain ⟨e0,e1,e2,e3⟩:=hca _ _ (hold_up [_] gi)
    have rg:=ld_all (hold_up [_,_,_] gi) Tryz.underlying56 rfl vib
    have hd:=hSt.doc (m - 1) _ wg rs1 lv1 rv hR1 (hold_perm (List.perm_append_comm_assoc [_,_,_,_] (refL c xb rs1 lv1 rv) []) gi)
    rw [hVb] at hd
    clear hVb
    gi_wp2_with (first
     | (refine wpListIn_load_run rfl _ _ rfl rg rfl ?_)
    )
    refine ⟨trivial,fun h=>by simp [Fence.wide] at h,hd.mono ?_⟩
    clear hd rg e0 e1 e2 e3 gi
    rintro e wh ⟨rs2,lv2,rv2,ov,hE,hR2,gj⟩
    obtain ⟨oa,ok,rfl⟩:=slr_val (hold_slr gj)
    obtain ⟨RVc,hVc⟩ : ∃ RV,rV c rv2 xs.m.ops lv2 xs.pts=RV:=⟨_,rfl⟩
    have vlc:RVc.length=10:=by rw [← hVc]; rfl
    have voc:∀ y ∈ RVc,y.oneCell'=true:=by rw [← hVc]; exact rV_ones (hold_drop (r:=[_]) gj) _ _
    have vic:(Tryz.prog.info? 56).map (·.size)=some RVc.length:=by rw [vlc]; kernel_rfl
    rw [hVc] at hE
    subst hE
    obtain ⟨kd,hkd⟩ : ∃ k,OutS.k os=k:=⟨_,rfl⟩
    obtain ⟨got,hgot⟩ : ∃ k,OutS.g os=k:=⟨_,rfl⟩
    obtain ⟨Lo,hLo⟩ : ∃ l,OutS.l os=l:=⟨_,rfl⟩
    obtain ⟨bo,hbo⟩ : ∃ b,os.isSome=b:=⟨_,rfl⟩
    rw [hLo] at gj hol
    have gk:Ev.Hold ⟨w,fun _=>False⟩ (isA (.slice oa Lo.length ok) Lo::raceA b c xb::Ev.blkA b11 [.int .i64 aP,.int .i64 aK,.int .i64 aV,.int .i64 aG] 45 :: Ev.blkA bc (confL c) 23 :: Ev.blkA b9 RVb 56 :: (refL c xs rs2 lv2 rv2++[])) wh:=(hold_perm ((List.perm_append_comm_assoc (refL c xs rs2 lv2 rv2) [_,_,_,_] []).cons _) gj)
    rw [hkd,hgot,hLo,hbo]
    obtain ⟨b14,hb14⟩ : ∃ b14,wh.heap.size=b14:=⟨_,rfl⟩
    obtain ⟨Wk,hWk⟩ : ∃ Wk,wh.alloc (.cells #[.int .i64 0,.int .i64 0,.int .i64 0,.int .i64 0,.int .i64 0,.int .i64 0,.slice none 0 0,.int .u64 0,.slice none 0 0,.int .i64 0] 56)=Wk:=⟨_,rfl⟩
    have gl:=hold_new [.int .i64 0,.int .i64 0,.int .i64 0,.int .i64 0,.int .i64 0,.int .i64 0,.slice none 0 0,.int .u64 0,.slice none 0 0,.int .i64 0] 56 gk
    rw [hb14,show wh.alloc (.cells ([.int .i64 0,.int .i64 0,.int .i64 0,.int .i64 0,.int .i64 0,.int .i64 0,.slice none 0 0,.int .u64 0,.slice none 0 0,.int .i64 0] : List Value).toArray 56)=Wk from hWk] at gl
    obtain ⟨b15,hb15⟩ : ∃ b15,Wk.heap.size=b15:=⟨_,rfl⟩
    obtain ⟨Wl,hWl⟩ : ∃ Wl,Wk.alloc (.cells #[.int .i64 0,.int .i64 0,.slice none 0 0] 62)=Wl:=⟨_,rfl⟩
    have gm:=hold_new [.int .i64 0,.int .i64 0,.slice none 0 0] 62 gl
    rw [hb15,show Wk.alloc (.cells ([.int .i64 0,.int .i64 0,.slice none 0 0] : List Value).toArray 62)=Wl from hWl] at gm
    obtain ⟨wm,sm,gn⟩:=st_all (t := 56) (cs':=RVc) (hold_swap gm) vlc voc vic
    obtain ⟨wn,sn,go⟩:=st_all (t := 62) (cs':=[.int .i64 kd,.int .i64 got,.slice oa Lo.length ok]) (hold_swap gn) rfl (by simp [Value.oneCell']) (by kernel_rfl)
    have rn:=ld_all (hold_up [_] go) Tryz.underlying56 rfl vic
    obtain ⟨wo,so,gp⟩:=st_all (t := 56) (cs':=RVc) (hold_up [_,_,_,_,_,_] go) (vlc.trans vlb.symm) voc vic
    have gq:=hold_drop (r:=[_]) (hold_up [_,_,_,_,_,_] (hold_up [_,_,_,_,_,_] (hold_up [_,_,_,_,_,_] (hold_up [_,_,_,_] (hold_up [_,_] (hold_up [_,_,_,_,_,_] gp))))))
    obtain ⟨e0,e1,e2,e3⟩:=hca _ _ (hold_up [_] gq)
    have hp:=hSt.prog (m - 1) _ wo b gq
    rw [hkd,hgot,hLo,hbo] at hp
    clear gj gk gl gm gn go gp
    gi_wp2_with (first
     | (refine wpListIn_load_run rfl _ _ rfl rn rfl ?_)
     | (refine wpListIn_store_run rfl _ _ _ rfl sm rfl rfl ?_)
     | (refine wpListIn_store_run rfl _ _ _ rfl sn rfl rfl ?_)
     | (refine wpListIn_store_run rfl _ _ _ rfl so rfl rfl ?_))
    refine ⟨trivial,fun h=>by simp [Fence.wide] at h,hp.mono ?_⟩
    clear hp rn sm sn so e0 e1 e2 e3 hWk hWl hb14 hb15 gq
    rintro e wp ⟨pa,pk,rfl,gr⟩
    obtain ⟨b17,hb17⟩ : ∃ b17,wp.heap.size=b17:=⟨_,rfl⟩
    obtain ⟨Wq,hWq⟩ : ∃ Wq,wp.alloc (.cells #[.int .i64 0,.int .i64 0,.slice none 0 0] 37)=Wq:=⟨_,rfl⟩
    have gs:=hold_new [.int .i64 0,.int .i64 0,.slice none 0 0] 37 gr
    rw [hb17,show wp.alloc (.cells ([.int .i64 0,.int .i64 0,.slice none 0 0] : List Value).toArray 37)=Wq from hWq] at gs
    obtain ⟨wq,sq,gt⟩:=st_all (t := 37) (cs':=[.int .i64 kd,.int .i64 got,.slice pa Lo.length pk]) gs rfl (by simp [Value.oneCell']) (by kernel_rfl)
    have h9c:∀ (r':List Ev.Asr) (w':World),Ev.Hold ⟨w,fun _=>False⟩ (Ev.blkA b9 RVc 56 :: r') w'→w'.cell? ⟨b9,0,none⟩=some (.int .i64 (c.n:Int))∧w'.cell? ⟨b9,1,none⟩=some (.int .i64 (c.q:Int))∧w'.cell? ⟨b9,2,none⟩=some (.int .i64 c.g)∧w'.cell? ⟨b9,3,none⟩=some (.int .i64 c.m)∧w'.cell? ⟨b9,4,none⟩=some (.int .i64 c.t)∧w'.cell? ⟨b9,5,none⟩=some (.int .i64 c.s)∧w'.cell? ⟨b9,6,none⟩=some (rv2)∧w'.cell? ⟨b9,7,none⟩=some (.int .u64 xs.m.ops)∧w'.cell? ⟨b9,8,none⟩=some (lv2)∧w'.cell? ⟨b9,9,none⟩=some (.int .i64 xs.pts):=by
     intro r' w' hh
     rw [← hVc] at hh
     have hb:=hold_blk hh
     exact ⟨cell_of hb 0 _ rfl,cell_of hb 1 _ rfl,cell_of hb 2 _ rfl,cell_of hb 3 _ rfl,cell_of hb 4 _ rfl,cell_of hb 5 _ rfl,cell_of hb 6 _ rfl,cell_of hb 7 _ rfl,cell_of hb 8 _ rfl,cell_of hb 9 _ rfl⟩
    have k0:=cell_of (hold_blk gt) 0 _ rfl
    have k1:=cell_of (hold_blk gt) 1 _ rfl
    have k2:=cell_of (hold_blk gt) 2 _ rfl
    have k3:=cell_of (hold_blk (hold_up [_,_,_,_,_] gt)) 0 _ rfl
    have k4:=cell_of (hold_blk (hold_up [_,_,_,_,_] gt)) 1 _ rfl
    have k5:=cell_of (hold_blk (hold_up [_,_,_,_,_] gt)) 2 _ rfl
    have hsm:=same_in (m - 1) rfl hol kd got (hold_up [_,_,_,_,_,_,_] (hold_up [_,_,_,_,_,_,_] (hold_up [_,_,_,_,_,_] (hold_up [_,_,_,_,_,_] (hold_up [_,_,_,_,_,_,_] (hold_up [_,_,_,_,_,_,_] (hold_up [_] (hold_up [_,_,_,_,_] gt))))))))
    gi_wp2_with (refine wpListIn_store_run rfl _ _ _ rfl sq rfl rfl ?_)
    refine ⟨trivial,fun h=>by simp [Fence.wide] at h,hsm.mono ?_⟩
    clear hsm k0 k1 k2 k3 k4 k5 sq gs gt gr hWq hb17
    rintro e wt ⟨rfl,gu⟩
    have gv:=hold_drop (r:=[_]) gu
    have hq8':c.q≤8:=by omega
    obtain ⟨e0,e1,e2,e3⟩:=hca _ _ (hold_up [_] gv)
    obtain ⟨k0,k1,k2,k3,k4,k5,k6,k7,k8,k9⟩:=h9c _ _ (hold_up [_,_,_] gv)
    have hi1:=is_in (m - 1) aP hIs hq8' hR2 (hold_perm ((List.perm_append_comm_assoc [_,_,_,_,_] (refL c xs rs2 lv2 rv2) []).cons _) gv)
    unfold rV at hi1
    gi_wp2
    refine ⟨trivial,fun h=>by simp [Fence.wide] at h,hi1.mono ?_⟩
    clear hi1 k0 k1 k2 k3 k4 k5 k6 k7 k8 k9 e0 e1 e2 e3
    rintro e wu ⟨rfl,gw⟩
    have gx:=(hold_perm ((List.perm_append_comm_assoc (refL c xs rs2 lv2 rv2) [_,_,_,_,_] []).cons _) gw)
    clear gw gv gu
    obtain ⟨e0,e1,e2,e3⟩:=hca _ _ (hold_up [_] gx)
    obtain ⟨k0,k1,k2,k3,k4,k5,k6,k7,k8,k9⟩:=h9c _ _ (hold_up [_,_,_] gx)
    have hi2:=is_in (m - 1) aP hIs hq8' hR2 (hold_perm ((List.perm_append_comm_assoc [_,_,_,_,_] (refL c xs rs2 lv2 rv2) []).cons _) gx)
    unfold rV at hi2
    gi_wp2
    refine ⟨trivial,fun h=>by simp [Fence.wide] at h,hi2.mono ?_⟩
    clear hi2 k0 k1 k2 k3 k4 k5 k6 k7 k8 k9 e0 e1 e2 e3
    rintro e wv ⟨rfl,gy⟩
    have gz:=(hold_perm ((List.perm_append_comm_assoc (refL c xs rs2 lv2 rv2) [_,_,_,_,_] []).cons _) gy)
    gi_wp2
    rw [← hVc] at gz
    refine ⟨⟨i+1,xs,rs2,lv2,rv2,rfl,by omega,⟨B2,by omega,hIs⟩,hR2,?_⟩,by simp [intOf]; omega⟩
    exact hold_drop (r:=[_,_,_]) (hold_up [_,_,_,_,_] (hold_up [_,_,_,_,_] (hold_up [_,_,_,_,_] (hold_up [_,_] (hold_up [_,_,_] (hold_up [_,_,_] gz))))))
   ·have hlI2:¬ (i:Int) < (N:Int):=by omega
    obtain ⟨RVa,hVa⟩ : ∃ RV,rV c rv x.m.ops lv x.pts=RV:=⟨_,rfl⟩
    have vla:RVa.length=10:=by rw [← hVa]; rfl
    have voa:∀ y ∈ RVa,y.oneCell'=true:=by rw [← hVa]; exact rV_ones (hold_drop (r:=[_,_,_]) hH) _ _
    have via:(Tryz.prog.info? 56).map (·.size)=some RVa.length:=by rw [vla]; kernel_rfl
    rw [hVa] at hH
    have hq8':c.q≤8:=by omega
    gi_wp2
    gi_loopw [19] (fun q wr=>∃ p:Int,q=.int .i64 p∧-1≤p∧p≤(c.n:Int)+1∧Ev.Hold ⟨w,fun _=>False⟩ (raceA b c x::Ev.blkA bc (confL c) 23 :: Ev.blkA b9 RVa 56 :: (refL c x rs lv rv++[])) wr) (fun q _=>((c.n:Int)+2 - intOf q).toNat)
    case atStart=>exact ⟨-1,rfl,by omega,by omega,hH⟩
    case round =>
     obtain ⟨p,rfl,hp1,hp2,hG⟩:=hrel
     have d0:wr.cell? ⟨bc,0,none⟩=some (.int .i64 (c.n:Int)):=cell_of (hold_blk (hold_up [_] hG)) 0 _ rfl
     by_cases hle:p≤(c.n:Int)
     ·have rt:=ld_all (hold_up [_,_] hG) Tryz.underlying56 rfl via
      have hi1:=is_in (m - 1) p hI hq8' hR (hold_perm ((List.perm_append_comm_assoc [_,_] (refL c x rs lv rv) []).cons _) hG)
      rw [hVa] at hi1
      clear hVa
      gi_wp2_with (refine wpListIn_load_run rfl _ _ rfl rt rfl ?_)
      refine ⟨trivial,fun h=>by simp [Fence.wide] at h,hi1.mono ?_⟩
      clear hi1 rt d0
      rintro e wu ⟨rfl,gw⟩
      gi_wp2
      exact ⟨⟨p+1,rfl,by omega,by omega,hold_perm ((List.perm_append_comm_assoc (refL c x rs lv rv) [_,_] []).cons _) gw⟩,by simp [intOf]; omega⟩
     ·have hle':¬ p≤(c.n:Int):=hle
      have hB9:=hG.below (fun _=>id)
      gi_wp2
      refine ⟨trivial,fun h=>by simp [Fence.wide] at h,(hWk _ _).mono ?_⟩
      rintro e w4 ⟨rfl,hb⟩
      gi_wp2
      exact bodyPost_ret (results_tmp rfl _ _ _) rfl ⟨rfl,hB9.trans (hb.mono hB9.size)⟩
end
end Go.Proofs.YtkmccgombmogmaaGreat
namespace Go.Proofs.YtkmccgombmogmaaGreat
open Go.RowKit
set_option linter.unusedVariables false
set_option linter.unusedSimpArgs false
set_option maxRecDepth 8000
def cW:Cfg:=⟨2,2,9,3,2,0,by kernel_rfl⟩
def wst (x:RaceS) (p:Nat) : RaceS×Option OutS:=match x.ow[p]? with
 | some o=>match o.mac with
  | some M=>raceStep cW x p o M
  | none=>(x,none)
 | none=>(x,none)
def wbg (x:RaceS) (p:Nat) (kd cv cg:Int) : RaceS:=match x.ow[p]? with
 | some o=>begRace cW x p o kd cv cg
 | none=>x
def wx1:RaceS:=wbg (newRace cW) 0 1 0 5
def wx2:RaceS:=(wst wx1 0).1
def wx3:RaceS:=(wst wx2 0).1
def wx4:RaceS:=(wst wx3 0).1
def wx5:RaceS:=wbg wx4 1 3 0 0
def wx6:RaceS:=(wst wx5 1).1
def wx7:RaceS:=(wst wx6 1).1
def wx8:RaceS:=wbg wx7 0 2 0 0
def wx9:RaceS:=(wst wx8 0).1
def wx10:RaceS:=(wst wx9 0).1
def wx11:RaceS:=(wst wx10 0).1
def wx12:RaceS:=(wst wx11 1).1
def wx13:RaceS:=(wst wx12 1).1
abbrev oZ3:List Value:=[.int .i64 0,.int .i64 0,.slice none 0 0]
section
variable {ctx:Ev.Ctx} {w:World} {r:List Ev.Asr} {b:RB} {x x2:RaceS} {p:Nat} {B:Int} {R:Option OutS}
theorem wst_ok (n:Nat) (hI:RaceI cW B x) (hB:B+8≤1073741824) (hm:((x.ow[p]?).bind (fun o=>o.mac)).isSome=true) (h2:(wst x p).1=x2) {kd g:Int} {d:Bool} (e1:OutS.k (wst x p).2=kd) (e2:OutS.g (wst x p).2=g) (e3:(wst x p).2.isSome=d) (h:Ev.Hold ctx (raceA b cW x::r) w) :
  RaceI cW (B+8) x2∧CallsIn Fence.wide n Tryz.prog 13 #[.pointer (some ⟨b.br,0,none⟩),.int .i64 (p:Int)] w fun e w'=>∃ a l k,e=.returned (.tuple #[.agg #[.int .i64 kd,.int .i64 g,.slice a l k],.bool d])∧Ev.Hold ctx (raceA b cW x2::r) w':=by
 subst h2 e1 e2 e3
 unfold wst
 cases ho:x.ow[p]? with
 | none=>rw [ho] at hm; cases hm
 | some o =>
  dsimp only
  cases hM:o.mac with
  | none=>rw [ho] at hm; simp [hM] at hm
  | some M =>
   dsimp only
   refine ⟨(race_step hI hB ho hM).1,(astep n hI hB ho hM h).mono ?_⟩
   rintro e w' ⟨a,k,rfl,hh⟩
   exact ⟨a,_,k,rfl,hold_drop (r:=[_]) hh⟩
theorem wbg_ok (n:Nat) (hI:RaceI cW B x) {kd cv cg:Int} (hg:Gn cg) (hm:(x.ow[p]?).map (fun o=>o.mac.isNone && (newMac cW p kd cv cg).isSome)=some true) (h2:wbg x p kd cv cg=x2) (h:Ev.Hold ctx (raceA b cW x::r) w) :
  RaceI cW B x2∧CallsIn Fence.wide n Tryz.prog 11 #[.pointer (some ⟨b.br,0,none⟩),.int .i64 (p:Int),.agg #[.int .i64 kd,.int .i64 cv,.int .i64 cg]] w fun e w'=>e=.returned (.int .i64 0)∧Ev.Hold ctx (raceA b cW x2::r) w':=by
 subst h2
 unfold wbg
 cases ho:x.ow[p]? with
 | none=>rw [ho] at hm; cases hm
 | some o =>
  have hb:=abegin n hI.len ho kd cv cg h
  dsimp only
  rw [ho] at hm
  cases hM:o.mac with
  | some M=>simp [hM] at hm
  | none =>
   cases hN:newMac cW p kd cv cg with
   | none=>simp [hN] at hm
   | some M =>
    have e0:begErr cW p o kd cv cg=0:=by unfold begErr; rw [hN,hM]; rfl
    have e1:begRace cW x p o kd cv cg=x.own p (o.beg kd cv cg M):=by unfold begRace; rw [hN,hM]; rfl
    rw [e0,e1] at hb
    rw [e1]
    exact ⟨(race_begin hI ho hM (.inl hg) hN).1,hb⟩
set_option maxHeartbeats 4000000 in
theorem works_any (w:World) : Calls Tryz.prog 8 #[] w fun e w'=>e=.returned (.bool true)∧Below w.heap.size w w':=by
 refine wof fun m=>?_
 have h0:Ev.Hold ⟨w,fun _=>False⟩ [] w:=Ev.Hold.start (Ev.now_nil w)
 have I0:=(race_new cW (.inl rfl)).1
 refine wen Tryz.func8 116 ?_
 gi_wp2
 refine wcl (anew (m - 1) cW h0) ?_
 rintro e w1 ⟨b,rfl,h1⟩
 obtain ⟨I1,c1⟩:=wbg_ok (m - 1) (p:=0) (kd:=1) (cv:=0) (cg:=5) I0 (by decide) (by kernel_rfl) (show _=wx1 from rfl) h1
 gi_wp2
 refine wcl c1 ?_
 rintro e v1 ⟨rfl,g1⟩
 obtain ⟨I2,c2⟩:=wst_ok (m - 1) (p:=0) (kd:=0) (g:=0) (d:=false) I1 (by decide) (by kernel_rfl) (show _=wx2 from rfl) (by kernel_rfl) (by kernel_rfl) (by kernel_rfl) g1
 gi_wp2
 refine wcl c2 ?_
 rintro e u2 ⟨a2,l2,k2,rfl,f2⟩
 obtain ⟨b2,W2,hb2,hW2,q2⟩:=newN oZ3 37 f2
 obtain ⟨v2,s2,t2⟩:=st_all (t := 37) (cs':=[.int .i64 0,.int .i64 0,.slice a2 l2 k2]) q2 rfl (by simp [Value.oneCell']) (by kernel_rfl)
 have g2:=hsel [_,_] t2 [1]
 obtain ⟨I3,c3⟩:=wst_ok (m - 1) (p:=0) (kd:=0) (g:=0) (d:=false) I2 (by decide) (by kernel_rfl) (show _=wx3 from rfl) (by kernel_rfl) (by kernel_rfl) (by kernel_rfl) g2
 gi_wp2_with (refine wpListIn_store_run rfl _ _ _ rfl s2 rfl rfl ?_)
 refine wcl c3 ?_
 rintro e u3 ⟨a3,l3,k3,rfl,f3⟩
 obtain ⟨b3,W3,hb3,hW3,q3⟩:=newN oZ3 37 f3
 obtain ⟨v3,s3,t3⟩:=st_all (t := 37) (cs':=[.int .i64 0,.int .i64 0,.slice a3 l3 k3]) q3 rfl (by simp [Value.oneCell']) (by kernel_rfl)
 have g3:=hsel [_,_] t3 [1]
 obtain ⟨I4,c4⟩:=wst_ok (m - 1) (p:=0) (kd:=1) (g:=(-1)) (d:=true) I3 (by decide) (by kernel_rfl) (show _=wx4 from rfl) (by kernel_rfl) (by kernel_rfl) (by kernel_rfl) g3
 gi_wp2_with (refine wpListIn_store_run rfl _ _ _ rfl s3 rfl rfl ?_)
 refine wcl c4 ?_
 rintro e u4 ⟨a4,l4,k4,rfl,f4⟩
 obtain ⟨b4,W4,hb4,hW4,q4⟩:=newN oZ3 37 f4
 obtain ⟨v4,s4,t4⟩:=st_all (t := 37) (cs':=[.int .i64 1,.int .i64 (-1),.slice a4 l4 k4]) q4 rfl (by simp [Value.oneCell']) (by kernel_rfl)
 have g4:=hsel [_,_] t4 [1]
 have er:ringL cW wx4.m 0=[5]:=by kernel_rfl
 have ha:=aring (m - 1) (p:=0) (b:=b) (x:=wx4) (by decide) I4.R.mem g4
 rw [er] at ha
 gi_wp2_with (refine wpListIn_store_run rfl _ _ _ rfl s4 rfl rfl ?_)
 refine wcl ha ?_
 rintro e y1 ⟨a0,k0,rfl,j1⟩
 have j2:=hsel [_,_,_] (blk_isA (hold_new [.int .i64 5] 3 j1)) [1,0,2]
 gi_wp2
 refine wcl (asame (m - 1) (by decide) j2) ?_
 rintro e y2 ⟨rfl,j3⟩
 have g4:=hsel [_,_,_] j3 [2]
 obtain ⟨I5,c5⟩:=wbg_ok (m - 1) (p:=1) (kd:=3) (cv:=0) (cg:=0) I4 (by decide) (by kernel_rfl) (show _=wx5 from rfl) g4
 gi_wp2
 refine wcl c5 ?_
 rintro e v5 ⟨rfl,g5⟩
 obtain ⟨I6,c6⟩:=wst_ok (m - 1) (p:=1) (kd:=0) (g:=0) (d:=false) I5 (by decide) (by kernel_rfl) (show _=wx6 from rfl) (by kernel_rfl) (by kernel_rfl) (by kernel_rfl) g5
 gi_wp2
 refine wcl c6 ?_
 rintro e u6 ⟨a6,l6,k6,rfl,f6⟩
 obtain ⟨I7,c7⟩:=wst_ok (m - 1) (p:=1) (kd:=0) (g:=0) (d:=false) I6 (by decide) (by kernel_rfl) (show _=wx7 from rfl) (by kernel_rfl) (by kernel_rfl) (by kernel_rfl) f6
 gi_wp2
 refine wcl c7 ?_
 rintro e u7 ⟨a7,l7,k7,rfl,f7⟩
 obtain ⟨I8,c8⟩:=wbg_ok (m - 1) (p:=0) (kd:=2) (cv:=0) (cg:=0) I7 (by decide) (by kernel_rfl) (show _=wx8 from rfl) f7
 gi_wp2
 refine wcl c8 ?_
 rintro e v8 ⟨rfl,g8⟩
 obtain ⟨I9,c9⟩:=wst_ok (m - 1) (p:=0) (kd:=0) (g:=0) (d:=false) I8 (by decide) (by kernel_rfl) (show _=wx9 from rfl) (by kernel_rfl) (by kernel_rfl) (by kernel_rfl) g8
 gi_wp2
 refine wcl c9 ?_
 rintro e u9 ⟨a9,l9,k9,rfl,f9⟩
 obtain ⟨I10,c10⟩:=wst_ok (m - 1) (p:=0) (kd:=0) (g:=0) (d:=false) I9 (by decide) (by kernel_rfl) (show _=wx10 from rfl) (by kernel_rfl) (by kernel_rfl) (by kernel_rfl) f9
 gi_wp2
 refine wcl c10 ?_
 rintro e u10 ⟨a10,l10,k10,rfl,f10⟩
 obtain ⟨I11,c11⟩:=wst_ok (m - 1) (p:=0) (kd:=2) (g:=5) (d:=true) I10 (by decide) (by kernel_rfl) (show _=wx11 from rfl) (by kernel_rfl) (by kernel_rfl) (by kernel_rfl) f10
 gi_wp2
 refine wcl c11 ?_
 rintro e u11 ⟨a11,l11,k11,rfl,f11⟩
 obtain ⟨b11,W11,hb11,hW11,q11⟩:=newN oZ3 37 f11
 obtain ⟨v11,s11,t11⟩:=st_all (t := 37) (cs':=[.int .i64 2,.int .i64 5,.slice a11 l11 k11]) q11 rfl (by simp [Value.oneCell']) (by kernel_rfl)
 have g11:=hold_up [_] t11
 obtain ⟨I12,c12⟩:=wst_ok (m - 1) (p:=1) (kd:=0) (g:=0) (d:=false) I11 (by decide) (by kernel_rfl) (show _=wx12 from rfl) (by kernel_rfl) (by kernel_rfl) (by kernel_rfl) g11
 gi_wp2_with (refine wpListIn_store_run rfl _ _ _ rfl s11 rfl rfl ?_)
 refine wcl c12 ?_
 rintro e u12 ⟨a12,l12,k12,rfl,f12⟩
 obtain ⟨b12,W12,hb12,hW12,q12⟩:=newN oZ3 37 f12
 obtain ⟨v12,s12,t12⟩:=st_all (t := 37) (cs':=[.int .i64 0,.int .i64 0,.slice a12 l12 k12]) q12 rfl (by simp [Value.oneCell']) (by kernel_rfl)
 have g12:=hsel [_,_,_] t12 [1,2]
 obtain ⟨I13,c13⟩:=wst_ok (m - 1) (p:=1) (kd:=3) (g:=(-1)) (d:=true) I12 (by decide) (by kernel_rfl) (show _=wx13 from rfl) (by kernel_rfl) (by kernel_rfl) (by kernel_rfl) g12
 gi_wp2_with (refine wpListIn_store_run rfl _ _ _ rfl s12 rfl rfl ?_)
 refine wcl c13 ?_
 rintro e u13 ⟨a13,l13,k13,rfl,f13⟩
 obtain ⟨b13,W13,hb13,hW13,q13⟩:=newN oZ3 37 f13
 obtain ⟨v13,s13,t13⟩:=st_all (t := 37) (cs':=[.int .i64 3,.int .i64 (-1),.slice a13 l13 k13]) q13 rfl (by simp [Value.oneCell']) (by kernel_rfl)
 have z1:=blkc (hold_up [_,_] t13) 1 _
 have z2:=blkc t13 1 _
 gi_wp2_with (refine wpListIn_store_run rfl _ _ _ rfl s13 rfl rfl ?_)
 refine wcl (afits (m - 1) I13.ok (hold_up [_] t13)) ?_
 rintro e y3 ⟨rfl,rfl⟩
 gi_wp2
 exact bodyPost_ret (results_tmp rfl _ _ _) rfl ⟨rfl,t13.below (fun _=>id)⟩
end
end Go.Proofs.YtkmccgombmogmaaGreat
