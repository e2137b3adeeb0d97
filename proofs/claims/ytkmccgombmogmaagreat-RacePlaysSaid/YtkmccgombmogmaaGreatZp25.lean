/- 'RacePlays' returns true, whatever its arguments are, and leaves them as they were. -/
import Derived.Test.YtkmccgombmogmaaGreatZp24
import Derived.Test.YtkmccgombmogmaaGreatZp14
import Derived.Test.YtkmccgombmogmaaGreatZp2
import Derived.Test.YtkmccgombmogmaaGreatRows
import Derived.WalkKit
import Derived.ProofKit
import Derived.OpenShut
import Derived.Carry
import Derived.Deep.Fields
import Derived.Test.YtkmccgombmogmaaGreatZp0
import Derived.Deep.Slices
import Derived.ChangeSame
namespace Go.Proofs.YtkmccgombmogmaaGreat
open Go.RowKit
open Go.Ev (iz uz iN)
set_option linter.unusedVariables false
set_option linter.unusedSimpArgs false
set_option maxRecDepth 8000
section
theorem cf_right (c:Cf) (w:World) : Calls Tryz.prog 21 #[c.v] w fun e w'=>e=.returned (.bool c.ok)∧Below w.heap.size w w':=by
 cases h:c.ok with
 | false=>exact Cf.wrong h w
 | true =>
  obtain ⟨d,rfl⟩:=Cf.cfg h
  exact d.right w
theorem rV_ones {ctx:Ev.Ctx} {c:Cfg} {x:RaceS} {rs:Nat→OwR} {lv rv:Value} {r:List Ev.Asr} {w:World} (h:Ev.Hold ctx (refL c x rs lv rv++r) w) (ops pts:Int) : ∀ y ∈ rV c rv ops lv pts,y.oneCell'=true:=by
 obtain ⟨⟨_,_,rfl⟩,_,_,rfl⟩:=ref_shape h
 simp [rV,Value.oneCell']
set_option maxHeartbeats 4000000 in
theorem plays_in (m:Nat) (c0:Cf) {a0:Option Addr} {N k0:Nat} {L:List Value} {w:World} (hs:Ev.SlR 4 (.slice a0 N k0) N L w) (hL:∀ j,j < N * 4→∃ i:Int,i≤9223372036854775807∧L[j]? = some (.int .i64 i)) (hWk:∀ (m:Nat) (w:World),CallsIn Fence.wide m Tryz.prog 8 #[] w fun e w'=>e=.returned (.bool true)∧Below w.heap.size w w') :
  CallsIn Fence.wide m Tryz.prog 5 #[c0.v,.slice a0 N k0] w fun e w'=>e=.returned (.bool true)∧Below w.heap.size w w':=by
 refine callsIn_of_wp Tryz.func5 rfl trivial ?_ rfl
 simp only [Tryz.ntmps5,List.size_toArray,List.length_cons,List.length_nil,Nat.reduceAdd,Nat.reduceSub,Array.replicate_succ,Array.replicate_zero,List.push_toArray,List.append_toArray,List.nil_append,List.cons_append]
 obtain ⟨W1,hW1⟩ : ∃ W1,w.alloc (.cells #[.int .i64 c0.n,.int .i64 c0.q,.int .i64 c0.g,.int .i64 c0.m,.int .i64 c0.t,.int .i64 c0.s] 23)=W1:=⟨_,rfl⟩
 have h0:Ev.Hold ⟨w,fun _=>False⟩ [] w:=Ev.Hold.start (Ev.now_nil w)
 have h1:Ev.Hold ⟨w,fun _=>False⟩ [Ev.blkA w.heap.size [.int .i64 c0.n,.int .i64 c0.q,.int .i64 c0.g,.int .i64 c0.m,.int .i64 c0.t,.int .i64 c0.s] 23] W1:=by rw [← hW1]; exact hold_new _ _ h0
 have hB1:=h1.below (fun _=>id)
 by_cases hl:N≤120
 rotate_left
 ·have hlI:(N:Int) > (120:Int):=by omega
  gi_wp2
  refine ⟨trivial,fun h=>by simp [Fence.wide] at h,(hWk _ _).mono ?_⟩
  rintro e w2 ⟨rfl,hb⟩
  gi_wp2
  exact bodyPost_ret (results_tmp rfl _ _ _) rfl ⟨rfl,hB1.trans (hb.mono hB1.size)⟩
 have hlI:¬ (N:Int) > (120:Int):=by omega
 have hcs:∀ (r:List Ev.Asr) (ctx:Ev.Ctx) (c:Cf) (bc:Nat) (w':World),Ev.Hold ctx (Ev.blkA bc [.int .i64 c.n,.int .i64 c.q,.int .i64 c.g,.int .i64 c.m,.int .i64 c.t,.int .i64 c.s] 23 :: r) w'→w'.cell? ⟨bc,0,none⟩=some (.int .i64 c.n)∧w'.cell? ⟨bc,1,none⟩=some (.int .i64 c.q)∧w'.cell? ⟨bc,2,none⟩=some (.int .i64 c.g)∧w'.cell? ⟨bc,3,none⟩=some (.int .i64 c.m)∧w'.cell? ⟨bc,4,none⟩=some (.int .i64 c.t)∧w'.cell? ⟨bc,5,none⟩=some (.int .i64 c.s)∧(∀ j,w'.frozen? ⟨bc,j,none⟩=false) :=
  fun r ctx c bc w' hh=>⟨cell_of (hold_blk hh) 0 _ rfl,cell_of (hold_blk hh) 1 _ rfl,cell_of (hold_blk hh) 2 _ rfl,cell_of (hold_blk hh) 3 _ rfl,cell_of (hold_blk hh) 4 _ rfl,cell_of (hold_blk hh) 5 _ rfl,fun j=>froz_of (hold_blk hh) j⟩
 obtain ⟨bc,hbc⟩ : ∃ bc,w.heap.size=bc:=⟨_,rfl⟩
 rw [hbc] at h1
 obtain ⟨d0,d1,d2,d3,d4,d5,d6⟩:=hcs _ _ _ _ _ h1
 have hrt:=cf_right c0 W1
 gi_wp2
 refine ⟨trivial,fun h=>by simp [Fence.wide] at h,(callsIn_wide.2 hrt).mono ?_⟩
 clear hrt
 rintro e w2 ⟨rfl,B2⟩
 have h2:=hold_keep h1 B2
 clear d0 d1 d2 d3 d4 d5 d6
 obtain ⟨d0,d1,d2,d3,d4,d5,d6⟩:=hcs _ _ _ _ _ h2
 cases hok:c0.ok with
 | false =>
  have hn:=newNo (m - 1) hok h2
  clear hok
  gi_wp2
  refine ⟨trivial,fun h=>by simp [Fence.wide] at h,hn.mono ?_⟩
  clear hn
  rintro e w3 ⟨rfl,h3⟩
  gi_wp2
  refine ⟨trivial,fun h=>by simp [Fence.wide] at h,(hWk _ _).mono ?_⟩
  rintro e w4 ⟨rfl,hb⟩
  gi_wp2
  have hB3:=h3.below (fun _=>id)
  exact bodyPost_ret (results_tmp rfl _ _ _) rfl ⟨rfl,hB3.trans (hb.mono hB3.size)⟩
 | true =>
  obtain ⟨c,hc⟩ : ∃ c:Cfg,made c0=c:=⟨_,rfl⟩
  have hq8:=made_q8 c0
  have hmade:=made_ok c0 w2
  rw [hc] at hq8 hmade
  clear hc hok
  gi_wp2
  refine ⟨trivial,fun h=>by simp [Fence.wide] at h,(callsIn_wide.2 hmade).mono ?_⟩
  clear hmade
  rintro e w3 ⟨rfl,B3⟩
  have h3:=hold_keep h2 B3
  clear d0 d1 d2 d3 d4 d5 d6
  obtain ⟨p0,p1,p2,p3,p4,p5,p6⟩:=hcs _ _ _ _ _ h3
  obtain ⟨w4,s4,h4⟩:=st_all (t := 23) (cs':=confL c) h3 rfl (by simp [confL,Value.oneCell']) (by kernel_rfl)
  have l4:=ld_all h4 Tryz.underlying23 rfl (by kernel_rfl)
  clear p0 p1 p2 p3 p4 p5 p6 hcs h1 h2 h3 B2 B3
  gi_wp2_with (first
   | (refine wpListIn_load_run rfl _ _ rfl l4 rfl ?_)
   | (refine wpListIn_store_run rfl _ _ _ rfl s4 rfl rfl ?_))
  refine ⟨trivial,fun h=>by simp [Fence.wide] at h,(anew (m - 1) c h4).mono ?_⟩
  clear s4 l4
  rintro e w5 ⟨b,rfl,h5⟩
  have l5:=ld_all (hold_swap h5) Tryz.underlying23 rfl (by kernel_rfl)
  have hcf:=conf_in (c:=c) (m - 1) h5
  gi_wp2_with (refine wpListIn_load_run rfl _ _ rfl l5 rfl ?_)
  refine ⟨trivial,fun h=>by simp [Fence.wide] at h,hcf.mono ?_⟩
  clear hcf l5
  rintro e w6 ⟨rfl,h6⟩
  have hnw:=new12 (c:=c) (m - 1) h6
  gi_wp2
  refine ⟨trivial,fun h=>by simp [Fence.wide] at h,hnw.mono ?_⟩
  clear hnw
  rintro e w7 ⟨lv,rv,rfl,h7⟩
  obtain ⟨b9,hb9⟩ : ∃ b9,w7.heap.size=b9:=⟨_,rfl⟩
  obtain ⟨W8,hW8⟩ : ∃ W8,w7.alloc (.cells #[.int .i64 0,.int .i64 0,.int .i64 0,.int .i64 0,.int .i64 0,.int .i64 0,.slice none 0 0,.int .u64 0,.slice none 0 0,.int .i64 0] 56)=W8:=⟨_,rfl⟩
  have h8:=hold_new [.int .i64 0,.int .i64 0,.int .i64 0,.int .i64 0,.int .i64 0,.int .i64 0,.slice none 0 0,.int .u64 0,.slice none 0 0,.int .i64 0] 56 h7
  rw [hb9,show w7.alloc (.cells ([.int .i64 0,.int .i64 0,.int .i64 0,.int .i64 0,.int .i64 0,.int .i64 0,.slice none 0 0,.int .u64 0,.slice none 0 0,.int .i64 0] : List Value).toArray 56)=W8 from hW8] at h8
  obtain ⟨w9,s9,h9⟩:=st_all (t := 56) (cs':=rV c rv 0 lv 0) h8 rfl (rV_ones h7 0 0) (by kernel_rfl)
  have h10:Ev.Hold ⟨w,fun _=>False⟩ (raceA b c (newRace c)::Ev.blkA bc (confL c) 23 :: Ev.blkA b9 (rV c rv (newRace c).m.ops lv (newRace c).pts) 56 :: (refL c (newRace c) (fun _=>own0) lv rv++[])) w9:=by
   have k1:Ev.Hold ⟨w,fun _=>False⟩ ([Ev.blkA b9 (rV c rv 0 lv 0) 56]++(refL c (newRace c) (fun _=>own0) lv rv++[raceA b c (newRace c),Ev.blkA bc (confL c) 23])) w9:=h9
   refine hold_perm (perm_of (fun f=>?_)) k1
   simp only [List.cons_append,List.nil_append,List.append_nil,List.map_append,List.map_cons,List.map_nil,List.sum_append,List.sum_cons,List.sum_nil,newRace]
   omega
  have hnb:=c.nb
  clear h9 h8 h7 h6 h5 h4
  gi_upto_region 11 with (refine wpListIn_store_run rfl _ _ _ rfl s9 rfl rfl ?_)
  clear s9 hW8 hb9
  gi_wp2
  gi_loopw [10] (fun q wr=>∃ (i:Nat) (x:RaceS) (rs:Nat→OwR) (lv rv:Value),q=.int .i64 (i:Int)∧i≤N∧(∃ B:Int,B≤8 * (i:Int)∧RaceI c B x)∧RefOk c x rs∧Ev.Hold ⟨w,fun _=>False⟩ (raceA b c x::Ev.blkA bc (confL c) 23 :: Ev.blkA b9 (rV c rv x.m.ops lv x.pts) 56 :: (refL c x rs lv rv++[])) wr) (fun q _=>N - (intOf q).toNat)
  case atStart=>exact ⟨0,newRace c,fun _=>own0,lv,rv,rfl,Nat.zero_le _,⟨0,by omega,(race_new c hq8).1⟩,refOk_new,h10⟩
  case round =>
   clear h10
   obtain ⟨i,x,rs,lv,rv,rfl,hi,⟨B,hB,hI⟩,hR,hH⟩:=hrel
   by_cases hlt:i < N
   ·have hlI2:(i:Int) < (N:Int):=by omega
    rcases hs.2 with ⟨e,_⟩ | ⟨ba,off,c1,hv,hb,hc⟩
    ·omega
    cases hv
    have hgt:∀ (j:Nat),j < 4→∃ u:Int,u≤9223372036854775807∧∀ W:World,Below w.heap.size w W→W.cell? ⟨ba,off+i * 4+j,none⟩=some (.int .i64 u):=by
     intro j hj
     obtain ⟨u,hu1,hu⟩:=hL (i * 4+j) (by omega)
     refine ⟨u,hu1,fun W hW=>?_⟩
     rw [hW.cell (p:=⟨ba,off+i * 4+j,none⟩) hb.1,Nat.add_assoc,hc _ (by omega),hu]
    obtain ⟨aP,_,g0⟩:=hgt 0 (by decide)
    obtain ⟨aK,_,g1⟩:=hgt 1 (by decide)
    obtain ⟨aV,_,g2⟩:=hgt 2 (by decide)
    obtain ⟨aG,hG,g3⟩:=hgt 3 (by decide)
    rw [Nat.add_zero] at g0
    have q0:=g0 wr (hH.below (fun _=>id))
    have q1:=g1 wr (hH.below (fun _=>id))
    have q2:=g2 wr (hH.below (fun _=>id))
    have q3:=g3 wr (hH.below (fun _=>id))
    clear g0 g1 g2 g3 hgt
    obtain ⟨er,xb,hIb,hBg⟩:=beg_both (ctx:=⟨w,fun _=>False⟩) hI aP aK aV aG hG
    obtain ⟨os,xs,B2,hB2,hIs,hol,hSt⟩:=step_both (ctx:=⟨w,fun _=>False⟩) hIb (by omega) aP
    obtain ⟨RVa,hVa⟩ : ∃ RV,rV c rv x.m.ops lv x.pts=RV:=⟨_,rfl⟩
    have vla:RVa.length=10:=by rw [← hVa]; rfl
    have voa:∀ y ∈ RVa,y.oneCell'=true:=by rw [← hVa]; exact rV_ones (hold_drop (r:=[_,_,_]) hH) _ _
    have via:(Tryz.prog.info? 56).map (·.size)=some RVa.length:=by rw [vla]; kernel_rfl
    rw [hVa] at hH
    obtain ⟨b11,hb11⟩ : ∃ b11,wr.heap.size=b11:=⟨_,rfl⟩
    obtain ⟨Wa,hWa⟩ : ∃ Wa,wr.alloc (.cells #[.int .i64 0,.int .i64 0,.int .i64 0,.int .i64 0] 45)=Wa:=⟨_,rfl⟩
    have ga:=hold_new [.int .i64 0,.int .i64 0,.int .i64 0,.int .i64 0] 45 hH
    rw [hb11,show wr.alloc (.cells ([.int .i64 0,.int .i64 0,.int .i64 0,.int .i64 0] : List Value).toArray 45)=Wa from hWa] at ga
    obtain ⟨wb,sb,gb⟩:=st_all (t := 45) (cs':=[.int .i64 aP,.int .i64 aK,.int .i64 aV,.int .i64 aG]) ga rfl (by simp [Value.oneCell']) (by kernel_rfl)
    have hca:∀ (r':List Ev.Asr) (w':World),Ev.Hold ⟨w,fun _=>False⟩ (Ev.blkA b11 [.int .i64 aP,.int .i64 aK,.int .i64 aV,.int .i64 aG] 45 :: r') w'→w'.cell? ⟨b11,0,none⟩=some (.int .i64 aP)∧w'.cell? ⟨b11,1,none⟩=some (.int .i64 aK)∧w'.cell? ⟨b11,2,none⟩=some (.int .i64 aV)∧w'.cell? ⟨b11,3,none⟩=some (.int .i64 aG):=fun r' w' hh=>⟨cell_of (hold_blk hh) 0 _ rfl,cell_of (hold_blk hh) 1 _ rfl,cell_of (hold_blk hh) 2 _ rfl,cell_of (hold_blk hh) 3 _ rfl⟩
    obtain ⟨e0,e1,e2,e3⟩:=hca _ _ gb
    have rb:=ld_all (hold_up [_,_,_] gb) Tryz.underlying56 rfl via
    have hd:=hBg.doc (m - 1) _ wb rs lv rv hR (hold_perm (List.perm_append_comm_assoc [_,_,_,_] (refL c x rs lv rv) []) gb)
    rw [hVa] at hd
    clear hVa
    gi_wp2_with (first
     | (refine wpListIn_load_run rfl _ _ rfl rb rfl ?_)
     | (refine wpListIn_store_run rfl _ _ _ rfl sb rfl rfl ?_))
    refine ⟨trivial,fun h=>by simp [Fence.wide] at h,hd.mono ?_⟩
    clear hd rb sb e0 e1 e2 e3 q0 q1 q2 q3 hWa hb11 ga
    rintro e wc ⟨rs1,lv1,hE,hR1,gc⟩
    obtain ⟨RVb,hVb⟩ : ∃ RV,rV c rv xb.m.ops lv1 xb.pts=RV:=⟨_,rfl⟩
    have vlb:RVb.length=10:=by rw [← hVb]; rfl
    have vob:∀ y ∈ RVb,y.oneCell'=true:=by rw [← hVb]; exact rV_ones gc _ _
    have vib:(Tryz.prog.info? 56).map (·.size)=some RVb.length:=by rw [vlb]; kernel_rfl
    rw [hVb] at hE
    subst hE
    have gd:Ev.Hold ⟨w,fun _=>False⟩ (Ev.blkA b11 [.int .i64 aP,.int .i64 aK,.int .i64 aV,.int .i64 aG] 45 :: raceA b c x::Ev.blkA bc (confL c) 23 :: Ev.blkA b9 RVa 56 :: (refL c xb rs1 lv1 rv++[])) wc:=(hold_perm (List.perm_append_comm_assoc (refL c xb rs1 lv1 rv) [_,_,_,_] []) gc)
    obtain ⟨b12,hb12⟩ : ∃ b12,wc.heap.size=b12:=⟨_,rfl⟩
    obtain ⟨Wd,hWd⟩ : ∃ Wd,wc.alloc (.cells #[.int .i64 0,.int .i64 0,.int .i64 0,.int .i64 0,.int .i64 0,.int .i64 0,.slice none 0 0,.int .u64 0,.slice none 0 0,.int .i64 0] 56)=Wd:=⟨_,rfl⟩
    have ge:=hold_new [.int .i64 0,.int .i64 0,.int .i64 0,.int .i64 0,.int .i64 0,.int .i64 0,.slice none 0 0,.int .u64 0,.slice none 0 0,.int .i64 0] 56 gd
    rw [hb12,show wc.alloc (.cells ([.int .i64 0,.int .i64 0,.int .i64 0,.int .i64 0,.int .i64 0,.int .i64 0,.slice none 0 0,.int .u64 0,.slice none 0 0,.int .i64 0] : List Value).toArray 56)=Wd from hWd] at ge
    obtain ⟨we,se,gf⟩:=st_all (t := 56) (cs':=RVb) ge vlb vob vib
    have rf:=ld_all gf Tryz.underlying56 rfl vib
    obtain ⟨wf,sf,gg⟩:=st_all (t := 56) (cs':=RVb) (hold_up [_,_,_,_] gf) (vlb.trans vla.symm) vob vib
    have gh:=hold_drop (r:=[_]) (hold_up [_,_,_,_] (hold_up [_,_,_,_] (hold_up [_,_,_] (hold_up [_,_,_,_] gg))))
    obtain ⟨e0,e1,e2,e3⟩:=hca _ _ (hold_up [_] gh)
    have hp:=hBg.prog (m - 1) _ wf b gh
    clear gb gc gd ge gf gg
    gi_wp2_with (first
     | (refine wpListIn_load_run rfl _ _ rfl rf rfl ?_)
     | (refine wpListIn_store_run rfl _ _ _ rfl se rfl rfl ?_)
     | (refine wpListIn_store_run rfl _ _ _ rfl sf rfl rfl ?_))
    refine ⟨trivial,fun h=>by simp [Fence.wide] at h,hp.mono ?_⟩
    clear hp rf se sf e0 e1 e2 e3 hWd hb12 gh
    rintro e wg ⟨rfl,gi⟩
    obtain ⟨e0,e1,e2,e3⟩:=hca _ _ (hold_up [_] gi)
    have rg:=ld_all (hold_up [_,_,_] gi) Tryz.underlying56 rfl vib
    have hd:=hSt.doc (m - 1) _ wg rs1 lv1 rv hR1 (hold_perm (List.perm_append_comm_assoc [_,_,_,_] (refL c xb rs1 lv1 rv) []) gi)
    rw [hVb] at hd
    clear hVb
    gi_wp2_with (first
     | (refine wpListIn_load_run rfl _ _ rfl rg rfl ?_)
    )
    refine ⟨trivial,fun h=>by simp [Fence.wide] at h,hd.mono ?_⟩
    clear hd rg e0 e1 e2 e3 gi
    rintro e wh ⟨rs2,lv2,rv2,ov,hE,hR2,gj⟩
    obtain ⟨oa,ok,rfl⟩:=slr_val (hold_slr gj)
    obtain ⟨RVc,hVc⟩ : ∃ RV,rV c rv2 xs.m.ops lv2 xs.pts=RV:=⟨_,rfl⟩
    have vlc:RVc.length=10:=by rw [← hVc]; rfl
    have voc:∀ y ∈ RVc,y.oneCell'=true:=by rw [← hVc]; exact rV_ones (hold_drop (r:=[_]) gj) _ _
    have vic:(Tryz.prog.info? 56).map (·.size)=some RVc.length:=by rw [vlc]; kernel_rfl
    rw [hVc] at hE
    subst hE
    obtain ⟨kd,hkd⟩ : ∃ k,OutS.k os=k:=⟨_,rfl⟩
    obtain ⟨got,hgot⟩ : ∃ k,OutS.g os=k:=⟨_,rfl⟩
    obtain ⟨Lo,hLo⟩ : ∃ l,OutS.l os=l:=⟨_,rfl⟩
    obtain ⟨bo,hbo⟩ : ∃ b,os.isSome=b:=⟨_,rfl⟩
    rw [hLo] at gj hol
    have gk:Ev.Hold ⟨w,fun _=>False⟩ (isA (.slice oa Lo.length ok) Lo::raceA b c xb::Ev.blkA b11 [.int .i64 aP,.int .i64 aK,.int .i64 aV,.int .i64 aG] 45 :: Ev.blkA bc (confL c) 23 :: Ev.blkA b9 RVb 56 :: (refL c xs rs2 lv2 rv2++[])) wh:=(hold_perm ((List.perm_append_comm_assoc (refL c xs rs2 lv2 rv2) [_,_,_,_] []).cons _) gj)
    rw [hkd,hgot,hLo,hbo]
    obtain ⟨b14,hb14⟩ : ∃ b14,wh.heap.size=b14:=⟨_,rfl⟩
    obtain ⟨Wk,hWk⟩ : ∃ Wk,wh.alloc (.cells #[.int .i64 0,.int .i64 0,.int .i64 0,.int .i64 0,.int .i64 0,.int .i64 0,.slice none 0 0,.int .u64 0,.slice none 0 0,.int .i64 0] 56)=Wk:=⟨_,rfl⟩
    have gl:=hold_new [.int .i64 0,.int .i64 0,.int .i64 0,.int .i64 0,.int .i64 0,.int .i64 0,.slice none 0 0,.int .u64 0,.slice none 0 0,.int .i64 0] 56 gk
    rw [hb14,show wh.alloc (.cells ([.int .i64 0,.int .i64 0,.int .i64 0,.int .i64 0,.int .i64 0,.int .i64 0,.slice none 0 0,.int .u64 0,.slice none 0 0,.int .i64 0] : List Value).toArray 56)=Wk from hWk] at gl
    obtain ⟨b15,hb15⟩ : ∃ b15,Wk.heap.size=b15:=⟨_,rfl⟩
    obtain ⟨Wl,hWl⟩ : ∃ Wl,Wk.alloc (.cells #[.int .i64 0,.int .i64 0,.slice none 0 0] 62)=Wl:=⟨_,rfl⟩
    have gm:=hold_new [.int .i64 0,.int .i64 0,.slice none 0 0] 62 gl
    rw [hb15,show Wk.alloc (.cells ([.int .i64 0,.int .i64 0,.slice none 0 0] : List Value).toArray 62)=Wl from hWl] at gm
    obtain ⟨wm,sm,gn⟩:=st_all (t := 56) (cs':=RVc) (hold_swap gm) vlc voc vic
    obtain ⟨wn,sn,go⟩:=st_all (t := 62) (cs':=[.int .i64 kd,.int .i64 got,.slice oa Lo.length ok]) (hold_swap gn) rfl (by simp [Value.oneCell']) (by kernel_rfl)
    have rn:=ld_all (hold_up [_] go) Tryz.underlying56 rfl vic
    obtain ⟨wo,so,gp⟩:=st_all (t := 56) (cs':=RVc) (hold_up [_,_,_,_,_,_] go) (vlc.trans vlb.symm) voc vic
    have gq:=hold_drop (r:=[_]) (hold_up [_,_,_,_,_,_] (hold_up [_,_,_,_,_,_] (hold_up [_,_,_,_,_,_] (hold_up [_,_,_,_] (hold_up [_,_] (hold_up [_,_,_,_,_,_] gp))))))
    obtain ⟨e0,e1,e2,e3⟩:=hca _ _ (hold_up [_] gq)
    have hp:=hSt.prog (m - 1) _ wo b gq
    rw [hkd,hgot,hLo,hbo] at hp
    clear gj gk gl gm gn go gp
    gi_wp2_with (first
     | (refine wpListIn_load_run rfl _ _ rfl rn rfl ?_)
     | (refine wpListIn_store_run rfl _ _ _ rfl sm rfl rfl ?_)
     | (refine wpListIn_store_run rfl _ _ _ rfl sn rfl rfl ?_)
     | (refine wpListIn_store_run rfl _ _ _ rfl so rfl rfl ?_))
    refine ⟨trivial,fun h=>by simp [Fence.wide] at h,hp.mono ?_⟩
    clear hp rn sm sn so e0 e1 e2 e3 hWk hWl hb14 hb15 gq
    rintro e wp ⟨pa,pk,rfl,gr⟩
    obtain ⟨b17,hb17⟩ : ∃ b17,wp.heap.size=b17:=⟨_,rfl⟩
    obtain ⟨Wq,hWq⟩ : ∃ Wq,wp.alloc (.cells #[.int .i64 0,.int .i64 0,.slice none 0 0] 37)=Wq:=⟨_,rfl⟩
    have gs:=hold_new [.int .i64 0,.int .i64 0,.slice none 0 0] 37 gr
    rw [hb17,show wp.alloc (.cells ([.int .i64 0,.int .i64 0,.slice none 0 0] : List Value).toArray 37)=Wq from hWq] at gs
    obtain ⟨wq,sq,gt⟩:=st_all (t := 37) (cs':=[.int .i64 kd,.int .i64 got,.slice pa Lo.length pk]) gs rfl (by simp [Value.oneCell']) (by kernel_rfl)
    have h9c:∀ (r':List Ev.Asr) (w':World),Ev.Hold ⟨w,fun _=>False⟩ (Ev.blkA b9 RVc 56 :: r') w'→w'.cell? ⟨b9,0,none⟩=some (.int .i64 (c.n:Int))∧w'.cell? ⟨b9,1,none⟩=some (.int .i64 (c.q:Int))∧w'.cell? ⟨b9,2,none⟩=some (.int .i64 c.g)∧w'.cell? ⟨b9,3,none⟩=some (.int .i64 c.m)∧w'.cell? ⟨b9,4,none⟩=some (.int .i64 c.t)∧w'.cell? ⟨b9,5,none⟩=some (.int .i64 c.s)∧w'.cell? ⟨b9,6,none⟩=some (rv2)∧w'.cell? ⟨b9,7,none⟩=some (.int .u64 xs.m.ops)∧w'.cell? ⟨b9,8,none⟩=some (lv2)∧w'.cell? ⟨b9,9,none⟩=some (.int .i64 xs.pts):=by
     intro r' w' hh
     rw [← hVc] at hh
     have hb:=hold_blk hh
     exact ⟨cell_of hb 0 _ rfl,cell_of hb 1 _ rfl,cell_of hb 2 _ rfl,cell_of hb 3 _ rfl,cell_of hb 4 _ rfl,cell_of hb 5 _ rfl,cell_of hb 6 _ rfl,cell_of hb 7 _ rfl,cell_of hb 8 _ rfl,cell_of hb 9 _ rfl⟩
    have k0:=cell_of (hold_blk gt) 0 _ rfl
    have k1:=cell_of (hold_blk gt) 1 _ rfl
    have k2:=cell_of (hold_blk gt) 2 _ rfl
    have k3:=cell_of (hold_blk (hold_up [_,_,_,_,_] gt)) 0 _ rfl
    have k4:=cell_of (hold_blk (hold_up [_,_,_,_,_] gt)) 1 _ rfl
    have k5:=cell_of (hold_blk (hold_up [_,_,_,_,_] gt)) 2 _ rfl
    have hsm:=same_in (m - 1) rfl hol kd got (hold_up [_,_,_,_,_,_,_] (hold_up [_,_,_,_,_,_,_] (hold_up [_,_,_,_,_,_] (hold_up [_,_,_,_,_,_] (hold_up [_,_,_,_,_,_,_] (hold_up [_,_,_,_,_,_,_] (hold_up [_] (hold_up [_,_,_,_,_] gt))))))))
    gi_wp2_with (refine wpListIn_store_run rfl _ _ _ rfl sq rfl rfl ?_)
    refine ⟨trivial,fun h=>by simp [Fence.wide] at h,hsm.mono ?_⟩
    clear hsm k0 k1 k2 k3 k4 k5 sq gs gt gr hWq hb17
    rintro e wt ⟨rfl,gu⟩
    have gv:=hold_drop (r:=[_]) gu
    have hq8':c.q≤8:=by omega
    obtain ⟨e0,e1,e2,e3⟩:=hca _ _ (hold_up [_] gv)
    obtain ⟨k0,k1,k2,k3,k4,k5,k6,k7,k8,k9⟩:=h9c _ _ (hold_up [_,_,_] gv)
    have hi1:=is_in (m - 1) aP hIs hq8' hR2 (hold_perm ((List.perm_append_comm_assoc [_,_,_,_,_] (refL c xs rs2 lv2 rv2) []).cons _) gv)
    unfold rV at hi1
    gi_wp2
    refine ⟨trivial,fun h=>by simp [Fence.wide] at h,hi1.mono ?_⟩
    clear hi1 k0 k1 k2 k3 k4 k5 k6 k7 k8 k9 e0 e1 e2 e3
    rintro e wu ⟨rfl,gw⟩
    have gx:=(hold_perm ((List.perm_append_comm_assoc (refL c xs rs2 lv2 rv2) [_,_,_,_,_] []).cons _) gw)
    clear gw gv gu
    obtain ⟨e0,e1,e2,e3⟩:=hca _ _ (hold_up [_] gx)
    obtain ⟨k0,k1,k2,k3,k4,k5,k6,k7,k8,k9⟩:=h9c _ _ (hold_up [_,_,_] gx)
    have hi2:=is_in (m - 1) aP hIs hq8' hR2 (hold_perm ((List.perm_append_comm_assoc [_,_,_,_,_] (refL c xs rs2 lv2 rv2) []).cons _) gx)
    unfold rV at hi2
    gi_wp2
    refine ⟨trivial,fun h=>by simp [Fence.wide] at h,hi2.mono ?_⟩
    clear hi2 k0 k1 k2 k3 k4 k5 k6 k7 k8 k9 e0 e1 e2 e3
    rintro e wv ⟨rfl,gy⟩
    have gz:=(hold_perm ((List.perm_append_comm_assoc (refL c xs rs2 lv2 rv2) [_,_,_,_,_] []).cons _) gy)
    gi_wp2
    rw [← hVc] at gz
    refine ⟨⟨i+1,xs,rs2,lv2,rv2,rfl,by omega,⟨B2,by omega,hIs⟩,hR2,?_⟩,by simp [intOf]; omega⟩
    exact hold_drop (r:=[_,_,_]) (hold_up [_,_,_,_,_] (hold_up [_,_,_,_,_] (hold_up [_,_,_,_,_] (hold_up [_,_] (hold_up [_,_,_] (hold_up [_,_,_] gz))))))
   ·have hlI2:¬ (i:Int) < (N:Int):=by omega
    obtain ⟨RVa,hVa⟩ : ∃ RV,rV c rv x.m.ops lv x.pts=RV:=⟨_,rfl⟩
    have vla:RVa.length=10:=by rw [← hVa]; rfl
    have voa:∀ y ∈ RVa,y.oneCell'=true:=by rw [← hVa]; exact rV_ones (hold_drop (r:=[_,_,_]) hH) _ _
    have via:(Tryz.prog.info? 56).map (·.size)=some RVa.length:=by rw [vla]; kernel_rfl
    rw [hVa] at hH
    have hq8':c.q≤8:=by omega
    gi_wp2
    gi_loopw [19] (fun q wr=>∃ p:Int,q=.int .i64 p∧-1≤p∧p≤(c.n:Int)+1∧Ev.Hold ⟨w,fun _=>False⟩ (raceA b c x::Ev.blkA bc (confL c) 23 :: Ev.blkA b9 RVa 56 :: (refL c x rs lv rv++[])) wr) (fun q _=>((c.n:Int)+2 - intOf q).toNat)
    case atStart=>exact ⟨-1,rfl,by omega,by omega,hH⟩
    case round =>
     obtain ⟨p,rfl,hp1,hp2,hG⟩:=hrel
     have d0:wr.cell? ⟨bc,0,none⟩=some (.int .i64 (c.n:Int)):=cell_of (hold_blk (hold_up [_] hG)) 0 _ rfl
     by_cases hle:p≤(c.n:Int)
     ·have rt:=ld_all (hold_up [_,_] hG) Tryz.underlying56 rfl via
      have hi1:=is_in (m - 1) p hI hq8' hR (hold_perm ((List.perm_append_comm_assoc [_,_] (refL c x rs lv rv) []).cons _) hG)
      rw [hVa] at hi1
      clear hVa
      gi_wp2_with (refine wpListIn_load_run rfl _ _ rfl rt rfl ?_)
      refine ⟨trivial,fun h=>by simp [Fence.wide] at h,hi1.mono ?_⟩
      clear hi1 rt d0
      rintro e wu ⟨rfl,gw⟩
      gi_wp2
      exact ⟨⟨p+1,rfl,by omega,by omega,hold_perm ((List.perm_append_comm_assoc (refL c x rs lv rv) [_,_] []).cons _) gw⟩,by simp [intOf]; omega⟩
     ·have hle':¬ p≤(c.n:Int):=hle
      have hB9:=hG.below (fun _=>id)
      gi_wp2
      refine ⟨trivial,fun h=>by simp [Fence.wide] at h,(hWk _ _).mono ?_⟩
      rintro e w4 ⟨rfl,hb⟩
      gi_wp2
      exact bodyPost_ret (results_tmp rfl _ _ _) rfl ⟨rfl,hB9.trans (hb.mono hB9.size)⟩
end
end Go.Proofs.YtkmccgombmogmaaGreat
namespace Go.Proofs.YtkmccgombmogmaaGreat
open Go.RowKit
set_option linter.unusedVariables false
set_option linter.unusedSimpArgs false
set_option maxRecDepth 8000
def cW:Cfg:=⟨2,2,9,3,2,0,by kernel_rfl⟩
def wst (x:RaceS) (p:Nat) : RaceS×Option OutS:=match x.ow[p]? with
 | some o=>match o.mac with
  | some M=>raceStep cW x p o M
  | none=>(x,none)
 | none=>(x,none)
def wbg (x:RaceS) (p:Nat) (kd cv cg:Int) : RaceS:=match x.ow[p]? with
 | some o=>begRace cW x p o kd cv cg
 | none=>x
def wx1:RaceS:=wbg (newRace cW) 0 1 0 5
def wx2:RaceS:=(wst wx1 0).1
def wx3:RaceS:=(wst wx2 0).1
def wx4:RaceS:=(wst wx3 0).1
def wx5:RaceS:=wbg wx4 1 3 0 0
def wx6:RaceS:=(wst wx5 1).1
def wx7:RaceS:=(wst wx6 1).1
def wx8:RaceS:=wbg wx7 0 2 0 0
def wx9:RaceS:=(wst wx8 0).1
def wx10:RaceS:=(wst wx9 0).1
def wx11:RaceS:=(wst wx10 0).1
def wx12:RaceS:=(wst wx11 1).1
def wx13:RaceS:=(wst wx12 1).1
abbrev oZ3:List Value:=[.int .i64 0,.int .i64 0,.slice none 0 0]
section
variable {ctx:Ev.Ctx} {w:World} {r:List Ev.Asr} {b:RB} {x x2:RaceS} {p:Nat} {B:Int} {R:Option OutS}
theorem wst_ok (n:Nat) (hI:RaceI cW B x) (hB:B+8≤1073741824) (hm:((x.ow[p]?).bind (fun o=>o.mac)).isSome=true) (h2:(wst x p).1=x2) {kd g:Int} {d:Bool} (e1:OutS.k (wst x p).2=kd) (e2:OutS.g (wst x p).2=g) (e3:(wst x p).2.isSome=d) (h:Ev.Hold ctx (raceA b cW x::r) w) :
  RaceI cW (B+8) x2∧CallsIn Fence.wide n Tryz.prog 13 #[.pointer (some ⟨b.br,0,none⟩),.int .i64 (p:Int)] w fun e w'=>∃ a l k,e=.returned (.tuple #[.agg #[.int .i64 kd,.int .i64 g,.slice a l k],.bool d])∧Ev.Hold ctx (raceA b cW x2::r) w':=by
 subst h2 e1 e2 e3
 unfold wst
 cases ho:x.ow[p]? with
 | none=>rw [ho] at hm; cases hm
 | some o =>
  dsimp only
  cases hM:o.mac with
  | none=>rw [ho] at hm; simp [hM] at hm
  | some M =>
   dsimp only
   refine ⟨(race_step hI hB ho hM).1,(astep n hI hB ho hM h).mono ?_⟩
   rintro e w' ⟨a,k,rfl,hh⟩
   exact ⟨a,_,k,rfl,hold_drop (r:=[_]) hh⟩
theorem wbg_ok (n:Nat) (hI:RaceI cW B x) {kd cv cg:Int} (hg:Gn cg) (hm:(x.ow[p]?).map (fun o=>o.mac.isNone && (newMac cW p kd cv cg).isSome)=some true) (h2:wbg x p kd cv cg=x2) (h:Ev.Hold ctx (raceA b cW x::r) w) :
  RaceI cW B x2∧CallsIn Fence.wide n Tryz.prog 11 #[.pointer (some ⟨b.br,0,none⟩),.int .i64 (p:Int),.agg #[.int .i64 kd,.int .i64 cv,.int .i64 cg]] w fun e w'=>e=.returned (.int .i64 0)∧Ev.Hold ctx (raceA b cW x2::r) w':=by
 subst h2
 unfold wbg
 cases ho:x.ow[p]? with
 | none=>rw [ho] at hm; cases hm
 | some o =>
  have hb:=abegin n hI.len ho kd cv cg h
  dsimp only
  rw [ho] at hm
  cases hM:o.mac with
  | some M=>simp [hM] at hm
  | none =>
   cases hN:newMac cW p kd cv cg with
   | none=>simp [hN] at hm
   | some M =>
    have e0:begErr cW p o kd cv cg=0:=by unfold begErr; rw [hN,hM]; rfl
    have e1:begRace cW x p o kd cv cg=x.own p (o.beg kd cv cg M):=by unfold begRace; rw [hN,hM]; rfl
    rw [e0,e1] at hb
    rw [e1]
    exact ⟨(race_begin hI ho hM (.inl hg) hN).1,hb⟩
set_option maxHeartbeats 4000000 in
theorem works_any (w:World) : Calls Tryz.prog 8 #[] w fun e w'=>e=.returned (.bool true)∧Below w.heap.size w w':=by
 refine wof fun m=>?_
 have h0:Ev.Hold ⟨w,fun _=>False⟩ [] w:=Ev.Hold.start (Ev.now_nil w)
 have I0:=(race_new cW (.inl rfl)).1
 refine wen Tryz.func8 116 ?_
 gi_wp2
 refine wcl (anew (m - 1) cW h0) ?_
 rintro e w1 ⟨b,rfl,h1⟩
 obtain ⟨I1,c1⟩:=wbg_ok (m - 1) (p:=0) (kd:=1) (cv:=0) (cg:=5) I0 (by decide) (by kernel_rfl) (show _=wx1 from rfl) h1
 gi_wp2
 refine wcl c1 ?_
 rintro e v1 ⟨rfl,g1⟩
 obtain ⟨I2,c2⟩:=wst_ok (m - 1) (p:=0) (kd:=0) (g:=0) (d:=false) I1 (by decide) (by kernel_rfl) (show _=wx2 from rfl) (by kernel_rfl) (by kernel_rfl) (by kernel_rfl) g1
 gi_wp2
 refine wcl c2 ?_
 rintro e u2 ⟨a2,l2,k2,rfl,f2⟩
 obtain ⟨b2,W2,hb2,hW2,q2⟩:=newN oZ3 37 f2
 obtain ⟨v2,s2,t2⟩:=st_all (t := 37) (cs':=[.int .i64 0,.int .i64 0,.slice a2 l2 k2]) q2 rfl (by simp [Value.oneCell']) (by kernel_rfl)
 have g2:=hsel [_,_] t2 [1]
 obtain ⟨I3,c3⟩:=wst_ok (m - 1) (p:=0) (kd:=0) (g:=0) (d:=false) I2 (by decide) (by kernel_rfl) (show _=wx3 from rfl) (by kernel_rfl) (by kernel_rfl) (by kernel_rfl) g2
 gi_wp2_with (refine wpListIn_store_run rfl _ _ _ rfl s2 rfl rfl ?_)
 refine wcl c3 ?_
 rintro e u3 ⟨a3,l3,k3,rfl,f3⟩
 obtain ⟨b3,W3,hb3,hW3,q3⟩:=newN oZ3 37 f3
 obtain ⟨v3,s3,t3⟩:=st_all (t := 37) (cs':=[.int .i64 0,.int .i64 0,.slice a3 l3 k3]) q3 rfl (by simp [Value.oneCell']) (by kernel_rfl)
 have g3:=hsel [_,_] t3 [1]
 obtain ⟨I4,c4⟩:=wst_ok (m - 1) (p:=0) (kd:=1) (g:=(-1)) (d:=true) I3 (by decide) (by kernel_rfl) (show _=wx4 from rfl) (by kernel_rfl) (by kernel_rfl) (by kernel_rfl) g3
 gi_wp2_with (refine wpListIn_store_run rfl _ _ _ rfl s3 rfl rfl ?_)
 refine wcl c4 ?_
 rintro e u4 ⟨a4,l4,k4,rfl,f4⟩
 obtain ⟨b4,W4,hb4,hW4,q4⟩:=newN oZ3 37 f4
 obtain ⟨v4,s4,t4⟩:=st_all (t := 37) (cs':=[.int .i64 1,.int .i64 (-1),.slice a4 l4 k4]) q4 rfl (by simp [Value.oneCell']) (by kernel_rfl)
 have g4:=hsel [_,_] t4 [1]
 have er:ringL cW wx4.m 0=[5]:=by kernel_rfl
 have ha:=aring (m - 1) (p:=0) (b:=b) (x:=wx4) (by decide) I4.R.mem g4
 rw [er] at ha
 gi_wp2_with (refine wpListIn_store_run rfl _ _ _ rfl s4 rfl rfl ?_)
 refine wcl ha ?_
 rintro e y1 ⟨a0,k0,rfl,j1⟩
 have j2:=hsel [_,_,_] (blk_isA (hold_new [.int .i64 5] 3 j1)) [1,0,2]
 gi_wp2
 refine wcl (asame (m - 1) (by decide) j2) ?_
 rintro e y2 ⟨rfl,j3⟩
 have g4:=hsel [_,_,_] j3 [2]
 obtain ⟨I5,c5⟩:=wbg_ok (m - 1) (p:=1) (kd:=3) (cv:=0) (cg:=0) I4 (by decide) (by kernel_rfl) (show _=wx5 from rfl) g4
 gi_wp2
 refine wcl c5 ?_
 rintro e v5 ⟨rfl,g5⟩
 obtain ⟨I6,c6⟩:=wst_ok (m - 1) (p:=1) (kd:=0) (g:=0) (d:=false) I5 (by decide) (by kernel_rfl) (show _=wx6 from rfl) (by kernel_rfl) (by kernel_rfl) (by kernel_rfl) g5
 gi_wp2
 refine wcl c6 ?_
 rintro e u6 ⟨a6,l6,k6,rfl,f6⟩
 obtain ⟨I7,c7⟩:=wst_ok (m - 1) (p:=1) (kd:=0) (g:=0) (d:=false) I6 (by decide) (by kernel_rfl) (show _=wx7 from rfl) (by kernel_rfl) (by kernel_rfl) (by kernel_rfl) f6
 gi_wp2
 refine wcl c7 ?_
 rintro e u7 ⟨a7,l7,k7,rfl,f7⟩
 obtain ⟨I8,c8⟩:=wbg_ok (m - 1) (p:=0) (kd:=2) (cv:=0) (cg:=0) I7 (by decide) (by kernel_rfl) (show _=wx8 from rfl) f7
 gi_wp2
 refine wcl c8 ?_
 rintro e v8 ⟨rfl,g8⟩
 obtain ⟨I9,c9⟩:=wst_ok (m - 1) (p:=0) (kd:=0) (g:=0) (d:=false) I8 (by decide) (by kernel_rfl) (show _=wx9 from rfl) (by kernel_rfl) (by kernel_rfl) (by kernel_rfl) g8
 gi_wp2
 refine wcl c9 ?_
 rintro e u9 ⟨a9,l9,k9,rfl,f9⟩
 obtain ⟨I10,c10⟩:=wst_ok (m - 1) (p:=0) (kd:=0) (g:=0) (d:=false) I9 (by decide) (by kernel_rfl) (show _=wx10 from rfl) (by kernel_rfl) (by kernel_rfl) (by kernel_rfl) f9
 gi_wp2
 refine wcl c10 ?_
 rintro e u10 ⟨a10,l10,k10,rfl,f10⟩
 obtain ⟨I11,c11⟩:=wst_ok (m - 1) (p:=0) (kd:=2) (g:=5) (d:=true) I10 (by decide) (by kernel_rfl) (show _=wx11 from rfl) (by kernel_rfl) (by kernel_rfl) (by kernel_rfl) f10
 gi_wp2
 refine wcl c11 ?_
 rintro e u11 ⟨a11,l11,k11,rfl,f11⟩
 obtain ⟨b11,W11,hb11,hW11,q11⟩:=newN oZ3 37 f11
 obtain ⟨v11,s11,t11⟩:=st_all (t := 37) (cs':=[.int .i64 2,.int .i64 5,.slice a11 l11 k11]) q11 rfl (by simp [Value.oneCell']) (by kernel_rfl)
 have g11:=hold_up [_] t11
 obtain ⟨I12,c12⟩:=wst_ok (m - 1) (p:=1) (kd:=0) (g:=0) (d:=false) I11 (by decide) (by kernel_rfl) (show _=wx12 from rfl) (by kernel_rfl) (by kernel_rfl) (by kernel_rfl) g11
 gi_wp2_with (refine wpListIn_store_run rfl _ _ _ rfl s11 rfl rfl ?_)
 refine wcl c12 ?_
 rintro e u12 ⟨a12,l12,k12,rfl,f12⟩
 obtain ⟨b12,W12,hb12,hW12,q12⟩:=newN oZ3 37 f12
 obtain ⟨v12,s12,t12⟩:=st_all (t := 37) (cs':=[.int .i64 0,.int .i64 0,.slice a12 l12 k12]) q12 rfl (by simp [Value.oneCell']) (by kernel_rfl)
 have g12:=hsel [_,_,_] t12 [1,2]
 obtain ⟨I13,c13⟩:=wst_ok (m - 1) (p:=1) (kd:=3) (g:=(-1)) (d:=true) I12 (by decide) (by kernel_rfl) (show _=wx13 from rfl) (by kernel_rfl) (by kernel_rfl) (by kernel_rfl) g12
 gi_wp2_with (refine wpListIn_store_run rfl _ _ _ rfl s12 rfl rfl ?_)
 refine wcl c13 ?_
 rintro e u13 ⟨a13,l13,k13,rfl,f13⟩
 obtain ⟨b13,W13,hb13,hW13,q13⟩:=newN oZ3 37 f13
 obtain ⟨v13,s13,t13⟩:=st_all (t := 37) (cs':=[.int .i64 3,.int .i64 (-1),.slice a13 l13 k13]) q13 rfl (by simp [Value.oneCell']) (by kernel_rfl)
 have z1:=blkc (hold_up [_,_] t13) 1 _
 have z2:=blkc t13 1 _
 gi_wp2_with (refine wpListIn_store_run rfl _ _ _ rfl s13 rfl rfl ?_)
 refine wcl (afits (m - 1) I13.ok (hold_up [_] t13)) ?_
 rintro e y3 ⟨rfl,rfl⟩
 gi_wp2
 exact bodyPost_ret (results_tmp rfl _ _ _) rfl ⟨rfl,t13.below (fun _=>id)⟩
end
end Go.Proofs.YtkmccgombmogmaaGreat
namespace Go.Proofs.YtkmccgombmogmaaGreat
open Go.RowKit
set_option linter.unusedVariables false
set_option linter.unusedSimpArgs false
set_option maxRecDepth 8000
section
variable {c:Cfg} {x:RaceS} {B:Int} {k n:Nat}
def upR (c:Cfg) (x:RaceS) (k:Nat) : List Int:=(List.range k).flatMap (fun q=>rl c x.m q++handsAt x q)
attribute [irreducible] upR
variable {ctx:Ev.Ctx} {w:World} {r:List Ev.Asr} {b:RB} {p:Nat}
end
end Go.Proofs.YtkmccgombmogmaaGreat
namespace Go.Proofs.YtkmccgombmogmaaGreat
open Go.ChangeShapes Go.WideShapes Go.ChangeAt Go.RowKit Go.Deep
set_option linter.unusedVariables false
section
variable {H:Type} {enc:TypeId×Value→H} {P:Program}
theorem trodAll_below (hl:laidOutB P=true) {W W':World} (hb:Below W.heap.size W W') : ∀ (ts:List TypeId) (vs:List Value) (ds:List (DataW H)) (ps:List MemPlace),
  DataW.TrodAll enc P W 0 (fun _=>true) true ts vs ds ps→(∀ t ∈ ts,P.readableRec t=true∧t < P.types.size)→(∀ x ∈ ps,x.block < W.heap.size) →
  DataW.TrodAll enc P W' 0 (fun b=>decide (b < W.heap.size)) true ts vs ds ps:=by
 intro ts
 induction ts with
 | nil =>
  intro vs ds ps h _ _
  obtain ⟨rfl,rfl,rfl⟩:=trodAll_nil h
  exact trodAll_mk0
 | cons t ts ih =>
  intro vs ds ps h hr hlt
  obtain ⟨v,vs',d,ds',p,q,rfl,rfl,rfl,h1,h2⟩:=trodAll_cons h
  exact trodAll_cons_mk ((hb.trod hl (hr t (List.mem_cons_self ..)).1 (hr t (List.mem_cons_self ..)).2 h1 (fun x hx=>hlt x (List.mem_append_left _ hx))))
   (ih vs' ds' q h2 (fun t' ht'=>hr t' (List.mem_cons_of_mem _ ht')) (fun x hx=>hlt x (List.mem_append_right _ hx)))
theorem law_post {f:Func} {s:ChangeSpec} {W W':World} {args:Array Value} {ds gs:List (DataW H)} {before:List MemPlace} {tb:TypeId} (hl:laidOutB P=true)
  (hW:DataW.Whole enc P f.params.toList s.vars false W args.toList ds gs before) (hvars:s.vars=[]) (hres:f.resultTypes = #[tb]) (hbool:P.underlying tb=some .bool)
  (hfn:s.fn H ds = { results:=[.lit (.bool true)],args:=ds }) (hread:∀ t ∈ f.params.toList,P.readableRec t=true∧t < P.types.size) (hb:Below W.heap.size W W') :
  s.post enc P f false true false false W args (.bool true) W':=by
 have hW0:=hW
 obtain ⟨p,q,hA,hV,hpq,hz,hn⟩:=hW
 rw [hvars] at hV
 obtain ⟨rfl,rfl⟩:=trodVars_none hV
 have hlt:∀ x ∈ before,x.block < W.heap.size:=fun x hx=>hW0.lt x hx
 have hpl:before=p:=by rw [hpq,List.append_nil]
 refine ⟨ds,[],before,[],p,[],hW0,?_,?_,?_,?_,fun h=>by cases h⟩
 ·rw [List.append_nil,hfn,hres]
  exact trodAll_mk1 (shut_bool hbool true)
 ·rw [List.append_nil,hfn]
  exact trodAll_below hl hb _ _ _ _ hA hread (fun x hx=>hlt x (by rw [hpl]; exact hx))
 ·rw [hvars,List.append_nil,hfn]
  rfl
 ·exact World.keptBut_mono (fun x hx=>⟨hx,.inr (.inl (by rw [hpl] at hx; exact hx))⟩) (hb.frame (· ∈ before))
theorem open_cells {W:World} {base b0:Nat} {spare:Nat→Bool} {held:Bool} {r:Reach} {t:TypeId} {fs:Array Field} {v:Value} {d:DataW H} {p:List MemPlace} (hs:P.underlying t=some (.struct fs)) (hone:oneCellFields P fs=true) (hC:P.cellsOf t=fs.size)
  (hv:Value.okWide P W r b0 t v) (h:DataW.Trod enc P W base spare held t v d p) :
  ∃ cs:Array Value,v=.agg cs∧cs.size=fs.size∧∀ (j:Nat) (f:Field),fs[j]? = some f→∃ n x y,cs[j]? = some x∧DataW.trod enc P W base spare held n f.type [x]=some y:=by
 obtain ⟨cs,rfl,hsz⟩:=okWide_struct hs hv
 obtain ⟨fuel,hf⟩:=h
 obtain ⟨ys,n,hn,hy,hlen,hyl,hfs⟩:=DataW.trod_struct hs hf
 rw [hC] at hsz
 refine ⟨cs,rfl,hsz,fun j f hj=>?_⟩
 obtain ⟨ho,hk⟩:=hone_of hone j f hj
 have hjl:j < cs.size:=by rw [hsz]; exact (Array.getElem?_eq_some_iff.1 hj).1
 have h1:=hfs j f hj
 have hjy:j < ys.length:=by rw [hyl]; exact (Array.getElem?_eq_some_iff.1 hj).1
 have hys:ys[j]? = some (ys[j]'hjy):=List.getElem?_eq_getElem hjy
 have hc:(((Value.agg cs).cells.toList.drop f.offset).take (P.cellsOf f.type))=[cs[j]]:=by
  rw [ho,hk]
  show ((cs.toList.drop j).take 1)=_
  rw [List.drop_eq_getElem_cons (by simpa using hjl)]
  rfl
 refine ⟨n,cs[j],ys[j]'hjy,Array.getElem?_eq_getElem hjl,?_⟩
 rw [← hc,← hys]
 exact h1
end
end Go.Proofs.YtkmccgombmogmaaGreat
namespace Go.Proofs.YtkmccgombmogmaaGreat
open Go.ChangeShapes Go.WideShapes Go.ChangeAt Go.RowKit Go.Deep
set_option linter.unusedVariables false
end Go.Proofs.YtkmccgombmogmaaGreat
namespace Go.Proofs.YtkmccgombmogmaaGreat
open Go.ChangeShapes Go.WideShapes Go.ChangeAt Go.RowKit Go.Deep
open Go.Ev (iz iN)
set_option linter.unusedVariables false
set_option linter.unusedSimpArgs false
set_option maxRecDepth 100000
theorem own:ownKnob Tryz.prog.godebug=none:=by kernel_rfl
theorem laidOut:laidOutB Tryz.prog=true:=by kernel_rfl
structure ActS where
 a:Int
 k:Int
 v:Int
 g:Int
def ActS.cells (s:ActS) : List Value:=[iz s.a,iz s.k,iz s.v,iz s.g]
theorem act_drop {ms:List ActS} {j:Nat} {m:ActS} (h:ms[j]? = some m) : ∃ tl,(ms.flatMap ActS.cells).drop (j * 4)=m.cells++tl:=by
 induction ms generalizing j with
 | nil=>simp at h
 | cons q ms ih =>
  rw [List.flatMap_cons]
  match j with
  | 0 =>
   obtain rfl:q=m:=by simpa using h
   exact ⟨ms.flatMap ActS.cells,by simp⟩
  | j+1 =>
   obtain ⟨tl,e⟩:=ih (j:=j) (by simpa using h)
   refine ⟨tl,?_⟩
   rw [show (j+1) * 4=q.cells.length+j * 4 by simp [ActS.cells]; omega,← List.drop_drop,List.drop_left,e]
theorem act_get (ps:List ActS) {j i:Nat} {k:ActS} (h:ps[j]? = some k) (hi:i < 4) : (ps.flatMap ActS.cells)[j * 4+i]? = k.cells[i]?:=by
 obtain ⟨tl,e⟩:=act_drop h
 rw [← List.getElem?_drop,e,List.getElem?_append_left (by simp [ActS.cells]; omega)]
theorem acts_len (ss:List ActS) : (ss.flatMap ActS.cells).length=ss.length * 4:=by
 induction ss with
 | nil=>rfl
 | cons s ss ih=>rw [List.flatMap_cons,List.length_append,ih,List.length_cons]; simp [ActS.cells]; omega
theorem acts_of {n:Nat} {Q:Nat→ActS→Prop} (h:∀ i,i < n→∃ s,Q i s) : ∃ ss:List ActS,ss.length=n∧∀ (i:Nat) s,ss[i]? = some s→Q i s:=by
 induction n with
 | zero=>exact ⟨[],rfl,fun i s h=>by cases h⟩
 | succ n ih =>
  obtain ⟨ss,h1,h2⟩:=ih (fun i hi=>h i (by omega))
  obtain ⟨s,hs⟩:=h n (by omega)
  refine ⟨ss++[s],by simp [h1],fun i x hx=>?_⟩
  rcases Nat.lt_or_ge i ss.length with hi | hi
  ·rw [List.getElem?_append_left hi] at hx
   exact h2 i x hx
  ·rw [List.getElem?_append_right hi] at hx
   cases hk:i - ss.length with
   | zero =>
    rw [hk] at hx
    cases hx
    obtain rfl:i=n:=by omega
    exact hs
   | succ m=>rw [hk] at hx; cases hx
section
variable {H:Type} {enc:TypeId×Value→H} {w:World}
theorem cell_lt {a:Addr} {v:Value} (h:w.cell? a=some v) : a.block < w.heap.size:=by
 unfold World.cell? at h
 cases hb:w.heap[a.block]? with
 | none=>rw [hb] at h; cases h
 | some o=>exact (Array.getElem?_eq_some_iff.1 hb).1
theorem add_none {b off n:Nat} : (⟨b,off,none⟩ : Addr).add n=⟨b,off+n,none⟩:=Ev.addMk b off n
theorem open_config {base b0:Nat} {spare:Nat→Bool} {held:Bool} {r:Reach} {v:Value} {d:DataW H} {p:List MemPlace}
  (hv:Value.okWide Tryz.prog w r b0 23 v) (h:DataW.Trod enc Tryz.prog w base spare held 23 v d p) : ∃ c:Cf,v=c.v:=by
 obtain ⟨cs,rfl,hsz,hf⟩:=open_cells Tryz.underlying23 (by kernel_rfl) (by kernel_rfl) hv h
 obtain ⟨l⟩:=cs
 have hl:l.length=6:=hsz
 match l,hl with
 | [c0,c1,c2,c3,c4,c5],_ =>
  obtain ⟨n0,y0,z0,hy0,hz0⟩:=hf 0 _ rfl
  cases hy0
  obtain ⟨m0,hm0,_,_⟩:=DataW.trod_int Tryz.underlying3 hz0
  cases hm0
  obtain ⟨n1,y1,z1,hy1,hz1⟩:=hf 1 _ rfl
  cases hy1
  obtain ⟨m1,hm1,_,_⟩:=DataW.trod_int Tryz.underlying3 hz1
  cases hm1
  obtain ⟨n2,y2,z2,hy2,hz2⟩:=hf 2 _ rfl
  cases hy2
  obtain ⟨m2,hm2,_,_⟩:=DataW.trod_int Tryz.underlying3 hz2
  cases hm2
  obtain ⟨n3,y3,z3,hy3,hz3⟩:=hf 3 _ rfl
  cases hy3
  obtain ⟨m3,hm3,_,_⟩:=DataW.trod_int Tryz.underlying3 hz3
  cases hm3
  obtain ⟨n4,y4,z4,hy4,hz4⟩:=hf 4 _ rfl
  cases hy4
  obtain ⟨m4,hm4,_,_⟩:=DataW.trod_int Tryz.underlying3 hz4
  cases hm4
  obtain ⟨n5,y5,z5,hy5,hz5⟩:=hf 5 _ rfl
  cases hy5
  obtain ⟨m5,hm5,_,_⟩:=DataW.trod_int Tryz.underlying3 hz5
  cases hm5
  exact ⟨⟨m0,m1,m2,m3,m4,m5⟩,rfl⟩
end
end Go.Proofs.YtkmccgombmogmaaGreat
namespace Go.Proofs.YtkmccgombmogmaaGreat
open Go.ChangeShapes Go.WideShapes Go.ChangeAt Go.RowKit Go.Deep
open Go.Ev (iz iN)
set_option linter.unusedVariables false
set_option linter.unusedSimpArgs false
set_option maxRecDepth 100000
def ActS.Ok (s:ActS) : Prop:=s.a≤9223372036854775807∧s.k≤9223372036854775807∧s.v≤9223372036854775807∧s.g≤9223372036854775807
theorem i64_le {n:Int} (h:(Lit.int .i64 n).wf=true) : n≤9223372036854775807:=by
 unfold Lit.wf at h
 exact of_decide_eq_true (Bool.and_eq_true_iff.1 h).2
theorem acts_intP (ss:List ActS) (hs:∀ s ∈ ss,s.Ok) : ∀ j,j < ss.length * 4→∃ i:Int,i≤9223372036854775807∧(ss.flatMap ActS.cells)[j]? = some (.int .i64 i):=by
 intro j hj
 have hq:j / 4 < ss.length:=by omega
 have e3:=act_get ss (j:=j / 4) (i:=j % 4) (List.getElem?_eq_getElem hq) (by omega)
 rw [show j / 4 * 4+j % 4=j by omega] at e3
 rw [e3]
 obtain ⟨h0,h1,h2,h3⟩:=hs _ (List.getElem_mem hq)
 have:j % 4=0∨j % 4=1∨j % 4=2∨j % 4=3:=by omega
 rcases this with h | h | h | h <;> rw [h]
 ·exact ⟨_,h0,rfl⟩
 ·exact ⟨_,h1,rfl⟩
 ·exact ⟨_,h2,rfl⟩
 ·exact ⟨_,h3,rfl⟩
section
variable {H:Type} {enc:TypeId×Value→H} {w:World}
theorem open_callP {fuel:Nat} {cs:List Value} {x:DataW H×List MemPlace} (h:DataW.trod enc Tryz.prog w 0 (fun _=>true) true fuel 26 cs=some x) : ∃ k v g:Int,cs=[iz k,iz v,iz g]∧k≤9223372036854775807∧v≤9223372036854775807∧g≤9223372036854775807:=by
 obtain ⟨ys,n,_,_,hlen,hyl,hf⟩:=DataW.trod_struct Tryz.underlying26 h
 have hC:Tryz.prog.cellsOf 26 = 3:=by kernel_rfl
 rw [hC] at hlen
 match cs,hlen with
 | [c0,c1,c2],_ =>
  have k0:=hf 0 _ rfl
  have k1:=hf 1 _ rfl
  have k2:=hf 2 _ rfl
  have one:∀ t:TypeId,Tryz.prog.cellsOf t=1→∀ (c:Value) (l:List Value),(c::l).take (Tryz.prog.cellsOf t)=[c]:=fun t ht c l=>by rw [ht]; rfl
  have i1:Tryz.prog.cellsOf 3 = 1:=by kernel_rfl
  have g:∀ i,i < 3→∃ y,ys[i]? = some y:=fun i hi=>⟨_,List.getElem?_eq_getElem (by rw [hyl]; exact hi)⟩
  obtain ⟨y0,e0⟩:=g 0 (by omega)
  obtain ⟨y1,e1⟩:=g 1 (by omega)
  obtain ⟨y2,e2⟩:=g 2 (by omega)
  replace k0:DataW.trod enc Tryz.prog w 0 (fun _=>true) true n 3 [c0]=some y0:=by rw [← e0,← k0,← one _ i1 c0 [c1,c2]]; rfl
  replace k1:DataW.trod enc Tryz.prog w 0 (fun _=>true) true n 3 [c1]=some y1:=by rw [← e1,← k1,← one _ i1 c1 [c2]]; rfl
  replace k2:DataW.trod enc Tryz.prog w 0 (fun _=>true) true n 3 [c2]=some y2:=by rw [← e2,← k2,← one _ i1 c2 []]; rfl
  obtain ⟨m0,q0,_,w0⟩:=DataW.trod_int Tryz.underlying3 k0
  obtain ⟨m1,q1,_,w1⟩:=DataW.trod_int Tryz.underlying3 k1
  obtain ⟨m2,q2,_,w2⟩:=DataW.trod_int Tryz.underlying3 k2
  simp only [List.cons.injEq,and_true] at q0 q1 q2
  subst q0 q1 q2
  exact ⟨m0,m1,m2,rfl,i64_le w0,i64_le w1,i64_le w2⟩
theorem open_actP {fuel:Nat} {cs:List Value} {x:DataW H×List MemPlace} (h:DataW.trod enc Tryz.prog w 0 (fun _=>true) true fuel 45 cs=some x) : ∃ s:ActS,cs=s.cells∧s.Ok:=by
 obtain ⟨ys,n,_,_,hlen,hyl,hf⟩:=DataW.trod_struct Tryz.underlying45 h
 have hC:Tryz.prog.cellsOf 45 = 4:=by kernel_rfl
 rw [hC] at hlen
 match cs,hlen with
 | [c0,c1,c2,c3],_ =>
  have k0:=hf 0 _ rfl
  have k1:=hf 1 _ rfl
  have i1:Tryz.prog.cellsOf 3 = 1:=by kernel_rfl
  have i3:Tryz.prog.cellsOf 26 = 3:=by kernel_rfl
  have g:∀ i,i < 2→∃ y,ys[i]? = some y:=fun i hi=>⟨_,List.getElem?_eq_getElem (by rw [hyl]; exact hi)⟩
  obtain ⟨y0,e0⟩:=g 0 (by omega)
  obtain ⟨y1,e1⟩:=g 1 (by omega)
  have t1:[c0,c1,c2,c3].take (Tryz.prog.cellsOf 3)=[c0]:=by rw [i1]; rfl
  have t3:[c1,c2,c3].take (Tryz.prog.cellsOf 26)=[c1,c2,c3]:=by rw [i3]; rfl
  replace k0:DataW.trod enc Tryz.prog w 0 (fun _=>true) true n 3 [c0]=some y0:=by rw [← e0,← k0,← t1]; rfl
  replace k1:DataW.trod enc Tryz.prog w 0 (fun _=>true) true n 26 [c1,c2,c3]=some y1:=by rw [← e1,← k1,← t3]; rfl
  obtain ⟨m0,q0,_,w0⟩:=DataW.trod_int Tryz.underlying3 k0
  simp only [List.cons.injEq,and_true] at q0
  subst q0
  obtain ⟨a1,a2,a3,q,w1,w2,w3⟩:=open_callP k1
  rw [q]
  exact ⟨⟨m0,a1,a2,a3⟩,rfl,i64_le w0,w1,w2,w3⟩
theorem open_actsP {v:Value} {d:DataW H} {ps:List MemPlace} {r:Reach} {b0:Nat} (hv:Value.okWide Tryz.prog w r b0 43 v) (h:DataW.Trod enc Tryz.prog w 0 (fun _=>true) true 43 v d ps) :
  ∃ (N:Nat) (L:List Value),Ev.SlR 4 v N L w∧∀ j,j < N * 4→∃ i:Int,i≤9223372036854775807∧L[j]? = some (.int .i64 i):=by
 suffices ∃ ss:List ActS,Ev.SlR 4 v ss.length (ss.flatMap ActS.cells) w∧∀ s ∈ ss,s.Ok by
  obtain ⟨ss,hs,ho⟩:=this
  exact ⟨ss.length,_,hs,acts_intP ss ho⟩
 have hC:Tryz.prog.cellsOf 45 = 4:=by kernel_rfl
 obtain ⟨a0,n0,c0,rfl⟩:=okWide_slice Tryz.underlying43 hv
 obtain ⟨fuel,hf⟩:=h
 rcases open_slice Tryz.underlying43 hf with ⟨hcs,_⟩ | ⟨a,len,cap,m,n,D,Pl,hcs,_,hl,_,hm,_,hi⟩
 ·simp [Value.cells] at hcs
  obtain ⟨rfl,rfl,rfl⟩:=hcs
  exact ⟨[],⟨rfl,.inl ⟨rfl,_,_,rfl⟩⟩,fun _ h=>by cases h⟩
 ·simp [Value.cells] at hcs
  obtain ⟨rfl,rfl,rfl⟩:=hcs
  simp only [if_true] at hm
  subst hm
  rw [hC] at hi
  obtain ⟨ss,h1,h2⟩:=acts_of (n:=n0) (Q:=fun i s=>w.cells? 0 (a.add (i * 4)) 4=some s.cells∧s.Ok) (fun i hlt=>by
   obtain ⟨cs',hc,ht⟩:=hi i (by omega)
   obtain ⟨s,rfl,ho⟩:=open_actP ht
   exact ⟨s,hc,ho⟩)
  refine ⟨ss,?_,fun s hs=>by
   obtain ⟨i,hi⟩:=List.mem_iff_getElem?.1 hs
   exact (h2 i s hi).2⟩
  ·refine ⟨acts_len ss,?_⟩
   rw [h1]
   rcases Nat.eq_zero_or_pos n0 with h0 | h0
   ·subst h0
    exact .inl ⟨rfl,_,_,rfl⟩
   ·have hat:∀ i s,ss[i]? = some s→∀ j,j < 4→w.cell? ((a.add (i * 4)).add j)=s.cells[j]?:=fun i s hs j hj=>(World.cells?_some (h2 i s hs).1).2.2 j hj
    have e0:=hat 0 ss[0] (List.getElem?_eq_getElem (by omega)) 0 (by omega)
    have hs:a.spot=none:=by
     have:=World.cell?_spot (e0.trans (show _=some (iz ss[0].a) from rfl))
     simpa [Addr.add] using this
    have hb:=cell_lt (e0.trans (show _=some (iz ss[0].a) from rfl))
    obtain ⟨b,off,spot⟩:=a
    simp only at hs
    subst hs
    rw [add_none,add_none] at hb
    refine .inr ⟨b,off,_,rfl,⟨hb,hl⟩,fun j hj=>?_⟩
    have hq:j / 4 < ss.length:=by omega
    have e1:=hat (j / 4) ss[j / 4] (List.getElem?_eq_getElem hq) (j % 4) (by omega)
    rw [add_none,add_none] at e1
    rw [show off+j=off+j / 4 * 4+j % 4 by omega,e1]
    have e3:=act_get ss (j:=j / 4) (i:=j % 4) (List.getElem?_eq_getElem hq) (by omega)
    rw [show j / 4 * 4+j % 4=j by omega] at e3
    exact e3.symm
end
theorem racePlays_contract (H:Type) (enc:TypeId×Value→H) (W:World) (base:Nat) (args:Array Value) (ds gs:List (DataW H)) (before:List MemPlace)
  (hval:∀ (j:Nat) t v,Tryz.f5.params[j]? = some t→args[j]? = some v→Value.okWide Tryz.prog W .any base t v)
  (hW:DataW.Whole enc Tryz.prog Tryz.f5.params.toList Rows.racePlaysSpec.vars false W args.toList ds gs before) :
  Calls Tryz.prog 5 args W fun e W'=>∃ v,e=.returned v∧Rows.racePlaysSpec.post enc Tryz.prog Tryz.f5 false true false false W args v W':=by
 have hW':=hW
 obtain ⟨p,q,hA0,hV,rfl,hfz,hnd⟩:=hW
 have hA:DataW.TrodAll enc Tryz.prog W 0 (fun _=>true) true Tryz.f5.params.toList args.toList ds p:=hA0
 rw [Tryz.params5] at hA hval
 obtain ⟨v0,vs0,d0,ds0,p0,q0,hargs0,rfl,rfl,h0,r0⟩:=trodAll_cons hA
 obtain ⟨v1,vs1,d1,ds1,p1,q1,rfl,rfl,rfl,h1,r1⟩:=trodAll_cons r0
 obtain ⟨rfl,rfl,rfl⟩:=trodAll_nil r1
 obtain rfl:args = #[v0,v1]:=by cases args; simp_all
 obtain ⟨c0,rfl⟩:=open_config (hval 0 _ v0 rfl rfl) h0
 obtain ⟨n,L,hl,hL⟩:=open_actsP (hval 1 _ v1 rfl rfl) h1
 obtain ⟨a0,k0,rfl⟩:=slr_val hl
 refine (callsIn_wide.1 (plays_in 0 c0 hl hL (fun m w=>callsIn_wide.2 (works_any w)))).mono fun x W' ⟨he,hb⟩=>?_
 subst he
 exact ⟨_,rfl,law_post laidOut hW' rfl (by kernel_rfl) Tryz.underlying4 rfl (by
  rw [Tryz.params5]
  intro t ht
  simp only [List.mem_cons,List.not_mem_nil,or_false] at ht
  rcases ht with rfl | rfl <;> exact ⟨by kernel_rfl,of_decide_eq_true (by kernel_rfl)⟩) hb⟩
set_option maxRecDepth 100000 in
theorem racePlays_lifted (os:Os) (started:os.Started) (H:Type) (enc:TypeId×Value→H) :
  ReturnsInHanded {} Tryz.checked os 5 .any (Rows.racePlaysSpec.pre6 enc Tryz.prog Tryz.f5 Rows.racePlaysRow.domain false) (Rows.racePlaysSpec.post enc Tryz.prog Tryz.f5 false true false false):=by
 refine returnsInHanded_of_change (C:=Tryz.checked) own started (by kernel_rfl) Tryz.func5
  (ChangeSpec.witness6 (enc:=enc) (C:=Tryz.checked) false ⟨#[],#[.agg #[.int .i64 0,.int .i64 0,.int .i64 0,.int .i64 0,.int .i64 0,.int .i64 0],.slice none 0 0],[]⟩ 8 (by kernel_rfl) (by kernel_rfl) (by kernel_rfl) (by kernel_rfl)) ?_
 intro W base args ds gs before hval hW _ _
 exact racePlays_contract H enc W base args ds gs before hval hW
theorem racePlays_holds:Rows.RacePlaysSaid :=
 OpenClaim.holds_of_wide 5 Tryz.f5 rfl rfl rfl rfl rfl rfl rfl ⟨rfl,rfl,rfl,rfl,rfl⟩ rfl rfl rfl rfl rfl (by kernel_rfl) Tryz.func5 (by kernel_rfl)
  (of_decide_eq_true (by kernel_rfl)) (by unfold Func.isWrapper; first | (rw [if_pos (by decide +kernel)]; kernel_rfl) | (rw [if_neg (by decide +kernel)]; exact ⟨rfl,rfl⟩))
  (fun os started H enc _=>racePlays_lifted os started H enc)
end Go.Proofs.YtkmccgombmogmaaGreat
