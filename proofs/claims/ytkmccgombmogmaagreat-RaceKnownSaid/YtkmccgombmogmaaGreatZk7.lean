/- Part of a proof: see the last text. -/
import Derived.Test.YtkmccgombmogmaaGreatZk6
import Derived.WalkMore
import Derived.ScopeJumps
import Derived.Test.YtkmccgombmogmaaGreatZk4
import Derived.Test.YtkmccgombmogmaaGreatZk1
import Derived.Test.YtkmccgombmogmaaGreatZk5
import Derived.Test.YtkmccgombmogmaaGreatZk3
import Derived.Deep.RegionHeld3
import Derived.Deep.RegionWith
import Derived.Lib.AppendZerosOnto
namespace Go.Proofs.YtkmccgombmogmaaGreat
open Go.RowKit
set_option linter.unusedVariables false
set_option linter.unusedSimpArgs false
set_option maxRecDepth 8000
section
variable {ctx:Ev.Ctx} {w:World} {r:List Ev.Asr} {c:Cfg} {p v bp bm:Nat} {mm:MemM} {st w0 mn:Int} {lp bv:Value} {bt:List Int}
theorem full_run {b off n k:Nat} (h0:0 < n) (hk:n≤k) (w:World) : (Instr.sliceAt 35 (.slice (some ⟨b,off,none⟩) n k) none (some (.int .i64 (n:Int))) (some (.int .i64 (n:Int)))).run Tryz.prog w=.ok (.slice (some ⟨b,off,none⟩) n n) w:=by
 obtain ⟨i,hi,hz1,hz0,hz2⟩:=infInt
 have hs:∀ v,(Instr.sliceAt 35 v none (some (.int .i64 (n:Int))) (some (.int .i64 (n:Int)))).run Tryz.prog w=(Instr.slice 35 v none (some (.int .i64 (n:Int))) (some (.int .i64 (n:Int)))).run Tryz.prog w:=fun v=>by simp [Instr.sliceAt,run_underlying Tryz.underlying35]
 rw [hs]
 have e1:(n:Int)≤(k:Int):=by omega
 have e2:¬ n=0:=by omega
 have hbd:(Instr.sliceBounds true n k none (some (.int .i64 (n:Int))) (some (.int .i64 (n:Int)))).run Tryz.prog w=.ok (0,n,n) w:=by simp [Instr.sliceBounds,run_sliceBound,e1]
 simp only [Instr.slice,Sem.run_bind,run_underlying Tryz.underlying35,Result.andThen]
 rw [hbd]
 simp [sizeOf,typeInfo,hi,e2,Ev.addMk]
theorem newlayH (n:Nat) (hp:p < c.n) {u:Value} {l:List Int} (hl:Ev.SlR 1 u l.length (ints l) w) (hg:∀ g ∈ l,0≤g) (hn:l.length≤64) (h:Ev.Hold ctx r w) :
  CallsIn Fence.wide n Tryz.prog 172 #[c.v,.int .i64 (p:Int),u] w fun e w'=>∃ b,e=.returned (.pointer (some ⟨b,0,none⟩))∧Ev.Hold ctx (layA c p b ⟨1,0,0,0,l⟩::r) w':=by
 obtain ⟨F,k1,back⟩:=hold_fr (lp:=[]) h
 refine (callsIn_wide.2 (lay_new hp hl hg hn k1)).mono ?_
 rintro e w' ⟨b,rfl,hh⟩
 exact ⟨b,rfl,back [_] _ hh⟩
set_option maxHeartbeats 4000000 in
theorem sgainN (n:Nat) (hp:p < c.n) (hv:v < c.n) (hm:MemOk c mm) (hw0:U64 w0) (he:¬ ld mm (c.word v)=w0) (h:Ev.Hold ctx (seB c p v bp lp 3 w0 bv mn::memA bm mm::r) w) :
  CallsIn Fence.wide n Tryz.prog 169 #[.pointer (some ⟨bp,0,none⟩),.pointer (some ⟨bm,0,none⟩)] w fun e w'=>e=.returned (.tuple #[])∧Ev.Hold ctx (seB c p v bp lp 1 w0 (.slice none 0 0) mn::memA bm mm.tick::r) w':=by
 obtain ⟨hx,ha⟩:=hm.at_ (hm.lt_word hv)
 have hb:=szW_bd w0
 have eo:IntKind.u32.wrap (oldN (szW w0))=oldN (szW w0):=by rw [wrap32]; unfold oldN; omega
 have hd:=hold_keep h (Below.refl _ _).drew
 have hhf:=shalf (bp:=bp) (w:=w.drew) 0 hw0 (blkc hd 10 _)
 have hcas:∀ {W:World},Ev.Hold ctx (seB c p v bp lp 3 w0 bv mn::memA bm mm::r) W→_:=fun hh=>callsIn_wide.1 (cas_in 0 hx ha w0 (gnW w0 (oldN (szW w0))) (hold_swap hh))
 simp only [he,decide_false,↓reduceIte] at hcas
 refine wen Tryz.func169 85 ?_
 refine wpIn_wide.2 (wp_scope_jumps 0 (fun a W=>(∃ z2 z3 z4 z5 z6 z7 z8 z9 z10 z11 z12 z13 z14 z15 z16 z17 z18 z19 z20 z21 z22 z23 z24 z25 z26 z27,a = { tmps:=#[.pointer (some ⟨bp,0,none⟩),.pointer (some ⟨bm,0,none⟩),z2,z3,z4,z5,z6,z7,z8,z9,z10,z11,z12,z13,z14,z15,z16,z17,z18,z19,z20,z21,z22,z23,z24,z25,z26,z27,undef,undef,undef,undef,undef,undef,undef,undef,undef,undef,undef,undef,undef,undef,undef,undef,undef,undef,undef,undef,undef,undef,undef,undef,undef,undef,undef,undef,undef,undef,undef,undef,undef,undef,undef,undef,undef,undef,undef,undef,undef,undef,undef,undef,undef,undef,undef,undef,undef,undef,undef,undef,undef,undef,undef,undef,undef,undef,undef],defers:=[] })∧Ev.Hold ctx (seB c p v bp lp 3 w0 bv mn::memA bm mm.tick::r) W) (fun _ _=>0) rfl ((wpIn_wide (n:=n)).1 ?_) (fun a W hJ=>(wpIn_wide (n:=n)).1 ?_))
 ·gi_upto_region 0 with fail
  refine wpIn_wide.2 ?_
  go_region_held3 (fun W=>seC c v bp W∧W.cell? ⟨bp,10,none⟩=some (.int .u64 w0)) ((first | exact ⟨sec hd,blkc hd 10 _⟩ | exact ⟨sec h1,blkc h1 10 _⟩ | exact ⟨sec h2,blkc h2 10 _⟩ | fail)) ((first
   | (have hcon:=word_ok c v hv w.drew; (with_reducible refine hcon.mono ?_); clear hcon; rintro e w1 ⟨rfl,b1⟩; have h1:=hold_keep hd b1; have hh1:=shalf (bp:=bp) 0 hw0 (blkc h1 10 _))
   | (have hcon:=callsIn_wide.1 hh1; (with_reducible refine hcon.mono ?_); clear hcon; rintro e w2 ⟨rfl,hw2⟩; replace hw2:=hw2.symm; subst hw2)
   | (have hcon:=wGain w0 (oldN (szW w0)) hw0 w1; (with_reducible refine hcon.mono ?_); clear hcon; rintro e w2 ⟨rfl,rfl⟩)
   | (have hcon:=hcas h1; (with_reducible refine hcon.mono ?_); clear hcon; rintro e w3 ⟨rfl,h2⟩; replace h2:=hold_swap h2)))
  gi_wp2
  refine wpIn_goto ⟨rfl,?_,h2⟩
  repeat apply Exists.intro
  rfl
 ·obtain ⟨⟨z2,z3,z4,z5,z6,z7,z8,z9,z10,z11,z12,z13,z14,z15,z16,z17,z18,z19,z20,z21,z22,z23,z24,z25,z26,z27,rfl⟩,h3⟩:=hJ
  have x9:=blkc h3 9 _
  have f9:=froz_of (hold_blk h3) 9
  have h4:=hold_set 9 (.int .i64 1) h3
  have x11:=blkc h4 11 _
  have f11:=froz_of (hold_blk h4) 11
  have h5:=hold_set 11 (.slice none 0 0) h4
  gi_wp2
  dsimp only [Exit.jump]
  exact bodyPost_end (results_none rfl _ _ _) rfl ⟨rfl,h5⟩
set_option maxHeartbeats 4000000 in
theorem sgainY (n:Nat) (hp:p < c.n) (hv:v < c.n) (hm:MemOk c mm) (hw0:U64 w0) (he:ld mm (c.word v)=w0) (hb0:0 < bt.length) (hbt:bt.length≤64) (hgs:∀ g ∈ bt,0≤g) (h:Ev.Hold ctx (seB c p v bp lp 3 w0 bv mn::memA bm mm::isA bv bt::r) w) :
  CallsIn Fence.wide n Tryz.prog 169 #[.pointer (some ⟨bp,0,none⟩),.pointer (some ⟨bm,0,none⟩)] w fun e w'=>e=.returned (.tuple #[])∧∃ bl bv',Ev.Hold ctx (seB c p v bp (.pointer (some ⟨bl,0,none⟩)) (if bt.length=1 then 0 else 4) w0 bv' (bt.length:Int)::memA bm (mm.put (c.word v) (gnW w0 (oldN (szW w0))))::isA bv' bt::layA c p bl ⟨1,0,0,0,bt.drop 1⟩::r) w':=by
 obtain ⟨hx,ha⟩:=hm.at_ (hm.lt_word hv)
 have hb:=szW_bd w0
 have eo:IntKind.u32.wrap (oldN (szW w0))=oldN (szW w0):=by rw [wrap32]; unfold oldN; omega
 obtain ⟨s5,hs5⟩ : ∃ s5:Int,(if bt.length=1 then 0 else 4)=s5:=⟨_,rfl⟩
 have hq5:(bt.length=1∧s5=0)∨(¬ bt.length=1∧s5=4):=by
  split at hs5 <;> omega
 rw [hs5]
 clear hs5
 obtain ⟨ba,bo,bk,hbv,-,-⟩:=sl_some (hold_drop (r:=[_,_]) h) (by omega) (by decide)
 subst hbv
 have hbk:=sl_cap (hold_drop (r:=[_,_]) h)
 obtain ⟨N,hN⟩ : ∃ N,bt.length=N:=⟨_,rfl⟩
 rw [hN] at h hbk hb0 hbt hq5 ⊢
 have hd:=hold_keep h (Below.refl _ _).drew
 have hcas:∀ {W:World},Ev.Hold ctx (seB c p v bp lp 3 w0 (.slice (some ⟨ba,bo,none⟩) N bk) mn::memA bm mm::isA (.slice (some ⟨ba,bo,none⟩) N bk) bt::r) W→_:=fun hh=>callsIn_wide.1 (cas_in 0 hx ha w0 (gnW w0 (oldN (szW w0))) (hold_swap hh))
 simp only [he,decide_true,↓reduceIte] at hcas
 refine wen Tryz.func169 85 ?_
 refine wpIn_wide.2 (wp_scope_straight ((wpIn_wide (n:=n)).1 ?_))
 gi_upto_region 0 with fail
 refine wpIn_wide.2 ?_
 go_region_held3 (fun W=>seC c v bp W∧W.cell? ⟨bp,10,none⟩=some (.int .u64 w0)) ((first | exact ⟨sec hd,blkc hd 10 _⟩ | exact ⟨sec h1,blkc h1 10 _⟩ | exact ⟨sec h2,blkc h2 10 _⟩ | fail)) ((first
  | (have hcon:=word_ok c v hv w.drew; (with_reducible refine hcon.mono ?_); clear hcon; rintro e w1 ⟨rfl,b1⟩; have h1:=hold_keep hd b1; have hh1:=shalf (bp:=bp) 0 hw0 (blkc h1 10 _))
  | (have hcon:=callsIn_wide.1 hh1; (with_reducible refine hcon.mono ?_); clear hcon; rintro e w2 ⟨rfl,hw2⟩; replace hw2:=hw2.symm; subst hw2)
  | (have hcon:=wGain w0 (oldN (szW w0)) hw0 w1; (with_reducible refine hcon.mono ?_); clear hcon; rintro e w2 ⟨rfl,rfl⟩)
  | (have hcon:=hcas h1; (with_reducible refine hcon.mono ?_); clear hcon; rintro e w3 ⟨rfl,h2⟩; replace h2:=hold_swap h2)))
 clear hcas hh1 h1 hd h b1 eo hb
 have x11:=blkc h2 11 _
 have x12:=blkc h2 12 _
 have f12:=froz_of (hold_blk h2) 12
 have h3:=hold_set 12 (.int .i64 (N:Int)) h2
 have hfr:=fun W=>full_run (b:=ba) (off:=bo) hb0 hbk W
 gi_upto_region 2 with fail
 have h3d:=hold_keep h3 (Below.refl _ _).drew
 have y11:=blkc h3d 11 _
 have g11:=froz_of (hold_blk h3d) 11
 have h4:=hold_keep (hold_set 11 (.slice (some ⟨ba,bo,none⟩) N N) h3) (Below.refl _ _).drew
 refine wpIn_wide.2 ?_
 refine wp_region_noPanic ?_
 refine wp_region_B (fun W=>W.cell? ⟨bp,12,none⟩=some (.int .i64 (N:Int))∧W.cell? ⟨bp,11,none⟩=some (.slice (some ⟨ba,bo,none⟩) N bk)) 14 (by kernel_rfl) ?_ (fun hHeld=>?_)
 ·(try dsimp only); (exact ⟨blkc h3d 12 _,blkc h3d 11 _⟩)
 refine takeB0 (i:=0) (v:=?_) (Or.inl ⟨by kernel_rfl,?_⟩) (by assumption) ?_
 rotate_left
 ·intro w _; go_simp; try with_reducible rfl
 try simp only [Act.put,List.setIfInBounds_toArray,List.set_cons_zero,List.set_cons_succ]
 refine takeB0 (i:=1) (v:=?_) (Or.inl ⟨by kernel_rfl,?_⟩) (by assumption) ?_
 rotate_left
 ·intro w _; go_simp; try with_reducible rfl
 try simp only [Act.put,List.setIfInBounds_toArray,List.set_cons_zero,List.set_cons_succ]
 refine takeB0 (i:=2) (v:=?_) (Or.inl ⟨by kernel_rfl,?_⟩) (by assumption) ?_
 rotate_left
 ·intro w _; go_simp; try with_reducible rfl
 try simp only [Act.put,List.setIfInBounds_toArray,List.set_cons_zero,List.set_cons_succ]
 refine takeB0 (i:=3) (v:=?_) (Or.inl ⟨by kernel_rfl,?_⟩) (by assumption) ?_
 rotate_left
 ·intro w _; go_simp; try with_reducible rfl
 try simp only [Act.put,List.setIfInBounds_toArray,List.set_cons_zero,List.set_cons_succ]
 refine takeB (i:=4) (v:=?_) (Or.inl ⟨by kernel_rfl,?_⟩) (by assumption) ?_
 rotate_left
 ·intro w hSw; (try dsimp only at hSw); go_simp; try with_reducible rfl
 try simp only [Act.put,List.setIfInBounds_toArray,List.set_cons_zero,List.set_cons_succ]
 refine takeB0 (i:=5) (v:=?_) (Or.inl ⟨by kernel_rfl,?_⟩) (by assumption) ?_
 rotate_left
 ·intro w _; go_simp; try with_reducible rfl
 try simp only [Act.put,List.setIfInBounds_toArray,List.set_cons_zero,List.set_cons_succ]
 refine takeB0 (i:=6) (v:=?_) (Or.inl ⟨by kernel_rfl,?_⟩) (by assumption) ?_
 rotate_left
 ·intro w _; go_simp; try with_reducible rfl
 try simp only [Act.put,List.setIfInBounds_toArray,List.set_cons_zero,List.set_cons_succ]
 refine takeB0 (i:=7) (v:=?_) (Or.inl ⟨by kernel_rfl,?_⟩) (by assumption) ?_
 rotate_left
 ·intro w _; go_simp; try with_reducible rfl
 try simp only [Act.put,List.setIfInBounds_toArray,List.set_cons_zero,List.set_cons_succ]
 refine takeB (i:=8) (v:=?_) (Or.inl ⟨by kernel_rfl,?_⟩) (by assumption) ?_
 rotate_left
 ·intro w hSw; (try dsimp only at hSw); go_simp; try with_reducible rfl
 try simp only [Act.put,List.setIfInBounds_toArray,List.set_cons_zero,List.set_cons_succ]
 refine takeB0 (i:=9) (v:=?_) (Or.inl ⟨by kernel_rfl,?_⟩) (by assumption) ?_
 rotate_left
 ·intro w _; go_simp; try with_reducible rfl
 try simp only [Act.put,List.setIfInBounds_toArray,List.set_cons_zero,List.set_cons_succ]
 refine takeB0 (i:=10) (v:=?_) (Or.inl ⟨by kernel_rfl,?_⟩) (by assumption) ?_
 rotate_left
 ·intro w _; go_simp; try with_reducible rfl
 try simp only [Act.put,List.setIfInBounds_toArray,List.set_cons_zero,List.set_cons_succ]
 refine takeB0 (i:=11) (v:=?_) (Or.inl ⟨by kernel_rfl,?_⟩) (by assumption) ?_
 rotate_left
 ·intro w _; go_simp; try with_reducible rfl
 try simp only [Act.put,List.setIfInBounds_toArray,List.set_cons_zero,List.set_cons_succ]
 refine takeB (i:=12) (v:=?_) (Or.inl ⟨by kernel_rfl,?_⟩) (by assumption) ?_
 rotate_left
 ·intro w hSw; (try dsimp only at hSw); go_simp; try with_reducible rfl
 try simp only [Act.put,List.setIfInBounds_toArray,List.set_cons_zero,List.set_cons_succ]
 refine takeB0 (i:=13) (v:=?_) (Or.inl ⟨by kernel_rfl,?_⟩) (by assumption) ?_
 rotate_left
 ·intro w _; go_simp; try with_reducible rfl
 try simp only [Act.put,List.setIfInBounds_toArray,List.set_cons_zero,List.set_cons_succ]
 refine lastB (i:=14) (ho:=rfl) (fun K hK=>?_)
 go_simp
 refine hK.out _ _ ?_
 clear hK K
 try simp only [Act.put,List.setIfInBounds_toArray,List.set_cons_zero,List.set_cons_succ]
 refine lastB (i:=15) (ho:=rfl) (fun K hK=>?_)
 go_simp
 refine hK.out _ _ ?_
 clear hK K
 try simp only [Act.put,List.setIfInBounds_toArray,List.set_cons_zero,List.set_cons_succ]
 refine lastB (i:=16) (ho:=rfl) (fun K hK=>?_)
 go_simp
 refine hK.out _ _ ?_
 clear hK K
 try simp only [Act.put,List.setIfInBounds_toArray,List.set_cons_zero,List.set_cons_succ]
 refine (doneB (h:=?_) (hr:=by kernel_rfl)) _
 refine NoPanic.normal ?_
 obtain ⟨W4,hW4⟩ : ∃ W4,((w3.setCell ⟨bp,12,none⟩ (.int .i64 (N:Int))).setCell ⟨bp,11,none⟩ (.slice (some ⟨ba,bo,none⟩) N N)).drew=W4:=⟨_,rfl⟩
 rw [hW4] at h4 ⊢
 clear hW4 h3 h3d h2 x11 x12 f12 y11 g11 hfr
 have h5:Ev.Hold ctx (isA (.slice (some ⟨ba,bo,none⟩) N N) bt::_) W4:=Ev.Hold.full (hold_up [_,_] h4) (by omega)
 replace h5:=hold_keep h5 (Below.refl _ _).drew
 obtain ⟨i0,hi,hz1,hz0,hz2⟩:=infInt
 have hcl:=Ev.Hold.cutLo (lo:=1) h5 (by omega)
 rw [show Ev.slA 3 1 (Ev.cutV 1 (.slice (some ⟨ba,bo,none⟩) N N) 1 bt.length) (bt.length - 1) ((ints bt).drop (1 * 1))=isA (Ev.cutV 1 (.slice (some ⟨ba,bo,none⟩) N N) 1 bt.length) (bt.drop 1) by unfold isA; rw [Nat.mul_one,ints_drop,List.length_drop]] at hcl
 have hcut:∀ W,(Instr.sliceAt 35 (.slice (some ⟨ba,bo,none⟩) N N) (some (.int .i64 1)) none none).run Tryz.prog W=.ok (Ev.cutV 1 (.slice (some ⟨ba,bo,none⟩) N N) 1 bt.length) W:=fun W=>Ev.cut_runLo (lo:=1) (hold_slr h5) Tryz.underlying35 hi hz1 (by omega) W
 obtain ⟨u,hu⟩ : ∃ u,Ev.cutV 1 (.slice (some ⟨ba,bo,none⟩) N N) 1 bt.length=u:=⟨_,rfl⟩
 have hsl:=hold_slr hcl
 rw [hu] at hsl
 simp only [hu] at hcut
 obtain ⟨a2,k2,rfl⟩:=slr_val hsl
 replace h5:=hsel [_,_,_] h5 [1,2,0]
 have hlen:(bt.drop 1).length≤64:=by rw [List.length_drop]; omega
 have hgd:∀ g ∈ bt.drop 1,0≤g:=fun g hg=>hgs g (List.mem_of_mem_drop hg)
 have hnl:=newlayH 0 hp hsl hgd hlen h5
 have hcC:∀ {q:Value} {l:List Ev.Asr} {W:World},Ev.Hold ctx (seB c p v bp q 3 w0 (.slice (some ⟨ba,bo,none⟩) N N) (N:Int)::l) W→(W.cell? ⟨bp,0,none⟩=some (.int .i64 (c.n:Int))∧W.cell? ⟨bp,1,none⟩=some (.int .i64 (c.q:Int))∧W.cell? ⟨bp,2,none⟩=some (.int .i64 c.g)∧W.cell? ⟨bp,3,none⟩=some (.int .i64 c.m)∧W.cell? ⟨bp,4,none⟩=some (.int .i64 c.t)∧W.cell? ⟨bp,5,none⟩=some (.int .i64 c.s))∧W.cell? ⟨bp,7,none⟩=some (.int .i64 (p:Int))∧W.cell? ⟨bp,11,none⟩=some (.slice (some ⟨ba,bo,none⟩) N N):=fun hh=>⟨cf6c hh,blkc hh 7 _,blkc hh 11 _⟩
 clear hcl hsl hu
 obtain ⟨n2,hn2⟩ : ∃ n2,(bt.drop 1).length=n2:=⟨_,rfl⟩
 rw [hn2] at hcut hnl
 clear hn2
 gi_upto_region 3 with fail
 refine wpIn_wide.2 ?_
 go_region_held3 (fun W=>(W.cell? ⟨bp,0,none⟩=some (.int .i64 (c.n:Int))∧W.cell? ⟨bp,1,none⟩=some (.int .i64 (c.q:Int))∧W.cell? ⟨bp,2,none⟩=some (.int .i64 c.g)∧W.cell? ⟨bp,3,none⟩=some (.int .i64 c.m)∧W.cell? ⟨bp,4,none⟩=some (.int .i64 c.t)∧W.cell? ⟨bp,5,none⟩=some (.int .i64 c.s))∧W.cell? ⟨bp,7,none⟩=some (.int .i64 (p:Int))∧W.cell? ⟨bp,11,none⟩=some (.slice (some ⟨ba,bo,none⟩) N N)) ((first | exact hcC h5 | exact hcC h6 | exact hcC h7 | fail)) ((first
  | (have hcon:=callsIn_wide.1 hnl; (with_reducible refine hcon.mono ?_); clear hcon; rintro e w5 ⟨bl,rfl,h6⟩; replace h6:=hold_up [_] h6; have x6:=blkc h6 6 _; have f6:=froz_of (hold_blk h6) 6; have h7:=hold_set 6 (.pointer (some ⟨bl,0,none⟩)) h6)))
 have y9:=blkc h7 9 _
 have g9:=froz_of (hold_blk h7) 9
 have h8:=hold_set 9 (.int .i64 4) h7
 have y12:=blkc h8 12 _
 rcases hq5 with ⟨hq,rfl⟩ | ⟨hq,rfl⟩
 ·have hb:((N:Int) == 1)=true:=by simp; omega
  have z9:=blkc h8 9 _
  have i9:=froz_of (hold_blk h8) 9
  have h9:=hold_set 9 (.int .i64 0) h8
  gi_wp2
  dsimp only [Exit.noGoto]
  exact bodyPost_ret (results_none rfl _ _ _) rfl ⟨rfl,bl,_,hsel [_,_,_,_] h9 [0,2,3,1]⟩
 ·have hb:((N:Int) == 1)=false:=by simp; omega
  gi_wp2
  dsimp only [Exit.noGoto]
  exact bodyPost_ret (results_none rfl _ _ _) rfl ⟨rfl,bl,_,hsel [_,_,_,_] h8 [0,2,3,1]⟩
end
end Go.Proofs.YtkmccgombmogmaaGreat
namespace Go.Proofs.YtkmccgombmogmaaGreat
open Go.RowKit
set_option linter.unusedVariables false
set_option linter.unusedSimpArgs false
set_option maxRecDepth 8000
def newSteal:StealS:=⟨1,0,[],none⟩
theorem newSteal_ok:StealOk newSteal:=⟨by decide,⟨by decide,by decide⟩,by decide,fun g h=>(by cases h),fun _=>rfl,fun _=>rfl,fun h=>(by cases h),fun h=>(by cases h),fun h=>(by cases h),fun l h=>(by cases h)⟩
def StealS.got (x:StealS) : Int×Bool:=if x.st=0 then (match x.ly with | some _=>(x.bt.getD 0 0,true) | none=>(0,false)) else (0,false)
def StealS.left (x:StealS) : List Int:=if x.st=0 then (match x.ly with | some l=>l.ls | none=>[]) else []
theorem stealStep_ok {c:Cfg} {p v:Nat} (hp:p < c.n) (hv:v < c.n) {x:StealS} {m:MemM} (hx:StealOk x) (hm:MemOk c m) (hsl:SlotsOk c m) : StealOk (stealStep c p v x m).1∧MemOk c (stealStep c p v x m).2:=by
 have hw:=hm.get (hm.lt_word hv)
 obtain ⟨st,w,bt,ly⟩:=x
 obtain ⟨k1,k2,k3,k4,k5,k6,k7,k8,k9,ka⟩:=hx
 dsimp only at k1 k2 k3 k4 k5 k6 k7 k8 k9 ka
 match st,k1 with
 | 0,_ =>
  have q:StealOk ⟨0,w,bt,ly⟩:=⟨by simp,k2,k3,k4,k5,k6,k7,k8,k9,ka⟩
  exact ⟨q,hm⟩
 | 1,_ =>
  refine ⟨⟨?_,hw.2,Nat.zero_le _,fun g h=>(by cases h),fun _=>rfl,fun _=>rfl,?_,?_,?_,fun l h=>(by cases h)⟩,hm.tick⟩
  ·simp only [stealStep]; split <;> decide
  ·intro e
   simp only [stealStep] at e ⊢
   split at e
   ·cases e
   ·rename_i hq
    have hb:=szW_bd (ld m (c.word v))
    have hq2:=c.qb
    unfold oldN
    simp only [List.length_nil]
    omega
  ·intro e
   simp only [stealStep] at e
   split at e <;> cases e
  ·intro e
   simp only [stealStep] at e
   split at e <;> cases e
 | 2,_ =>
  have hc:=hm.get (hm.lt_slot hv ((hdW w+(bt.length:Int)) % 4294967296))
  have hg:=hsl v hv ((hdW w+(bt.length:Int)) % 4294967296)
  obtain ⟨t1,t2⟩:=k7 rfl
  refine ⟨⟨?_,k2,?_,?_,?_,fun _=>rfl,?_,?_,?_,fun l h=>(by cases h)⟩,hm.tick⟩
  ·simp only [stealStep]; split <;> decide
  ·simp only [stealStep,List.length_append,List.length_singleton]; omega
  ·intro g hgm
   simp only [stealStep] at hgm
   rcases List.mem_append.1 hgm with h | h
   ·exact k4 g h
   ·rw [List.mem_singleton.1 h,gn_wrap hg]
    exact hg
  ·intro e
   simp only [stealStep] at e
   split at e <;> cases e
  ·intro e
   simp only [stealStep] at e ⊢
   split at e
   ·cases e
   ·rename_i hk
    refine ⟨?_,t2⟩
    simp only [List.length_append,List.length_singleton]
    omega
  ·intro e
   simp only [stealStep,List.length_append,List.length_singleton]
   omega
  ·intro e
   simp only [stealStep] at e
   split at e <;> cases e
 | 3,_ =>
  have hb1:=k8 rfl
  have hlb:LayB ⟨1,0,0,0,bt.drop 1⟩:=⟨⟨Int.le_refl 0,by show (0:Int) < 18446744073709551616; decide⟩,⟨Nat.zero_le _,Nat.zero_le _⟩,by simp only [List.length_drop]; omega,fun g h=>k4 g (List.mem_of_mem_drop h)⟩
  simp only [stealStep]
  split
  ·refine ⟨⟨?_,k2,k3,k4,?_,?_,?_,?_,?_,?_⟩,hm.put _ (gnW_u k2 _)⟩
   ·dsimp only; split <;> decide
   ·intro e; dsimp only at e; split at e <;> cases e
   ·intro e
    dsimp only at e
    split at e
    ·rcases e with e | e | e <;> cases e
    ·rcases e with e | e | e <;> cases e
   ·intro e; dsimp only at e; split at e <;> cases e
   ·intro e; dsimp only at e; split at e <;> cases e
   ·intro e
    dsimp only at e
    split at e
    ·cases e
    ·rename_i h1
     refine ⟨_,rfl,⟨by simp,hlb.w,hlb.b,hlb.ls,fun _ h=>?_,fun h=>(by cases h),fun h=>(by rcases h with h | h <;> cases h),hlb.gs⟩,by simp⟩
     have:(bt.drop 1).length=0:=by dsimp only at h; rw [h]; rfl
     rw [List.length_drop] at this
     omega
   ·intro l h
    cases h
    exact ⟨hlb,hb1⟩
  ·exact ⟨⟨by simp,k2,Nat.zero_le _,fun g h=>(by cases h),fun _=>rfl,fun _=>rfl,fun h=>(by cases h),fun h=>(by cases h),fun h=>(by cases h),fun l h=>(by cases h)⟩,hm.tick⟩
 | 4,_ =>
  obtain ⟨l,rfl,hlo,hl0⟩:=k9 rfl
  obtain ⟨q1,q2⟩:=layStep_ok hp hlo hm
  obtain ⟨b1,b2⟩:=ka l rfl
  simp only [stealStep]
  refine ⟨⟨?_,k2,k3,k4,?_,?_,?_,?_,?_,?_⟩,q2⟩
  ·dsimp only; split <;> decide
  ·intro e; dsimp only at e; split at e <;> cases e
  ·intro e
   dsimp only at e
   split at e
   ·rcases e with e | e | e <;> cases e
   ·rcases e with e | e | e <;> cases e
  ·intro e; dsimp only at e; split at e <;> cases e
  ·intro e; dsimp only at e; split at e <;> cases e
  ·intro e
   dsimp only at e
   split at e
   ·cases e
   ·rename_i h1
    exact ⟨_,rfl,q1,h1⟩
  ·intro l' h
   cases h
   exact ⟨q1.base,b2⟩
section
variable {ctx:Ev.Ctx} {w:World} {r:List Ev.Asr} {c:Cfg} {p v bp bm:Nat} {mm:MemM} {x:StealS}
theorem layW_hold {ls:LayS} {b:Nat} (h:Ev.Hold ctx (layA c p b ls::r) w) : Ev.Hold ctx (layW c p ls (.pointer (some ⟨b,0,none⟩))::r) w:=h.head (fun F h=>⟨b,rfl,h⟩)
abbrev swF:List FuncId:=[0,167,168,169]
theorem sst (n:Nat) {st:Nat} (h1:1≤st∧st≤3) {f:FuncId} (hf:swF[st]? = some f) {Q:Int→World→Prop} (hc:∀ m,CallsIn Fence.wide m Tryz.prog f #[.pointer (some ⟨bp,0,none⟩),.pointer (some ⟨bm,0,none⟩)] w fun e w'=>e=.returned (.tuple #[])∧∃ st2,w'.cell? ⟨bp,9,none⟩=some (.int .i64 st2)∧Q st2 w') (h9:w.cell? ⟨bp,9,none⟩=some (.int .i64 (st:Int))) :
  CallsIn Fence.wide n Tryz.prog 166 #[.pointer (some ⟨bp,0,none⟩),.pointer (some ⟨bm,0,none⟩)] w fun e w'=>∃ st2,e=.returned (.bool (decide (st2=0)))∧Q st2 w':=by
 obtain rfl | rfl | rfl:st=1∨st=2∨st=3:=by omega
 all_goals
  cases hf
  refine wen Tryz.func166 41 ?_
  gi_wp2
  refine wcl (sdone (n - 1) h9) ?_
  rintro e w1 ⟨rfl,rfl⟩
  gi_wp2
  refine wcl (hc (n - 1)) ?_
  rintro e w2 ⟨rfl,st2,h2,hQ⟩
  have hb:(st2 == 0)=decide (st2=0):=by
   by_cases e:st2=0 <;> simp [e]
  gi_wp2
  exact bodyPost_ret (results_tmp rfl _ _ _) rfl ⟨st2,by simp,hQ⟩
theorem sst4 (n:Nat) {bl:Nat} {d:Bool} {w0 mn:Int} {bv:Value} {l:List Ev.Asr} (hc:∀ m,CallsIn Fence.wide m Tryz.prog 170 #[.pointer (some ⟨bl,0,none⟩),.pointer (some ⟨bm,0,none⟩)] w fun e w'=>e=.returned (.bool d)∧Ev.Hold ctx (seB c p v bp (.pointer (some ⟨bl,0,none⟩)) 4 w0 bv mn::l) w') (h:Ev.Hold ctx (seB c p v bp (.pointer (some ⟨bl,0,none⟩)) 4 w0 bv mn::r) w) :
  CallsIn Fence.wide n Tryz.prog 166 #[.pointer (some ⟨bp,0,none⟩),.pointer (some ⟨bm,0,none⟩)] w fun e w'=>e=.returned (.bool d)∧Ev.Hold ctx (seB c p v bp (.pointer (some ⟨bl,0,none⟩)) (if d then 0 else 4) w0 bv mn::l) w':=by
 have h9:=blkc h 9 _
 have h6:=blkc h 6 _
 cases d
 all_goals
  refine wen Tryz.func166 41 ?_
  gi_wp2
  refine wcl (sdone (n - 1) h9) ?_
  rintro e w1 ⟨rfl,rfl⟩
  gi_wp2
  refine wcl (hc (n - 1)) ?_
  rintro e w2 ⟨rfl,h2⟩
  have y9:=blkc h2 9 _
  have f9:=froz_of (hold_blk h2) 9
  have h3:=hold_set 9 (.int .i64 0) h2
  have z9:=blkc h3 9 _
  gi_wp2
 ·exact bodyPost_ret (results_tmp rfl _ _ _) rfl ⟨rfl,h2⟩
 ·exact bodyPost_ret (results_tmp rfl _ _ _) rfl ⟨rfl,h3⟩
theorem steal_stepH (n:Nat) (hp:p < c.n) (hv:v < c.n) (hx:StealOk x) (h0:x.st ≠ 0) (hm:MemOk c mm) (h:Ev.Hold ctx (stealA c p v bp x::memA bm mm::r) w) :
  CallsIn Fence.wide n Tryz.prog 166 #[.pointer (some ⟨bp,0,none⟩),.pointer (some ⟨bm,0,none⟩)] w fun e w'=>e=.returned (.bool (decide ((stealStep c p v x mm).1.st=0)))∧Ev.Hold ctx (stealA c p v bp (stealStep c p v x mm).1::memA bm (stealStep c p v x mm).2::r) w':=by
 have hno:=hx.no
 have hfour:=hx.four
 have hbt:x.bt.length≤64:=hx.bt
 have hgs:=hx.gs
 have hthree:=hx.three
 have hst:=hx.st
 have hw0:U64 x.w:=hx.w
 have hone:=hx.one
 obtain ⟨st,ww,bt,ly⟩:=x
 dsimp only at hno hfour hbt hgs hthree hst hw0 h0 hone
 have fin:∀ {y:StealS×MemM},stealStep c p v ⟨st,ww,bt,ly⟩ mm=y→(CallsIn Fence.wide n Tryz.prog 166 #[.pointer (some ⟨bp,0,none⟩),.pointer (some ⟨bm,0,none⟩)] w fun e w'=>∃ st2:Int,e=.returned (.bool (decide (st2=0)))∧st2=(y.1.st:Int)∧Ev.Hold ctx (stealA c p v bp y.1::memA bm y.2::r) w')→CallsIn Fence.wide n Tryz.prog 166 #[.pointer (some ⟨bp,0,none⟩),.pointer (some ⟨bm,0,none⟩)] w fun e w'=>e=.returned (.bool (decide ((stealStep c p v ⟨st,ww,bt,ly⟩ mm).1.st=0)))∧Ev.Hold ctx (stealA c p v bp (stealStep c p v ⟨st,ww,bt,ly⟩ mm).1::memA bm (stealStep c p v ⟨st,ww,bt,ly⟩ mm).2::r) w':=fun {y} e hh=>by
  rw [e]
  refine hh.mono ?_
  rintro e w' ⟨st2,rfl,rfl,h2⟩
  exact ⟨by simp,h2⟩
 match st,hst with
 | 0,_=>exact absurd rfl h0
 | 1,_ =>
  obtain rfl:ly=none:=hno (.inl rfl)
  obtain rfl:bt=[]:=hone rfl
  obtain ⟨bv,lbv,hh⟩:=steal_open rfl h
  have hc:=fun m=>slook m hv hm (hsel [_,_,_] hh [0,2])
  by_cases e:szW (ld mm (c.word v))=0∨(c.q:Int) < szW (ld mm (c.word v))
  ·rw [if_pos e] at hc
   refine fin (show _=(⟨0,ld mm (c.word v),[],none⟩,mm.tick) by simp only [stealStep,if_pos e]) (sst (st:=1) (Q:=fun st2 W=>st2=0∧Ev.Hold ctx (stealA c p v bp ⟨0,ld mm (c.word v),[],none⟩::memA bm mm.tick::r) W) n (by decide) rfl (fun m=>(hc m).mono ?_) (blkc hh 9 _))
   rintro e w1 ⟨rfl,bv',h1⟩
   exact ⟨rfl,0,blkc h1 9 _,rfl,steal_close rfl (hold_leaf (hold_drop (r:=[_,_]) h1)) (hsel [_,_,_] h1 [0,2,1])⟩
  ·rw [if_neg e] at hc
   refine fin (show _=(⟨2,ld mm (c.word v),[],none⟩,mm.tick) by simp only [stealStep,if_neg e]) (sst (st:=1) (Q:=fun st2 W=>st2=2∧Ev.Hold ctx (stealA c p v bp ⟨2,ld mm (c.word v),[],none⟩::memA bm mm.tick::r) W) n (by decide) rfl (fun m=>(hc m).mono ?_) (blkc hh 9 _))
   rintro e w1 ⟨rfl,bv',h1⟩
   exact ⟨rfl,2,blkc h1 9 _,rfl,steal_close rfl (hold_leaf (hold_drop (r:=[_,_]) h1)) (hsel [_,_,_] h1 [0,2,1])⟩
 | 2,_ =>
  obtain rfl:ly=none:=hno (.inr (.inl rfl))
  obtain ⟨bv,lbv,hh⟩:=steal_open rfl h
  have hc:=fun m=>scopy m hv hm hw0 hbt (hsel [_,_,_] hh [0,2,1])
  obtain ⟨y,hy⟩ : ∃ y,IntKind.i64.wrap (ld mm (c.slot v ((hdW ww+(bt.length:Int)) % 4294967296)))=y:=⟨_,rfl⟩
  rw [hy] at hc
  by_cases e:((bt.length+1:Nat) : Int)=oldN (szW ww)
  ·rw [if_pos e] at hc
   refine fin (show _=(⟨3,ww,bt++[y],none⟩,mm.tick) by simp only [stealStep,if_pos e,hy]) (sst (st:=2) (Q:=fun st2 W=>st2=3∧Ev.Hold ctx (stealA c p v bp ⟨3,ww,bt++[y],none⟩::memA bm mm.tick::r) W) n (by decide) rfl (fun m=>(hc m).mono ?_) (blkc hh 9 _))
   rintro e w1 ⟨rfl,bv',h1⟩
   exact ⟨rfl,3,blkc h1 9 _,rfl,steal_close rfl (hold_leaf (hold_drop (r:=[_,_]) h1)) (hsel [_,_,_] h1 [0,2,1])⟩
  ·rw [if_neg e] at hc
   refine fin (show _=(⟨2,ww,bt++[y],none⟩,mm.tick) by simp only [stealStep,if_neg e,hy]) (sst (st:=2) (Q:=fun st2 W=>st2=2∧Ev.Hold ctx (stealA c p v bp ⟨2,ww,bt++[y],none⟩::memA bm mm.tick::r) W) n (by decide) rfl (fun m=>(hc m).mono ?_) (blkc hh 9 _))
   rintro e w1 ⟨rfl,bv',h1⟩
   exact ⟨rfl,2,blkc h1 9 _,rfl,steal_close rfl (hold_leaf (hold_drop (r:=[_,_]) h1)) (hsel [_,_,_] h1 [0,2,1])⟩
 | 3,_ =>
  obtain rfl:ly=none:=hno (.inr (.inr rfl))
  obtain ⟨bv,lbv,hh⟩:=steal_open rfl h
  by_cases e:ld mm (c.word v)=ww
  ·have hc:=fun m=>sgainY m hp hv hm hw0 e (hthree rfl) hbt (fun g hg=>(hgs g hg).1) (hsel [_,_,_] hh [0,2,1])
   refine fin (show _=(⟨if bt.length=1 then 0 else 4,ww,bt,some ⟨1,0,0,0,bt.drop 1⟩⟩,mm.put (c.word v) (gnW ww (oldN (szW ww)))) by simp only [stealStep,if_pos e]) (sst (st:=3) (Q:=fun st2 W=>st2=((if bt.length=1 then 0 else 4:Nat) : Int)∧Ev.Hold ctx (stealA c p v bp ⟨if bt.length=1 then 0 else 4,ww,bt,some ⟨1,0,0,0,bt.drop 1⟩⟩::memA bm (mm.put (c.word v) (gnW ww (oldN (szW ww))))::r) W) n (by decide) rfl (fun m=>(hc m).mono ?_) (blkc hh 9 _))
   rintro e w1 ⟨rfl,bl,bv',h1⟩
   have hl:=hold_leaf (hold_drop (r:=[_,_]) h1)
   rw [show (if bt.length=1 then 0 else 4:Int)=((if bt.length=1 then 0 else 4:Nat) : Int) by split <;> rfl] at h1
   exact ⟨rfl,_,blkc h1 9 _,rfl,steal_close4 (lp:=.pointer (some ⟨bl,0,none⟩)) rfl hl (hsel [_,_,_,_] (layW_hold (hsel [_,_,_,_] h1 [3,0,1,2])) [1,3,0,2])⟩
  ·have hc:=fun m=>sgainN m hp hv hm hw0 e (hsel [_,_,_] hh [0,2])
   refine fin (show _=(⟨1,ww,[],none⟩,mm.tick) by simp only [stealStep,if_neg e]) (sst (st:=3) (Q:=fun st2 W=>st2=1∧Ev.Hold ctx (stealA c p v bp ⟨1,ww,[],none⟩::memA bm mm.tick::r) W) n (by decide) rfl (fun m=>(hc m).mono ?_) (blkc hh 9 _))
   rintro e w1 ⟨rfl,h1⟩
   exact ⟨rfl,1,blkc h1 9 _,rfl,steal_close rfl rfl (hsel [_,_,_] (h1.nilSl (e := 3) (sz:=1)) [1,0,2])⟩
 | 4,_ =>
  obtain ⟨l,rfl,hl,hl0⟩:=hfour rfl
  obtain ⟨bv,bl,lbv,hh⟩:=steal_open4 rfl h
  have hc:=fun m=>(lay_stepH m hp hl hl0 hm (hsel [_,_,_,_] hh [0,3,1,2])).mono (R':=fun e w'=>e=.returned (.bool (decide ((layStep c p l mm).1.st=0)))∧Ev.Hold ctx (seB c p v bp (.pointer (some ⟨bl,0,none⟩)) 4 ww bv (bt.length:Int)::[layA c p bl (layStep c p l mm).1,memA bm (layStep c p l mm).2,isA bv bt]++r) w') (fun e w' h=>⟨h.1,hsel [_,_,_,_] h.2 [2,0,1,3]⟩)
  refine fin (show _=(⟨if (layStep c p l mm).1.st=0 then 0 else 4,ww,bt,some (layStep c p l mm).1⟩,(layStep c p l mm).2) by simp only [stealStep]) ((sst4 n hc (hsel [_,_,_,_] hh [1,0,2,3])).mono ?_)
  rintro e w1 ⟨rfl,h1⟩
  have h2:=layW_hold (hsel [_,_,_,_] h1 [1,0,2,3])
  by_cases e:(layStep c p l mm).1.st=0
  all_goals
   simp only [e,decide_true,decide_false,↓reduceIte] at h2 ⊢
   exact ⟨_,rfl,by first | rfl | simp,steal_close4 (lp:=.pointer (some ⟨bl,0,none⟩)) rfl lbv (hsel [_,_,_,_] h2 [1,3,0,2])⟩
theorem rstealnew (n:Nat) (hp:p < c.n) (hv:v < c.n) (hpv:p ≠ v) (h:Ev.Hold ctx r w) :
  CallsIn Fence.wide n Tryz.prog 35 #[c.v,.int .i64 (p:Int),.int .i64 (v:Int)] w fun e w'=>∃ bp,e=.returned (.pointer (some ⟨bp,0,none⟩))∧Ev.Hold ctx (stealA c p v bp newSteal::r) w':=by
 obtain ⟨b1,W1,hb1,hW1,g1⟩:=newN [.int .i64 (c.n:Int),.int .i64 (c.q:Int),.int .i64 c.g,.int .i64 c.m,.int .i64 c.t,.int .i64 c.s] 23 h
 obtain ⟨k0,k1,k2,k3,k4,k5⟩:=cf6c (l:=[]) g1
 obtain ⟨b3,W3,hb3,hW3,g3⟩:=newN [.int .i64 (c.n:Int),.int .i64 (c.q:Int),.int .i64 c.g,.int .i64 c.m,.int .i64 c.t,.int .i64 c.s,.pointer none,.int .i64 (p:Int),.int .i64 (v:Int),.int .i64 0,.int .u64 0,.slice none 0 0,.int .i64 0] 156 g1
 obtain ⟨m0,m1,m2,m3,m4,m5⟩:=cf6c (l:=[]) (hold_up [_] g3)
 have hpb:((p:Int) != (v:Int))=true:=by simp; omega
 have hp0:(0:Int)≤((c.word p:Nat) : Int):=by omega
 have hv0:(0:Int)≤((c.word v:Nat) : Int):=by omega
 refine wen Tryz.func35 29 ?_
 gi_wp2
 refine wcw (word_ok c p hp _) ?_
 rintro e w4 ⟨rfl,b4⟩
 have g4:=hold_keep g3 b4
 clear k0 k1 k2 k3 k4 k5 m0 m1 m2 m3 m4 m5 hb1 hW1 hb3 hW3
 obtain ⟨k0,k1,k2,k3,k4,k5⟩:=cf6c (l:=[]) (hold_up [_] g4)
 gi_wp2
 refine wcw (word_ok c v hv _) ?_
 rintro e w5 ⟨rfl,b5⟩
 have g5:=hold_keep g4 b5
 have x9:=blkc g5 9 _
 have f9:=froz_of (hold_blk g5) 9
 have g6:=hold_set 9 (.int .i64 1) g5
 gi_wp2
 exact bodyPost_ret (results_tmp rfl _ _ _) rfl ⟨b3,rfl,steal_close (x:=newSteal) rfl rfl (hsel [_,_,_] (g6.nilSl (e := 3) (sz:=1)) [1,0])⟩
theorem many_steal (n:Nat) (h:Ev.Hold ctx (stealA c p v bp x::r) w) :
  CallsIn Fence.wide n Tryz.prog 100 #[.pointer (some ⟨bp,0,none⟩)] w fun e w'=>e=.returned (.int .i64 (x.many:Int))∧Ev.Hold ctx (stealA c p v bp x::r) w':=by
 obtain ⟨bv,lp,ll,-,-,hh,back⟩:=steal_openX h
 refine (smany n (blkc hh 12 _)).mono ?_
 rintro e w' ⟨rfl,rfl⟩
 exact ⟨rfl,h⟩
theorem got_steal (n:Nat) (hx:StealOk x) (h:Ev.Hold ctx (stealA c p v bp x::r) w) :
  CallsIn Fence.wide n Tryz.prog 165 #[.pointer (some ⟨bp,0,none⟩)] w fun e w'=>e=.returned (.tuple #[.int .i64 x.got.1,.bool x.got.2])∧Ev.Hold ctx (stealA c p v bp x::r) w':=by
 obtain ⟨bv,lp,ll,h1,h2,hh,back⟩:=steal_openX h
 have h9:w.cell? ⟨bp,9,none⟩=some (.int .i64 (x.st:Int)):=blkc hh 9 _
 have h12:w.cell? ⟨bp,12,none⟩=some (.int .i64 (x.many:Int)):=blkc hh 12 _
 have hd:=sdone (n - 1) h9
 have hma:=smany (n - 1) h12
 have hlay:=hx.lay
 have hsl:=hold_drop (r:=[_]) hh
 have h11:=blkc hh 11 _
 clear hh h9
 obtain ⟨st,ww,bt,ly⟩:=x
 dsimp only at hsl h11 hma hd
 by_cases h0:st=0
 ·subst h0
  cases ly with
  | none =>
   refine wen Tryz.func165 17 ?_
   gi_wp2
   refine wcl (hd) ?_
   rintro e w1 ⟨rfl,rfl⟩
   gi_wp2
   refine wcl (hma) ?_
   rintro e w1 ⟨rfl,rfl⟩
   gi_wp2
   exact bodyPost_ret (results_two rfl _) rfl ⟨rfl,h⟩
  | some l =>
   have hb:=(hlay l rfl).2
   dsimp only at hb
   obtain ⟨a,o,k,rfl,hc,-⟩:=sl_some hsl hb (by decide)
   have hc0:=hc 0 (by omega)
   obtain ⟨g,rest,rfl⟩ : ∃ g rest,bt=g::rest:=by
    cases bt with
    | nil=>cases hb
    | cons g rest=>exact ⟨g,rest,rfl⟩
   replace hc0:w.cell? ⟨a,o,none⟩=some (.int .i64 g):=hc0
   have hmb:(((g::rest).length:Int) == 0)=false:=by simp; omega
   have hlt:(0:Int) < ((g::rest).length:Int):=by omega
   obtain ⟨N,hN⟩ : ∃ N,(g::rest).length=N:=⟨_,rfl⟩
   rw [show (⟨0,ww,g::rest,some l⟩ : StealS).many=N from hN] at hma
   rw [hN] at hmb hlt h11
   clear hc hN
   refine wen Tryz.func165 17 ?_
   gi_wp2
   refine wcl (hd) ?_
   rintro e w1 ⟨rfl,rfl⟩
   gi_wp2
   refine wcl (hma) ?_
   rintro e w1 ⟨rfl,rfl⟩
   gi_wp2
   exact bodyPost_ret (results_two rfl _) rfl ⟨rfl,h⟩
 ·have hst:decide ((st:Int)=0)=false:=by simp; omega
  have e0:(⟨st,ww,bt,ly⟩ : StealS).got=(0,false):=by simp [StealS.got,h0]
  rw [hst] at hd
  rw [e0]
  refine wen Tryz.func165 17 ?_
  gi_wp2
  refine wcl (hd) ?_
  rintro e w1 ⟨rfl,rfl⟩
  gi_wp2
  refine ⟨trivial,?_⟩
  gi_wp2
  exact bodyPost_ret (results_two rfl _) rfl ⟨rfl,h⟩
theorem rest_in (n:Nat) {b:Nat} {l:LayS} (hl:l.ls.length≤64) (h:Ev.Hold ctx (layA c p b l::r) w) :
  CallsIn Fence.wide n Tryz.prog 103 #[.agg #[.pointer (some ⟨b,0,none⟩)]] w fun e w'=>∃ u,e=.returned u∧Ev.Hold ctx (isA u l.ls::layA c p b l::r) w':=by
 obtain ⟨b1,W1,hb1,hW1,g1⟩:=newN [.pointer (some ⟨b,0,none⟩)] 153 h
 have k0:=blkc g1 0 _
 refine wen Tryz.func103 5 ?_
 gi_wp2
 refine wcl (hands_lay (n - 1) hl (hold_up [_] g1)) ?_
 rintro e w2 ⟨u,rfl,h2⟩
 gi_wp2
 exact bodyPost_ret (results_tmp rfl _ _ _) rfl ⟨u,rfl,hsel [_,_,_] h2 [0,1]⟩
theorem left_steal (n:Nat) (hx:StealOk x) (h:Ev.Hold ctx (stealA c p v bp x::r) w) :
  CallsIn Fence.wide n Tryz.prog 70 #[.pointer (some ⟨bp,0,none⟩)] w fun e w'=>∃ u,e=.returned u∧Ev.Hold ctx (isA u x.left::stealA c p v bp x::r) w':=by
 obtain ⟨bv,lp,ll,h1,h2,hh,back⟩:=steal_openX h
 have h9:w.cell? ⟨bp,9,none⟩=some (.int .i64 (x.st:Int)):=blkc hh 9 _
 have h12:w.cell? ⟨bp,12,none⟩=some (.int .i64 (x.many:Int)):=blkc hh 12 _
 have hd:=sdone (n - 1) h9
 have hma:=smany (n - 1) h12
 have hlay:=hx.lay
 clear h9
 by_cases h0:x.st=0
 ·rw [h0] at hd
  cases hly:x.ly with
  | none =>
   have e0:x.left=[]:=by simp [StealS.left,hly]
   have e1:x.many=0:=by simp [StealS.many,hly]
   rw [e0]
   rw [e1] at hma
   refine wen Tryz.func70 15 ?_
   gi_wp2
   refine wcl (hd) ?_
   rintro e w1 ⟨rfl,rfl⟩
   gi_wp2
   refine wcl (hma) ?_
   rintro e w1 ⟨rfl,rfl⟩
   gi_wp2
   exact bodyPost_ret (results_tmp rfl _ _ _) rfl ⟨.slice none 0 0,rfl,Ev.Hold.nilSl ‹_›⟩
  | some l =>
   obtain ⟨hlb,hb⟩:=hlay l hly
   have e0:x.left=l.ls:=by simp [StealS.left,hly,h0]
   have e1:((x.many:Int) == 0)=false:=by simp [StealS.many,hly]; intro e; rw [e] at hb; cases hb
   obtain rfl:=h2 l hly
   have h3:Ev.Hold ctx (layW c p l lp::stealV c p v bp x bv lp::isA bv x.bt::r) w:=hsel [_,_,_] hh [2,0,1]
   obtain ⟨b,rfl,h4⟩:=h3.headE (b:=fun b=>layA c p b l) (p:=fun b=>lp=.pointer (some ⟨b,0,none⟩)) (fun F ⟨b,e,h⟩=>⟨b,e,h⟩)
   have h6:=blkc (hold_up [_] h4) 6 _
   have hr:=rest_in (n - 1) hlb.ls h4
   rw [e0]
   obtain ⟨M,hM⟩ : ∃ M:Int,(x.many:Int)=M:=⟨_,rfl⟩
   rw [hM] at e1 hma
   clear hM
   refine wen Tryz.func70 15 ?_
   gi_wp2
   refine wcl (hd) ?_
   rintro e w1 ⟨rfl,rfl⟩
   gi_wp2
   refine wcl (hma) ?_
   rintro e w1 ⟨rfl,rfl⟩
   gi_wp2
   refine wcl (hr) ?_
   rintro e w2 ⟨u,rfl,h5⟩
   gi_wp2
   have h7:Ev.Hold ctx (stealV c p v bp x bv (.pointer (some ⟨b,0,none⟩))::isA bv x.bt::([layW c p l (.pointer (some ⟨b,0,none⟩))]++(isA u l.ls::r))) w2:=hsel [_,_,_,_] (layW_hold (hsel [_,_,_,_] h5 [1,0,2,3])) [2,3,0,1]
   exact bodyPost_ret (results_tmp rfl _ _ _) rfl ⟨u,rfl,hold_swap (back _ _ h7)⟩
 ·have hst:decide ((x.st:Int)=0)=false:=by simp; omega
  have e0:x.left=[]:=by simp [StealS.left,h0]
  rw [hst] at hd
  rw [e0]
  refine wen Tryz.func70 15 ?_
  gi_wp2
  refine wcl (hd) ?_
  rintro e w1 ⟨rfl,rfl⟩
  gi_wp2
  refine ⟨trivial,?_⟩
  gi_wp2
  exact bodyPost_ret (results_tmp rfl _ _ _) rfl ⟨.slice none 0 0,rfl,Ev.Hold.nilSl ‹_›⟩
end
section
variable {w:World} {F:Nat→Prop} {c:Cfg} {p v bp bm:Nat} {m:MemM}
theorem steal_step {x:StealS} (hp:p < c.n) (hv:v < c.n) (hx:StealOk x) (h0:x.st ≠ 0) (hm:MemOk c m) (h:Ev.Now [stealA c p v bp x,memA bm m] F w) :
  Calls Tryz.prog 166 #[.pointer (some ⟨bp,0,none⟩),.pointer (some ⟨bm,0,none⟩)] w fun e w'=>e=.returned (.bool (decide ((stealStep c p v x m).1.st=0)))∧Ev.Hold ⟨w,F⟩ [stealA c p v bp (stealStep c p v x m).1,memA bm (stealStep c p v x m).2] w':=callsIn_wide.1 (steal_stepH 0 hp hv hx h0 hm (Ev.Hold.start h))
theorem get_step {x:GetS} (hp:p < c.n) (hx:GetOk x) (h0:x.st ≠ 0) (hm:MemOk c m) (h:Ev.Now [getA c p bp x,memA bm m] F w) :
  Calls Tryz.prog 161 #[.pointer (some ⟨bp,0,none⟩),.pointer (some ⟨bm,0,none⟩)] w fun e w'=>e=.returned (.bool (decide ((getStep c p x m).1.st=0)))∧Ev.Hold ⟨w,F⟩ [getA c p bp (getStep c p x m).1,memA bm (getStep c p x m).2] w':=callsIn_wide.1 (get_stepH 0 hp hx h0 hm (Ev.Hold.start h))
end
end Go.Proofs.YtkmccgombmogmaaGreat
namespace Go.Proofs.YtkmccgombmogmaaGreat
open Go.RowKit
set_option linter.unusedVariables false
set_option linter.unusedSimpArgs false
set_option maxRecDepth 8000
theorem app_slr {P:Program} {W:World} {base:Nat} (t ty e:TypeId) {i:TypeInfo} {z:Value} {size bytes:Nat} (ht:P.underlying t=some (.slice e)) (hi:P.info? e=some i) (hz:i.zero=some z) (hsize:i.size=size) (hby:i.bytes=bytes) (hzs:z.cells.size=size) (hsz:0 < size) {v u:Value} {n m:Nat} {xs ys:List Value}
  (hr:W.ownsRow base e size v n xs) (hu:Ev.SlR size u m ys W) (h1:∀ u ∈ ys,u.oneCell'=true) (h63:n+m≤maxLen) (hb:(n+m) * bytes≤140737488355328) (hbase:base≤W.heap.size) :
  ∃ v' w',(Builtin.append_ #[t,t] ty #[v,u]).run P W=.ok v' w'∧w'.ownsRow base e size v' (n+m) (xs++ys)∧W.grownBy w' v.ownBlock:=by
 obtain ⟨hl,⟨h0,a,c,rfl⟩ | ⟨b,off,c,rfl,_,hc⟩⟩:=hu
 ·subst h0
  have hy:ys=[]:=List.eq_nil_of_length_eq_zero (by rw [hl]; simp)
  subst hy
  cases a with
  | none =>
   obtain ⟨a,c',hnc,rfl⟩ : ∃ a c,n≤c∧v=.slice a n c:=by
    rcases hr.2 with ⟨rfl,rfl⟩ | ⟨g,cap,cur,rfl,_,_,h,_⟩
    ·exact ⟨_,_,Nat.le_refl _,rfl⟩
    ·exact ⟨_,_,h,rfl⟩
   exact ⟨_,_,run_append_nothing W t t ty e i ht hi a n c' hnc _ (Src.ofNil _ ht c),by simpa using hr,⟨rfl,rfl,rfl,Nat.le_refl _,fun _ _ _=>rfl⟩⟩
  | some a =>
   obtain ⟨v',w',r1,r2,r3,_⟩:=run_append_own (P:=P) W base t ty e i z size bytes ht hi hz hsize hby hzs hsz v n xs hr a 0 c [] hl (fun j u h=>by simp at h) h1 h63 hb hbase
   exact ⟨v',w',r1,r2,r3⟩
 ·obtain ⟨v',w',r1,r2,r3,_⟩:=run_append_own (P:=P) W base t ty e i z size bytes ht hi hz hsize hby hzs hsz v n xs hr ⟨b,off,none⟩ m c ys hl (fun j u h=>by
   have hj:=(List.getElem?_eq_some_iff.1 h).1
   rw [show (⟨b,off,none⟩ : Addr).add j=⟨b,off+j,none⟩ from Ev.addMk b off j,hc j (by omega),h]) h1 h63 hb hbase
  exact ⟨v',w',r1,r2,r3⟩
section
open Ev
variable {ctx:Ctx} {w w':World} {l lp rest:List Asr}
end
end Go.Proofs.YtkmccgombmogmaaGreat
namespace Go.Proofs.YtkmccgombmogmaaGreat
open Go.RowKit
set_option linter.unusedVariables false
set_option linter.unusedSimpArgs false
set_option maxRecDepth 8000
theorem list_eq_of (xs ys:List Int) (hl:xs.length=ys.length) (h:∀ j,j < xs.length→xs.getD j 0=ys.getD j 0) : xs=ys:=by
 apply List.ext_getElem hl
 intro i h1 h2
 have:=h i h1
 simpa [List.getD_eq_getElem?_getD,h1,h2] using this
set_option maxHeartbeats 1000000 in
theorem equal_in (m:Nat) (u v:Value) (xs ys:List Int) (w:World) (hu:Ev.SlR 1 u xs.length (ints xs) w) (hv:Ev.SlR 1 v ys.length (ints ys) w) (hn:xs.length≤100000) :
  CallsIn Fence.wide m Tryz.prog 37 #[u,v] w fun e w'=>e=.returned (.bool (decide (xs=ys)))∧Below w.heap.size w w':=by
 refine callsIn_of_wp Tryz.func37 rfl trivial ?_ rfl
 simp only [Tryz.ntmps37,List.size_toArray,List.length_cons,List.length_nil,Nat.reduceAdd,Nat.reduceSub,Array.replicate_succ,Array.replicate_zero,List.push_toArray,List.append_toArray,List.nil_append,List.cons_append]
 obtain ⟨a,ca,rfl⟩:=slr_val hu
 obtain ⟨b,cb,rfl⟩:=slr_val hv
 by_cases hl:xs.length=ys.length
 ·have hlI:(xs.length:Int)=(ys.length:Int):=by omega
  gi_wp2
  gi_loopw [13] (fun p wr=>∃ k:Nat,p=.int .i64 (k:Int)∧k≤xs.length∧Below w.heap.size w wr∧∀ j,j < k→xs.getD j 0=ys.getD j 0) (fun p _=>xs.length - (intOf p).toNat)
  case atStart=>exact ⟨0,rfl,Nat.zero_le _,Below.refl _ _,fun j hj=>absurd hj (Nat.not_lt_zero _)⟩
  case round =>
   obtain ⟨k,rfl,hk,hB,heq⟩:=hrel
   have A:Aside (∀ j,j < k→xs.getD j 0=ys.getD j 0):=heq
   clear heq
   by_cases hlt:k < xs.length
   ·have hltI:(k:Int) < (xs.length:Int):=by omega
    obtain ⟨b1,o1,rfl,g1⟩:=slr_cell (slr_stay hu hB) hlt
    obtain ⟨b2,o2,rfl,g2⟩:=slr_cell (slr_stay hv hB) (by omega:k < ys.length)
    obtain ⟨x,hx⟩ : ∃ x,xs.getD k 0=x:=⟨_,rfl⟩
    obtain ⟨y,hy⟩ : ∃ y,ys.getD k 0=y:=⟨_,rfl⟩
    rw [hx] at g1
    rw [hy] at g2
    have hrI:(k:Int) < (ys.length:Int):=by omega
    gi_wp2
    refine wpIn_wide.2 ?_
    have hBd:Below w.heap.size w wr.drew:=hB.drew
    go_region_held3 (fun w'=>w'.cell? ⟨b1,o1+k,none⟩=some (.int .i64 x)∧w'.cell? ⟨b2,o2+k,none⟩=some (.int .i64 y)∧Below w.heap.size w w') ((exact ⟨g1,g2,hBd⟩)) ((first | (fail)))
    by_cases hxy:x=y
    ·subst hxy
     gi_wp2
     refine ⟨⟨k+1,rfl,by omega,hBd,fun j hj=>?_⟩,by simp [intOf]; omega⟩
     by_cases e:j=k
     ·subst e
      rw [hx,hy]
     ·exact A.out j (by omega)
    ·gi_wp2
     refine bodyPost_ret (results_tmp rfl _ _ _) rfl ⟨?_,hBd⟩
     have:¬ xs=ys:=fun e=>hxy (by rw [← hx,← hy,e])
     simp [this]
   ·obtain rfl:k=xs.length:=by omega
    have hltI:¬ ((xs.length:Nat) : Int) < (xs.length:Int):=by omega
    gi_wp2
    refine bodyPost_ret (results_tmp rfl _ _ _) rfl ⟨?_,hB⟩
    have:xs=ys:=list_eq_of xs ys hl A.out
    simp [this]
 ·have hlI:¬ (xs.length:Int)=(ys.length:Int):=by omega
  gi_wp2
  refine bodyPost_ret (results_tmp rfl _ _ _) rfl ⟨?_,Below.refl _ _⟩
  have:¬ xs=ys:=fun e=>hl (by rw [e])
  simp [this]
set_option maxHeartbeats 1000000 in
theorem grow_in (m:Nat) (n:Nat) (w:World) (hn:n≤1000000) :
  CallsIn Fence.wide m Tryz.prog 119 #[.slice none 0 0,.int .i64 (n:Int)] w fun e w'=>∃ v,e=.returned v∧w'.ownsRow w.heap.size 3 1 v 0 []∧Below w.heap.size w w':=by
 refine callsIn_of_wp Tryz.func119 rfl trivial ?_ rfl
 simp only [Tryz.ntmps119,List.size_toArray,List.length_cons,List.length_nil,Nat.reduceAdd,Nat.reduceSub,Array.replicate_succ,Array.replicate_zero,List.push_toArray,List.append_toArray,List.nil_append,List.cons_append]
 have h1:¬ ((n:Int) < 0):=by omega
 have h2:IntKind.i64.wrap ((0:Int) - 0)=0:=by decide
 have h3:IntKind.i64.wrap ((n:Int) - 0)=(n:Int):=wrap_ok (by omega) (by omega)
 obtain ⟨i0,hi,hz1,hz0,hz2⟩:=infInt
 by_cases h0:n=0
 ·subst h0
  have h4:¬ (((0:Nat) : Int) > 0):=by omega
  gi_wp2
  exact bodyPost_ret (results_tmp rfl _ _ _) rfl ⟨_,rfl,World.ownsRow_nil _ _ _ _,Below.refl _ _⟩
 ·have h4:(n:Int) > 0:=by omega
  have h5:((0:Nat)+n)=n:=Nat.zero_add n
  have hrz:∀ ty,(Builtin.append_ #[35,3] ty #[.slice none 0 0,.int .i64 (n:Int)]).run Tryz.prog w=.ok (.slice (some ⟨w.heap.size,0,none⟩) (0+n) (grownCap w (0+n) 0 3)) _:=fun ty=>Lib.run_append_grow_zeros w 35 3 ty 3 i0 (.int .i64 0) .i64 .i64 Tryz.underlying35 Tryz.underlying3 hi hz0 none 0 0 [] (run_firstCells_none w.drew i0.size 0 0 0) n (by omega) (by omega) (by omega) (by omega) (by rw [hz2]; omega) (growslice_fits (by omega) (by rw [hz2]; omega))
  have hG:=grownCap_ge w (0+n) 0 3
  obtain ⟨G,hGe⟩ : ∃ G,grownCap w (0+n) 0 3 = G:=⟨_,rfl⟩
  rw [hGe] at hrz hG
  simp only [h5] at hrz hG
  gi_wp2_with (gi_at_builtin; refine wpListIn_append_runT rfl _ _ _ rfl (hrz _) ?_)
  have hGm:G≤maxLen:=hGe ▸ grownCap_le_maxLen w (0+n) 0 3 (by unfold maxLen; omega)
  have hB:Below w.heap.size w (w.alloc (Obj.cells (Builtin.zeroCells #[Value.int .i64 0] n++Builtin.zeroCells #[Value.int .i64 0] (G - n)) 3)).drew:=((Below.refl _ w).alloc (Nat.le_refl _) _).drew
  refine bodyPost_ret (results_tmp rfl _ _ _) rfl ⟨_,rfl,⟨rfl,.inr ⟨w.heap.size,G,_,rfl,Nat.le_refl _,World.alloc_heap_new w _,Nat.zero_le _,hGm,?_,by simp⟩⟩,hB⟩
  rw [Array.size_append,size_zeroCells,size_zeroCells]
  simp
  omega
def cat (L:Nat→List Int) (n:Nat) : List Int:=((List.range n).map L).flatten
theorem cat_succ (L:Nat→List Int) (n:Nat) : cat L (n+1)=cat L n++L n:=by
 unfold cat
 rw [List.range_succ,List.map_append,List.flatten_append]
 simp
theorem below_own {w w0 w':World} {base:Nat} {e:TypeId} {sz n:Nat} {v:Value} {xs:List Value} (hr:w.ownsRow base e sz v n xs) (h:Below base w0 w) (hb:base≤w.heap.size) (hg:w.grownBy w' v.ownBlock) : Below base w0 w' :=
 h.grown hg hb (fun k hk=>by
  rcases hr.2 with ⟨rfl,_⟩ | ⟨g,cap,cur,rfl,h1,_⟩
  ·cases hk
  ·cases hk
   exact h1)
set_option maxHeartbeats 2000000 in
theorem concat_in (m:Nat) (b n:Nat) (u:Nat→Value) (L:Nat→List Int) (w:World) (hn:n≤100) (hc:∀ k,k < n→w.cell? ⟨b,k,none⟩=some (u k)) (hs:∀ k,k < n→Ev.SlR 1 (u k) (L k).length (ints (L k)) w∧(L k).length≤1000) (hb:b < w.heap.size) :
  CallsIn Fence.wide m Tryz.prog 116 #[.slice (some ⟨b,0,none⟩) n n] w fun e w'=>∃ v,e=.returned v∧w'.ownsRow w.heap.size 3 1 v (cat L n).length (ints (cat L n))∧Below w.heap.size w w':=by
 refine callsIn_of_wp Tryz.func116 rfl trivial ?_ rfl
 simp only [Tryz.ntmps116,List.size_toArray,List.length_cons,List.length_nil,Nat.reduceAdd,Nat.reduceSub,Array.replicate_succ,Array.replicate_zero,List.push_toArray,List.append_toArray,List.nil_append,List.cons_append]
 have hlen:∀ k,k≤n→(cat L k).length≤k * 1000:=by
  intro k
  induction k with
  | zero=>intro _; simp [cat]
  | succ k ih =>
   intro h
   rw [cat_succ,List.length_append]
   have:=ih (by omega)
   have:=(hs k (by omega)).2
   omega
 have A:Aside ((∀ k,k < n→w.cell? ⟨b,k,none⟩=some (u k))∧(∀ k,k < n→Ev.SlR 1 (u k) (L k).length (ints (L k)) w∧(L k).length≤1000)∧(∀ k,k≤n→(cat L k).length≤k * 1000)):=⟨hc,hs,hlen⟩
 clear hc hs hlen
 gi_wp2
 gi_loopw [3,11] (fun q p wr=>∃ k:Nat,p=.int .i64 (k:Int)∧q=.int .i64 ((cat L k).length:Int)∧k≤n∧wr=w) (fun _ p _=>n - (intOf p).toNat)
 case atStart=>exact ⟨0,rfl,rfl,Nat.zero_le _,by first | rfl | trivial⟩
 case round =>
  obtain ⟨k,rfl,rfl,hk,hW⟩:=hrel
  replace hW:=hW.symm
  subst hW
  by_cases hlt:k < n
  ·have hlI:(k:Int) < (n:Int):=by omega
   have hck:=A.out.1 k hlt
   obtain ⟨hsk,hlk⟩:=A.out.2.1 k hlt
   obtain ⟨a,ca,hua⟩:=slr_val hsk
   rw [hua] at hck
   have hcl:=A.out.2.2 k hk
   have e1:IntKind.i64.wrap (((cat L k).length:Int)+((L k).length:Int))=((cat L (k+1)).length:Int):=by
    rw [cat_succ,List.length_append,wrap_ok (by omega) (by omega)]
    omega
   have e2:¬ ((cat L (k+1)).length:Int) < 0:=by omega
   gi_wp2
   exact ⟨⟨k+1,rfl,rfl,by omega,by first | rfl | trivial⟩,by simp [intOf]; omega⟩
  ·obtain rfl:k=n:=by omega
   have hlI:¬ ((k:Nat) : Int) < (k:Int):=by omega
   have hcl:=A.out.2.2 k (Nat.le_refl _)
   gi_wp2
   refine ⟨trivial,fun h=>by simp [Fence.wide] at h,(grow_in (m - 1) (cat L k).length w (by omega)).mono ?_⟩
   rintro e w1 ⟨v1,rfl,o1,b1⟩
   gi_wp2
   gi_loopw [6,27] (fun q p wr=>∃ j:Nat,p=.int .i64 (j:Int)∧j≤k∧wr.ownsRow w.heap.size 3 1 q (cat L j).length (ints (cat L j))∧Below w.heap.size w wr) (fun _ p _=>k - (intOf p).toNat)
   case atStart=>exact ⟨0,rfl,Nat.zero_le _,o1,b1⟩
   case round =>
    obtain ⟨j,rfl,hj,ho,hB⟩:=hrel
    by_cases hlt:j < k
    ·have hlI:(j:Int) < (k:Int):=by omega
     have hck:=A.out.1 j hlt
     obtain ⟨hsk,hlk⟩:=A.out.2.1 j hlt
     obtain ⟨a,ca,hua⟩:=slr_val hsk
     rw [hua] at hck hsk
     have hck':wr.cell? ⟨b,j,none⟩=some (.slice a (L j).length ca):=(hB.cell (p:=⟨b,j,none⟩) hb).trans hck
     have hcl:=A.out.2.2 j (by omega)
     obtain ⟨i0,hi,hz1,hz0,hz2⟩:=infInt
     have hbs:=hB.size
     obtain ⟨v',w2,q1,q2,q3⟩:=app_slr 35 35 3 Tryz.underlying35 hi hz0 hz1 hz2 rfl (by decide) ho (slr_stay hsk hB) (one_ints (L j)) (by unfold maxLen; omega) (by omega) hbs
     gi_wp2_with (gi_at_builtin; refine wpListIn_append_run rfl _ _ _ rfl q1 ?_)
     refine ⟨⟨j+1,rfl,by omega,?_,below_own ho hB hbs q3⟩,by simp [intOf]; omega⟩
     rw [cat_succ,List.length_append]
     simpa [ints] using q2
    ·obtain rfl:j=k:=by omega
     have hlI:¬ ((j:Nat) : Int) < (j:Int):=by omega
     gi_wp2
     refine bodyPost_ret (results_tmp rfl _ _ _) rfl ⟨_,rfl,?_,?_⟩
     ·exact ho
     ·exact hB
def placesW (x:Int) : List Int:=if 65536 < szW x then [] else (List.range (szW x).toNat).map (fun i:Nat=>(hdW x+(i:Int)) % 4294967296)
def u32s (xs:List Int) : List Value:=xs.map (Value.int .u32)
theorem infU32:∃ i,Tryz.prog.info? 95 = some i∧i.size=1∧i.zero=some (.int .u32 0)∧i.bytes=4:=info_z (by kernel_rfl)
set_option maxHeartbeats 2000000 in
theorem places_in (m:Nat) (x:Int) (hx:U64 x) (w:World) :
  CallsIn Fence.wide m Tryz.prog 41 #[.int .u64 x,.int .u32 0,.int .u32 (szW x)] w fun e w'=>∃ v,e=.returned v∧w'.ownsRow w.heap.size 95 1 v (placesW x).length (u32s (placesW x))∧Below w.heap.size w w':=by
 refine callsIn_of_wp Tryz.func41 rfl trivial ?_ rfl
 simp only [Tryz.ntmps41,List.size_toArray,List.length_cons,List.length_nil,Nat.reduceAdd,Nat.reduceSub,Array.replicate_succ,Array.replicate_zero,List.push_toArray,List.append_toArray,List.nil_append,List.cons_append]
 have hbd:=szW_bd x
 have hhb:=hdW_bd hx
 gi_wp2
 refine ⟨trivial,fun h=>by simp [Fence.wide] at h,(callsIn_wide.2 (wLen x hx w)).mono ?_⟩
 rintro e _ ⟨rfl,rfl⟩
 by_cases hbig:65536 < szW x
 ·have e0:placesW x=[]:=by simp [placesW,hbig]
  have hb2:szW x > 65536:=hbig
  gi_wp2
  refine bodyPost_ret (results_tmp rfl _ _ _) rfl ⟨_,rfl,?_,Below.refl _ _⟩
  rw [e0]
  exact World.ownsRow_nil _ _ _ _
 ·have hb2:¬ szW x > 65536:=hbig
  obtain ⟨n,hn⟩ : ∃ n:Nat,szW x=(n:Int):=⟨(szW x).toNat,by omega⟩
  have e0:placesW x=(List.range n).map (fun i:Nat=>(hdW x+(i:Int)) % 4294967296):=by unfold placesW; rw [if_neg hbig,hn]; rfl
  rw [hn] at hb2 ⊢
  by_cases hz:n=0
  ·subst hz
   have h00:(0:Int) ≥ ((0:Nat) : Int):=by omega
   gi_wp2
   refine bodyPost_ret (results_tmp rfl _ _ _) rfl ⟨_,rfl,?_,Below.refl _ _⟩
   rw [e0]
   exact World.ownsRow_nil _ _ _ _
  ·have h00:¬ (0:Int) ≥ (n:Int):=by omega
   have e1:IntKind.u32.wrap ((n:Int) - 0)=(n:Int):=by rw [wrap32]; omega
   have e2:min (n:Int) (n:Int)=(n:Int):=by omega
   gi_wp2
   gi_loopw [6,23] (fun q p wr=>∃ k:Nat,p=.int .u32 (k:Int)∧k≤n∧wr.ownsRow w.heap.size 95 1 q k (u32s ((List.range k).map (fun i:Nat=>(hdW x+(i:Int)) % 4294967296)))∧Below w.heap.size w wr) (fun _ p _=>n - (intOf p).toNat)
   case atStart=>exact ⟨0,rfl,Nat.zero_le _,World.ownsRow_nil _ _ _ _,Below.refl _ _⟩
   case round =>
    obtain ⟨k,rfl,hk,ho,hB⟩:=hrel
    by_cases hlt:k < n
    ·have hlI:(k:Int) < (n:Int):=by omega
     have e3:IntKind.u32.wrap (hdW x+0)=hdW x:=by rw [wrap32]; omega
     have e4:IntKind.u32.wrap (hdW x+(k:Int))=(hdW x+(k:Int)) % 4294967296:=wrap32 _
     have e5:IntKind.u32.wrap ((k:Int)+1)=((k+1:Nat) : Int):=by rw [wrap32]; omega
     gi_wp2
     refine ⟨trivial,fun h=>by simp [Fence.wide] at h,(callsIn_wide.2 (wHead x hx wr)).mono ?_⟩
     rintro e w3 ⟨rfl,rfl⟩
     obtain ⟨i0,hi,hz1,hz0,hz2⟩:=infU32
     obtain ⟨g,hg⟩ : ∃ g,(hdW x+(k:Int)) % 4294967296=g:=⟨_,rfl⟩
     rw [hg] at e4
     obtain ⟨W4,hW4⟩ : ∃ W4,wr.alloc (.cells #[.int .u32 g] 95)=W4:=⟨_,rfl⟩
     have hB4:Below w.heap.size w W4:=by rw [← hW4]; exact hB.alloc hB.size _
     have hsr:Ev.SlR 1 (.slice (some ⟨wr.heap.size,0,none⟩) 1 1) 1 [.int .u32 g] W4:=⟨rfl,.inr ⟨_,0,1,rfl,⟨by rw [← hW4]; simp,Nat.le_refl _⟩,fun j hj=>by
      obtain rfl:j=0:=by omega
      rw [← hW4]
      exact cell_of (World.alloc_heap_new wr _) 0 _ rfl⟩⟩
     have ho4:=ho.alloc (.cells #[.int .u32 g] 95)
     rw [hW4] at ho4
     obtain ⟨v',w2,q1,q2,q3⟩:=app_slr 93 93 95 Tryz.underlying93 hi hz0 hz1 hz2 rfl (by decide) ho4 hsr (by simp [Value.oneCell']) (by unfold maxLen; omega) (by omega) hB4.size
     gi_wp2_with (gi_at_builtin; refine wpListIn_append_run rfl _ _ _ rfl q1 ?_)
     refine ⟨⟨k+1,rfl,by omega,?_,below_own ho4 hB4 hB4.size q3⟩,by simp [intOf]; omega⟩
     rw [List.range_succ,List.map_append]
     simpa [u32s,hg] using q2
    ·obtain rfl:k=n:=by omega
     have hlI:¬ ((k:Nat) : Int) < (k:Int):=by omega
     gi_wp2
     refine bodyPost_ret (results_tmp rfl _ _ _) rfl ⟨_,rfl,?_,hB⟩
     exact ho
end Go.Proofs.YtkmccgombmogmaaGreat
