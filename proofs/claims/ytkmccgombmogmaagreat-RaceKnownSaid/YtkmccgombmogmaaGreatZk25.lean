/- Part of a proof: see the last text. -/
import Derived.Test.YtkmccgombmogmaaGreatZk24
namespace Go.Proofs.YtkmccgombmogmaaGreat
open Go.RowKit
open Go.Ev (iz uz iN)
set_option linter.unusedVariables false
set_option linter.unusedSimpArgs false
set_option maxRecDepth 8000
section
variable {ctx:Ev.Ctx} {w:World} {r:List Ev.Asr} {c:Cfg}
def own0:OwR:=⟨0,0,0,(oZ.drop 3).take 12,(oZ.drop 15).take 13,(oZ.drop 28).take 24,.slice none 0 0,.slice none 0 0,.slice none 0 0,.slice none 0 0,.slice none 0 0⟩
def rowZ (c:Cfg) : List Value:=oZ.set 52 (iN c.q)
theorem dqAll_new (c:Cfg) : dqAll c (newDq c)=[]:=by
 have h:=dqAll_len (newDq_ok c)
 have e:szW (newDq c).w=0:=show szW 0=0 by decide
 rw [e] at h
 exact List.eq_nil_of_length_eq_zero (by omega)
theorem fam_new {q:Nat} (hq:q < c.n) : fam c (newRace c) (fun _=>own0) q=[isA (.slice none 0 0) []]:=by
 have e:(newRace c).ow[q]? = some (newOwn c):=by simp [newRace,hq]
 unfold fam
 rw [e]
 show isA _ (dqAll c (newDq c))::_=_
 rw [dqAll_new]
 rfl
theorem fams_new (l:List Nat) (hl:∀ q ∈ l,q < c.n) (h:Ev.Hold ctx r w) : Ev.Hold ctx (l.flatMap (fam c (newRace c) (fun _=>own0))++r) w:=by
 induction l with
 | nil=>exact h
 | cons q l ih =>
  rw [List.flatMap_cons,fam_new (hl q (List.mem_cons_self ..))]
  exact (ih (fun q' hq'=>hl q' (List.mem_cons_of_mem _ hq'))).nilSl (e := 3) (sz:=1)
theorem own0_ok (p:Nat) : own0.Ok c p none:=⟨rfl,rfl,rfl,by
 intro y hy
 simp only [own0,List.drop,List.take,List.mem_append,List.mem_cons,List.not_mem_nil,or_false] at hy
 have e:y.oneCell'=true:=by
  rcases hy with h | h | h
  all_goals
   repeat' (first | (rcases h with rfl | h) | (subst h))
   all_goals rfl
 exact e,rfl,rfl⟩
theorem refOk_new:RefOk c (newRace c) (fun _=>own0):=by
 intro q o ho
 have e:o=newOwn c:=by
  have h1:=List.mem_of_getElem? ho
  exact (List.mem_replicate.1 h1).2
 subst e
 exact own0_ok q
set_option maxHeartbeats 4000000 in
theorem new12 (m:Nat) (h:Ev.Hold ctx r w) :
  CallsIn Fence.wide m Tryz.prog 22 #[c.v] w fun e w'=>∃ lv rv,e=.returned (.agg (rV c rv 0 lv 0).toArray)∧Ev.Hold ctx (refL c (newRace c) (fun _=>own0) lv rv++r) w':=by
 refine callsIn_of_wp Tryz.func22 rfl trivial ?_ rfl
 simp only [Tryz.ntmps22,List.size_toArray,List.length_cons,List.length_nil,Nat.reduceAdd,Nat.reduceSub,Array.replicate_succ,Array.replicate_zero,List.push_toArray,List.append_toArray,List.nil_append,List.cons_append]
 have hnb:=c.nb
 have hqb:=c.qb
 have hom:=c.off_max
 obtain ⟨b1,hb1⟩ : ∃ b1,w.heap.size=b1:=⟨_,rfl⟩
 have g1:=hold_new (cfL c) 49 h
 obtain ⟨W1,hW1⟩ : ∃ W1,w.alloc (.cells (cfL c).toArray 49)=W1:=⟨_,rfl⟩
 rw [hb1,hW1] at g1
 obtain ⟨b2,hb2⟩ : ∃ b2,W1.heap.size=b2:=⟨_,rfl⟩
 have g2:=hold_new rZ 56 g1
 obtain ⟨W2,hW2⟩ : ∃ W2,W1.alloc (.cells #[.int .i64 0,.int .i64 0,.int .i64 0,.int .i64 0,.int .i64 0,.int .i64 0,.slice none 0 0,.int .u64 0,.slice none 0 0,.int .i64 0] 56)=W2:=⟨_,rfl⟩
 rw [hb2,show W1.alloc (.cells rZ.toArray 56)=W2 from hW2] at g2
 have hcs:∀ (r':List Ev.Asr) (w':World),Ev.Hold ctx (Ev.blkA b1 (cfL c) 49 :: r') w'→w'.cell? ⟨b1,0,none⟩=some (.int .i64 (c.n:Int))∧w'.cell? ⟨b1,1,none⟩=some (.int .i64 (c.q:Int))∧w'.cell? ⟨b1,2,none⟩=some (.int .i64 c.g)∧w'.cell? ⟨b1,3,none⟩=some (.int .i64 c.m)∧w'.cell? ⟨b1,4,none⟩=some (.int .i64 c.t)∧w'.cell? ⟨b1,5,none⟩=some (.int .i64 c.s):=by
  intro r' w' hh
  have hb:=hold_blk hh
  exact ⟨cell_of hb 0 _ rfl,cell_of hb 1 _ rfl,cell_of hb 2 _ rfl,cell_of hb 3 _ rfl,cell_of hb 4 _ rfl,cell_of hb 5 _ rfl⟩
 have e4:IntKind.i64.wrap (4+IntKind.i64.wrap ((c.n:Int) * IntKind.i64.wrap (6+(c.q:Int))))=((c.cells:Nat) : Int):=by
  have h0:c.off c.n=c.n * (6+c.q):=rfl
  have h1:(c.n:Int) * (6+(c.q:Int))=((c.off c.n:Nat) : Int):=by rw [h0,Int.natCast_mul,Int.natCast_add]; rfl
  have h2:((c.cells:Nat) : Int)=4+((c.off c.n:Nat) : Int):=by unfold Cfg.cells; omega
  rw [wrap_ok (n:=6+(c.q:Int)) (by omega) (by omega),h1,h2]
  clear h0 h1 h2
  generalize c.off c.n=F at hom
  rw [wrap_ok (n:=(F:Int)) (by omega) (by omega),wrap_ok (by omega) (by omega)]
 have hcl:c.cells≤65536:=by unfold Cfg.cells; omega
 have hS:∀ (r':List Ev.Asr) (w':World),Ev.Hold ctx (Ev.blkA b1 (cfL c) 49 :: r') w'→w'.cell? ⟨b1,0,none⟩=some (.int .i64 (c.n:Int))∧w'.cell? ⟨b1,1,none⟩=some (.int .i64 (c.q:Int))∧w'.cell? ⟨b1,2,none⟩=some (.int .i64 c.g)∧w'.cell? ⟨b1,3,none⟩=some (.int .i64 c.m)∧w'.cell? ⟨b1,4,none⟩=some (.int .i64 c.t)∧w'.cell? ⟨b1,5,none⟩=some (.int .i64 c.s):=hcs
 have gA:=hold_keep (hold_up [_] g2) ((Below.refl _ W2).drew)
 gi_upto_region 1 with fail
 rename_i K1 a1
 have hK1:∀ (wX:World) (bx:Nat) (s0:Option Addr) (t0:Nat) {z5 z6 z7 z8 z9 z10 z11 z12 z13 z14:Value},Ev.Hold ctx (Ev.blkA bx (rV c (.slice s0 c.cells t0) 0 (.slice none 0 0) 0) 56 :: cA (.slice s0 c.cells t0) ⟨List.replicate c.cells 0,0⟩::Ev.blkA b1 (cfL c) 49 :: Ev.blkA b2 rZ 56 :: r) wX→K1 { tmps:=#[c.v,.pointer (some ⟨b1,0,none⟩),.pointer (some ⟨b2,0,none⟩),.pointer (some ⟨bx,0,none⟩),undef,z5,z6,z7,z8,z9,z10,z11,z12,z13,z14,undef,undef,undef,undef,undef,undef,undef,undef,undef,undef,undef,undef,undef,undef,undef,undef],defers:=[] } wX:=by
  intro wX bx s0 t0 z5 z6 z7 z8 z9 z10 z11 z12 z13 z14 gX
  refine a1 _ _ ?_
  clear a1 gA g2 g1 hW1 hW2 hb1 hb2 e4 h hcs
  have hcs:∀ (r':List Ev.Asr) (w':World),Ev.Hold ctx (Ev.blkA b1 (cfL c) 49 :: r') w'→w'.cell? ⟨b1,0,none⟩=some (.int .i64 (c.n:Int))∧w'.cell? ⟨b1,1,none⟩=some (.int .i64 (c.q:Int)):=fun r' w' hh=>⟨(hS _ _ hh).1,(hS _ _ hh).2.1⟩
  clear hS
  have g0:Ev.Hold ctx (Ev.slA 114 54 (.slice none 0 0) 0 ((List.range 0).flatMap (fun _=>rowZ c))::Ev.blkA bx (rV c (.slice s0 c.cells t0) 0 (.slice none 0 0) 0) 56 :: cA (.slice s0 c.cells t0) ⟨List.replicate c.cells 0,0⟩::Ev.blkA b1 (cfL c) 49 :: Ev.blkA b2 rZ 56 :: r) wX:=gX.nilSl (e := 114) (sz:=54)
  gi_wp2
  gi_loopw [4] (fun q wr=>∃ (k:Nat) (a:Option Addr) (cc:Nat),q=.int .i64 (k:Int)∧k≤c.n∧Ev.Off0 (.slice a k cc)∧Ev.Hold ctx (Ev.slA 114 54 (.slice a k cc) k ((List.range k).flatMap (fun _=>rowZ c))::Ev.blkA bx (rV c (.slice s0 c.cells t0) 0 (.slice a k cc) 0) 56 :: cA (.slice s0 c.cells t0) ⟨List.replicate c.cells 0,0⟩::Ev.blkA b1 (cfL c) 49 :: Ev.blkA b2 rZ 56 :: r) wr) (fun q _=>c.n - (intOf q).toNat)
  case atStart=>exact ⟨0,none,0,rfl,Nat.zero_le _,.inl rfl,g0⟩
  case round =>
   obtain ⟨k,a,cc,rfl,hk,ho0,hH⟩:=hrel
   obtain ⟨d0,d1⟩:=hcs _ _ (hold_up [_,_,_] hH)
   by_cases hlt:k < c.n
   ·have hlI:(k:Int) < (c.n:Int):=by omega
    obtain ⟨io,zo,hi,hz7,hz,hzz,hby⟩:=infOw
    have hD:=hold_keep hH ((Below.refl _ wr).drew)
    have hS2:∀ (l0 l1:Ev.Asr) (v:Value) (r':List Ev.Asr) (w':World),Ev.Hold ctx (l0::Ev.blkA bx (rV c (.slice s0 c.cells t0) 0 v 0) 56 :: l1::Ev.blkA b1 (cfL c) 49 :: r') w'→w'.cell? ⟨bx,8,none⟩=some v∧w'.frozen? ⟨bx,8,none⟩=false∧w'.cell? ⟨b1,1,none⟩=some (.int .i64 (c.q:Int)):=fun l0 l1 v r' w' hh=>⟨cell_of (hold_blk (hold_up [_] hh)) 8 _ rfl,froz_of (hold_blk (hold_up [_] hh)) 8,(hcs _ _ (hold_up [_,_,_] hh)).2⟩
    have y0:=(hS2 _ _ _ _ _ hD).1
    gi_wp2
    refine wpIn_wide.2 ?_
    refine wp_region_noPanic ?_
    refine wp_region_held_drew (S:=(fun w'=>w'.cell? ⟨b1,1,none⟩=some (.int .i64 (c.q:Int)))) (by kernel_rfl) ?_ (fun hHeld=>?_)
    ·(try dsimp only) <;> ((first | with_reducible exact (hS2 _ _ _ _ _ hD).2.2 | with_reducible exact (hS2 _ _ _ _ _ g6).2.2 | with_reducible exact (hS2 _ _ _ _ _ q2).2.2 | with_reducible exact y4 | with_reducible exact (hS2 _ _ _ _ _ g7).2.2 | fail))
    refine wpAnyH_take (i:=0) (v:=?_) rfl (by kernel_rfl) (by kernel_rfl) (by kernel_rfl) (fun _ _ _ h=>h) (Or.inl ⟨by kernel_rfl,?_⟩) (by assumption) ?_
    rotate_left
    ·intro w hSw; (try dsimp only at hSw); go_simp; try with_reducible rfl
    try simp only [Act.put,List.setIfInBounds_toArray,List.set_cons_zero,List.set_cons_succ]
    refine wpAnyH_take (i:=2) (v:=?_) rfl (by kernel_rfl) (by kernel_rfl) (by kernel_rfl) (fun _ _ _ h=>h) (Or.inl ⟨by kernel_rfl,?_⟩) (by assumption) ?_
    rotate_left
    ·intro w hSw; (try dsimp only at hSw); go_simp; try with_reducible rfl
    try simp only [Act.put,List.setIfInBounds_toArray,List.set_cons_zero,List.set_cons_succ]
    refine wpAnyH_take (i:=3) (v:=?_) rfl (by kernel_rfl) (by kernel_rfl) (by kernel_rfl) (fun _ _ _ h=>h) (Or.inl ⟨by kernel_rfl,?_⟩) (by assumption) ?_
    rotate_left
    ·intro w hSw; (try dsimp only at hSw); go_simp; try with_reducible rfl
    try simp only [Act.put,List.setIfInBounds_toArray,List.set_cons_zero,List.set_cons_succ]
    refine wpAnyH_ready (rs:=[1,4]) (by kernel_rfl) (by simp) ?_
    refine AllReadyH.cons rfl (fun K hK=>?_) ?_
    focus
     go_simp
     refine hK.out _ _ ?_ (fun hHeld=>?_)
     ·(try dsimp only) <;> ((first | with_reducible exact (hS2 _ _ _ _ _ hD).2.2 | with_reducible exact (hS2 _ _ _ _ _ g6).2.2 | with_reducible exact (hS2 _ _ _ _ _ q2).2.2 | with_reducible exact y4 | with_reducible exact (hS2 _ _ _ _ _ g7).2.2 | fail))
     clear hK K
     try simp only [Act.put,List.setIfInBounds_toArray,List.set_cons_zero,List.set_cons_succ]
     refine wpAnyH_ready (rs:=[4]) (by kernel_rfl) (by simp) ?_
     refine AllReadyH.cons rfl (fun K hK=>?_) AllReadyH.nil
     go_simp
     (((first
     | (go_at_call 47; have hcon:=callsIn_wide.1 (new08 0 c.q (by omega) hD); (with_reducible refine hcon.mono ?_); clear hcon; rintro e w6 ⟨rfl,g6⟩; have y1:=(hS2 _ _ _ _ _ g6).1; obtain ⟨W7,hW7⟩ : ∃ W7,w6.alloc (.cells #[.int .i64 0,.int .i64 0,.int .i64 0,.int .i64 0,.int .i64 0,.int .i64 0,.int .i64 0,.int .i64 0,.int .i64 0,.int .i64 0,.int .i64 0,.int .i64 0,.int .u64 0,.slice none 0 0,.slice none 0 0,.int .i64 0,.int .i64 0,.int .i64 0,.int .i64 0,.int .i64 0,.int .i64 0,.int .i64 0,.int .i64 0,.int .u64 0,.int .i64 0,.int .i64 0,.bool false,.int .i64 0,.int .i64 0,.int .i64 0,.int .i64 0,.int .i64 0,.int .i64 0,.int .i64 0,.int .i64 0,.int .i64 0,.int .i64 0,.int .u64 0,.slice none 0 0,.int .i64 0,.int .i64 0,.int .i64 0,.int .i64 0,.int .i64 0,.int .i64 0,.int .i64 0,.int .i64 0,.slice none 0 0,.int .i64 0,.int .u64 0,.int .i64 0,.int .i64 0,.int .i64 (c.q:Int),.slice none 0 0] 114)=W7:=⟨_,rfl⟩; have g7:=hold_keep g6 (w':=W7) (by rw [← hW7]; exact (Below.refl _ w6).alloc (Nat.le_refl _) _); have y5:=(hS2 _ _ _ _ _ g7).1; have bk7:W7.heap[w6.heap.size]? = some (Obj.cells (rowZ c).toArray 114 (0,0)):=by rw [← hW7]; exact World.alloc_heap_new w6 _)
     | (obtain ⟨v',w8,q1,q2,q3⟩:=(show Ev.Hold ctx (Ev.slA 114 io.size (.slice a k cc) k ((List.range k).flatMap (fun _=>rowZ c))::_) _ by rw [hz7]; exact g7).app0 (t := 54) (u := 54) (ty := 54) Tryz.underlying54 hi hz (hzz.trans hz7.symm) (show Src Tryz.prog io.size 54 (.slice (some ⟨w6.heap.size,0,none⟩) 1 1) 1 (rowZ c) _ from Src.ofSlice _ Tryz.underlying54 ⟨w6.heap.size,0,none⟩ 1 1 _ (by rw [hz7]; rfl) (fun j y hj=>by rw [Ev.addMk,Nat.zero_add]; exact cell_of bk7 j y (by rw [List.getElem?_toArray]; exact hj)) (own0_ok (c:=c) 0).ones) (by have:=Nat.mul_le_mul (show k+1≤8 by omega) hby; omega) (by omega) ho0; obtain ⟨a',cc',rfl⟩:=slr_val (hold_slr q2); have g9:=hold_set 8 (.slice a' (k+1) cc') (hold_swap q2); obtain ⟨y2,y3,_⟩:=hS2 _ _ _ _ _ q2; have y4:=(hcs _ _ (hold_up [_,_,_] g9)).2; first | (rw [if_pos (by rfl)]; refine wp_append_run _ _ _ rfl q1 ?_) | (refine wp_append_run _ _ _ rfl q1 ?_)))))
     first | refine hK.out _ _ ?_ (fun hHeld=>?_) | (go_wp2_with fail; refine hK.out _ _ ?_ (fun hHeld=>?_))
     ·(try dsimp only) <;> ((first | with_reducible exact (hS2 _ _ _ _ _ hD).2.2 | with_reducible exact (hS2 _ _ _ _ _ g6).2.2 | with_reducible exact (hS2 _ _ _ _ _ q2).2.2 | with_reducible exact y4 | with_reducible exact (hS2 _ _ _ _ _ g7).2.2 | fail))
     clear hK K
     try simp only [Act.put,List.setIfInBounds_toArray,List.set_cons_zero,List.set_cons_succ]
     refine wpAnyH_take (i:=5) (v:=?_) rfl (by kernel_rfl) (by kernel_rfl) (by kernel_rfl) (fun _ _ _ h=>h) (Or.inl ⟨by kernel_rfl,?_⟩) (by assumption) ?_
     rotate_left
     ·intro w hSw; (try dsimp only at hSw); go_simp; try with_reducible rfl
     try simp only [Act.put,List.setIfInBounds_toArray,List.set_cons_zero,List.set_cons_succ]
     refine wpAnyH_ready (rs:=[6]) (by kernel_rfl) (by simp) ?_
     refine AllReadyH.cons rfl (fun K hK=>?_) AllReadyH.nil
     go_simp
     refine hK.out _ _ ?_ (fun hHeld=>?_)
     ·(try dsimp only) <;> ((first | with_reducible exact (hS2 _ _ _ _ _ hD).2.2 | with_reducible exact (hS2 _ _ _ _ _ g6).2.2 | with_reducible exact (hS2 _ _ _ _ _ q2).2.2 | with_reducible exact y4 | with_reducible exact (hS2 _ _ _ _ _ g7).2.2 | fail))
     clear hK K
     try simp only [Act.put,List.setIfInBounds_toArray,List.set_cons_zero,List.set_cons_succ]
     refine wpAnyH_ready (rs:=[7]) (by kernel_rfl) (by simp) ?_
     refine AllReadyH.cons rfl (fun K hK=>?_) AllReadyH.nil
     (((first
     | (go_at_call 47; have hcon:=callsIn_wide.1 (new08 0 c.q (by omega) hD); (with_reducible refine hcon.mono ?_); clear hcon; rintro e w6 ⟨rfl,g6⟩; have y1:=(hS2 _ _ _ _ _ g6).1; obtain ⟨W7,hW7⟩ : ∃ W7,w6.alloc (.cells #[.int .i64 0,.int .i64 0,.int .i64 0,.int .i64 0,.int .i64 0,.int .i64 0,.int .i64 0,.int .i64 0,.int .i64 0,.int .i64 0,.int .i64 0,.int .i64 0,.int .u64 0,.slice none 0 0,.slice none 0 0,.int .i64 0,.int .i64 0,.int .i64 0,.int .i64 0,.int .i64 0,.int .i64 0,.int .i64 0,.int .i64 0,.int .u64 0,.int .i64 0,.int .i64 0,.bool false,.int .i64 0,.int .i64 0,.int .i64 0,.int .i64 0,.int .i64 0,.int .i64 0,.int .i64 0,.int .i64 0,.int .i64 0,.int .i64 0,.int .u64 0,.slice none 0 0,.int .i64 0,.int .i64 0,.int .i64 0,.int .i64 0,.int .i64 0,.int .i64 0,.int .i64 0,.int .i64 0,.slice none 0 0,.int .i64 0,.int .u64 0,.int .i64 0,.int .i64 0,.int .i64 (c.q:Int),.slice none 0 0] 114)=W7:=⟨_,rfl⟩; have g7:=hold_keep g6 (w':=W7) (by rw [← hW7]; exact (Below.refl _ w6).alloc (Nat.le_refl _) _); have y5:=(hS2 _ _ _ _ _ g7).1; have bk7:W7.heap[w6.heap.size]? = some (Obj.cells (rowZ c).toArray 114 (0,0)):=by rw [← hW7]; exact World.alloc_heap_new w6 _)
     | (obtain ⟨v',w8,q1,q2,q3⟩:=(show Ev.Hold ctx (Ev.slA 114 io.size (.slice a k cc) k ((List.range k).flatMap (fun _=>rowZ c))::_) _ by rw [hz7]; exact g7).app0 (t := 54) (u := 54) (ty := 54) Tryz.underlying54 hi hz (hzz.trans hz7.symm) (show Src Tryz.prog io.size 54 (.slice (some ⟨w6.heap.size,0,none⟩) 1 1) 1 (rowZ c) _ from Src.ofSlice _ Tryz.underlying54 ⟨w6.heap.size,0,none⟩ 1 1 _ (by rw [hz7]; rfl) (fun j y hj=>by rw [Ev.addMk,Nat.zero_add]; exact cell_of bk7 j y (by rw [List.getElem?_toArray]; exact hj)) (own0_ok (c:=c) 0).ones) (by have:=Nat.mul_le_mul (show k+1≤8 by omega) hby; omega) (by omega) ho0; obtain ⟨a',cc',rfl⟩:=slr_val (hold_slr q2); have g9:=hold_set 8 (.slice a' (k+1) cc') (hold_swap q2); obtain ⟨y2,y3,_⟩:=hS2 _ _ _ _ _ q2; have y4:=(hcs _ _ (hold_up [_,_,_] g9)).2; first | (rw [if_pos (by rfl)]; refine wp_append_run _ _ _ rfl q1 ?_) | (refine wp_append_run _ _ _ rfl q1 ?_)))))
     first | refine hK.out _ _ ?_ (fun hHeld=>?_) | (go_wp2_with fail; refine hK.out _ _ ?_ (fun hHeld=>?_))
     ·(try dsimp only) <;> ((first | with_reducible exact (hS2 _ _ _ _ _ hD).2.2 | with_reducible exact (hS2 _ _ _ _ _ g6).2.2 | with_reducible exact (hS2 _ _ _ _ _ q2).2.2 | with_reducible exact y4 | with_reducible exact (hS2 _ _ _ _ _ g7).2.2 | fail))
     clear hK K
     try simp only [Act.put,List.setIfInBounds_toArray,List.set_cons_zero,List.set_cons_succ]
     refine wpAnyH_take (i:=8) (v:=?_) rfl (by kernel_rfl) (by kernel_rfl) (by kernel_rfl) (fun _ _ _ h=>h) (Or.inl ⟨by kernel_rfl,?_⟩) (by assumption) ?_
     rotate_left
     ·intro w hSw; (try dsimp only at hSw); go_simp; try with_reducible rfl
     try simp only [Act.put,List.setIfInBounds_toArray,List.set_cons_zero,List.set_cons_succ]
     refine wpAnyH_ready (rs:=[9]) (by kernel_rfl) (by simp) ?_
     refine AllReadyH.cons rfl (fun K hK=>?_) AllReadyH.nil
     go_simp
     refine hK.out _ _ ?_ (fun hHeld=>?_)
     ·(try dsimp only) <;> ((first | with_reducible exact (hS2 _ _ _ _ _ hD).2.2 | with_reducible exact (hS2 _ _ _ _ _ g6).2.2 | with_reducible exact (hS2 _ _ _ _ _ q2).2.2 | with_reducible exact y4 | with_reducible exact (hS2 _ _ _ _ _ g7).2.2 | fail))
     clear hK K
     try simp only [Act.put,List.setIfInBounds_toArray,List.set_cons_zero,List.set_cons_succ]
     refine wpAnyH_done (by kernel_rfl) ?_ _
    rotate_right
    focus
     refine AllReadyH.cons rfl (fun K hK=>?_) AllReadyH.nil
     go_simp
     (((first
     | (go_at_call 47; have hcon:=callsIn_wide.1 (new08 0 c.q (by omega) hD); (with_reducible refine hcon.mono ?_); clear hcon; rintro e w6 ⟨rfl,g6⟩; have y1:=(hS2 _ _ _ _ _ g6).1; obtain ⟨W7,hW7⟩ : ∃ W7,w6.alloc (.cells #[.int .i64 0,.int .i64 0,.int .i64 0,.int .i64 0,.int .i64 0,.int .i64 0,.int .i64 0,.int .i64 0,.int .i64 0,.int .i64 0,.int .i64 0,.int .i64 0,.int .u64 0,.slice none 0 0,.slice none 0 0,.int .i64 0,.int .i64 0,.int .i64 0,.int .i64 0,.int .i64 0,.int .i64 0,.int .i64 0,.int .i64 0,.int .u64 0,.int .i64 0,.int .i64 0,.bool false,.int .i64 0,.int .i64 0,.int .i64 0,.int .i64 0,.int .i64 0,.int .i64 0,.int .i64 0,.int .i64 0,.int .i64 0,.int .i64 0,.int .u64 0,.slice none 0 0,.int .i64 0,.int .i64 0,.int .i64 0,.int .i64 0,.int .i64 0,.int .i64 0,.int .i64 0,.int .i64 0,.slice none 0 0,.int .i64 0,.int .u64 0,.int .i64 0,.int .i64 0,.int .i64 (c.q:Int),.slice none 0 0] 114)=W7:=⟨_,rfl⟩; have g7:=hold_keep g6 (w':=W7) (by rw [← hW7]; exact (Below.refl _ w6).alloc (Nat.le_refl _) _); have y5:=(hS2 _ _ _ _ _ g7).1; have bk7:W7.heap[w6.heap.size]? = some (Obj.cells (rowZ c).toArray 114 (0,0)):=by rw [← hW7]; exact World.alloc_heap_new w6 _)
     | (obtain ⟨v',w8,q1,q2,q3⟩:=(show Ev.Hold ctx (Ev.slA 114 io.size (.slice a k cc) k ((List.range k).flatMap (fun _=>rowZ c))::_) _ by rw [hz7]; exact g7).app0 (t := 54) (u := 54) (ty := 54) Tryz.underlying54 hi hz (hzz.trans hz7.symm) (show Src Tryz.prog io.size 54 (.slice (some ⟨w6.heap.size,0,none⟩) 1 1) 1 (rowZ c) _ from Src.ofSlice _ Tryz.underlying54 ⟨w6.heap.size,0,none⟩ 1 1 _ (by rw [hz7]; rfl) (fun j y hj=>by rw [Ev.addMk,Nat.zero_add]; exact cell_of bk7 j y (by rw [List.getElem?_toArray]; exact hj)) (own0_ok (c:=c) 0).ones) (by have:=Nat.mul_le_mul (show k+1≤8 by omega) hby; omega) (by omega) ho0; obtain ⟨a',cc',rfl⟩:=slr_val (hold_slr q2); have g9:=hold_set 8 (.slice a' (k+1) cc') (hold_swap q2); obtain ⟨y2,y3,_⟩:=hS2 _ _ _ _ _ q2; have y4:=(hcs _ _ (hold_up [_,_,_] g9)).2; first | (rw [if_pos (by rfl)]; refine wp_append_run _ _ _ rfl q1 ?_) | (refine wp_append_run _ _ _ rfl q1 ?_)))))
     first | refine hK.out _ _ ?_ (fun hHeld=>?_) | (go_wp2_with fail; refine hK.out _ _ ?_ (fun hHeld=>?_))
     ·(try dsimp only) <;> ((first | with_reducible exact (hS2 _ _ _ _ _ hD).2.2 | with_reducible exact (hS2 _ _ _ _ _ g6).2.2 | with_reducible exact (hS2 _ _ _ _ _ q2).2.2 | with_reducible exact y4 | with_reducible exact (hS2 _ _ _ _ _ g7).2.2 | fail))
     clear hK K
     try simp only [Act.put,List.setIfInBounds_toArray,List.set_cons_zero,List.set_cons_succ]
     refine wpAnyH_take (i:=5) (v:=?_) rfl (by kernel_rfl) (by kernel_rfl) (by kernel_rfl) (fun _ _ _ h=>h) (Or.inl ⟨by kernel_rfl,?_⟩) (by assumption) ?_
     rotate_left
     ·intro w hSw; (try dsimp only at hSw); go_simp; try with_reducible rfl
     try simp only [Act.put,List.setIfInBounds_toArray,List.set_cons_zero,List.set_cons_succ]
     refine wpAnyH_ready (rs:=[1,6]) (by kernel_rfl) (by simp) ?_
     refine AllReadyH.cons rfl (fun K hK=>?_) ?_
     focus
      go_simp
      refine hK.out _ _ ?_ (fun hHeld=>?_)
      ·(try dsimp only) <;> ((first | with_reducible exact (hS2 _ _ _ _ _ hD).2.2 | with_reducible exact (hS2 _ _ _ _ _ g6).2.2 | with_reducible exact (hS2 _ _ _ _ _ q2).2.2 | with_reducible exact y4 | with_reducible exact (hS2 _ _ _ _ _ g7).2.2 | fail))
      clear hK K
      try simp only [Act.put,List.setIfInBounds_toArray,List.set_cons_zero,List.set_cons_succ]
      refine wpAnyH_ready (rs:=[6]) (by kernel_rfl) (by simp) ?_
      refine AllReadyH.cons rfl (fun K hK=>?_) AllReadyH.nil
      go_simp
      refine hK.out _ _ ?_ (fun hHeld=>?_)
      ·(try dsimp only) <;> ((first | with_reducible exact (hS2 _ _ _ _ _ hD).2.2 | with_reducible exact (hS2 _ _ _ _ _ g6).2.2 | with_reducible exact (hS2 _ _ _ _ _ q2).2.2 | with_reducible exact y4 | with_reducible exact (hS2 _ _ _ _ _ g7).2.2 | fail))
      clear hK K
      try simp only [Act.put,List.setIfInBounds_toArray,List.set_cons_zero,List.set_cons_succ]
      refine wpAnyH_ready (rs:=[7]) (by kernel_rfl) (by simp) ?_
      refine AllReadyH.cons rfl (fun K hK=>?_) AllReadyH.nil
      (((first
     | (go_at_call 47; have hcon:=callsIn_wide.1 (new08 0 c.q (by omega) hD); (with_reducible refine hcon.mono ?_); clear hcon; rintro e w6 ⟨rfl,g6⟩; have y1:=(hS2 _ _ _ _ _ g6).1; obtain ⟨W7,hW7⟩ : ∃ W7,w6.alloc (.cells #[.int .i64 0,.int .i64 0,.int .i64 0,.int .i64 0,.int .i64 0,.int .i64 0,.int .i64 0,.int .i64 0,.int .i64 0,.int .i64 0,.int .i64 0,.int .i64 0,.int .u64 0,.slice none 0 0,.slice none 0 0,.int .i64 0,.int .i64 0,.int .i64 0,.int .i64 0,.int .i64 0,.int .i64 0,.int .i64 0,.int .i64 0,.int .u64 0,.int .i64 0,.int .i64 0,.bool false,.int .i64 0,.int .i64 0,.int .i64 0,.int .i64 0,.int .i64 0,.int .i64 0,.int .i64 0,.int .i64 0,.int .i64 0,.int .i64 0,.int .u64 0,.slice none 0 0,.int .i64 0,.int .i64 0,.int .i64 0,.int .i64 0,.int .i64 0,.int .i64 0,.int .i64 0,.int .i64 0,.slice none 0 0,.int .i64 0,.int .u64 0,.int .i64 0,.int .i64 0,.int .i64 (c.q:Int),.slice none 0 0] 114)=W7:=⟨_,rfl⟩; have g7:=hold_keep g6 (w':=W7) (by rw [← hW7]; exact (Below.refl _ w6).alloc (Nat.le_refl _) _); have y5:=(hS2 _ _ _ _ _ g7).1; have bk7:W7.heap[w6.heap.size]? = some (Obj.cells (rowZ c).toArray 114 (0,0)):=by rw [← hW7]; exact World.alloc_heap_new w6 _)
     | (obtain ⟨v',w8,q1,q2,q3⟩:=(show Ev.Hold ctx (Ev.slA 114 io.size (.slice a k cc) k ((List.range k).flatMap (fun _=>rowZ c))::_) _ by rw [hz7]; exact g7).app0 (t := 54) (u := 54) (ty := 54) Tryz.underlying54 hi hz (hzz.trans hz7.symm) (show Src Tryz.prog io.size 54 (.slice (some ⟨w6.heap.size,0,none⟩) 1 1) 1 (rowZ c) _ from Src.ofSlice _ Tryz.underlying54 ⟨w6.heap.size,0,none⟩ 1 1 _ (by rw [hz7]; rfl) (fun j y hj=>by rw [Ev.addMk,Nat.zero_add]; exact cell_of bk7 j y (by rw [List.getElem?_toArray]; exact hj)) (own0_ok (c:=c) 0).ones) (by have:=Nat.mul_le_mul (show k+1≤8 by omega) hby; omega) (by omega) ho0; obtain ⟨a',cc',rfl⟩:=slr_val (hold_slr q2); have g9:=hold_set 8 (.slice a' (k+1) cc') (hold_swap q2); obtain ⟨y2,y3,_⟩:=hS2 _ _ _ _ _ q2; have y4:=(hcs _ _ (hold_up [_,_,_] g9)).2; first | (rw [if_pos (by rfl)]; refine wp_append_run _ _ _ rfl q1 ?_) | (refine wp_append_run _ _ _ rfl q1 ?_)))))
      first | refine hK.out _ _ ?_ (fun hHeld=>?_) | (go_wp2_with fail; refine hK.out _ _ ?_ (fun hHeld=>?_))
      ·(try dsimp only) <;> ((first | with_reducible exact (hS2 _ _ _ _ _ hD).2.2 | with_reducible exact (hS2 _ _ _ _ _ g6).2.2 | with_reducible exact (hS2 _ _ _ _ _ q2).2.2 | with_reducible exact y4 | with_reducible exact (hS2 _ _ _ _ _ g7).2.2 | fail))
      clear hK K
      try simp only [Act.put,List.setIfInBounds_toArray,List.set_cons_zero,List.set_cons_succ]
      refine wpAnyH_take (i:=8) (v:=?_) rfl (by kernel_rfl) (by kernel_rfl) (by kernel_rfl) (fun _ _ _ h=>h) (Or.inl ⟨by kernel_rfl,?_⟩) (by assumption) ?_
      rotate_left
      ·intro w hSw; (try dsimp only at hSw); go_simp; try with_reducible rfl
      try simp only [Act.put,List.setIfInBounds_toArray,List.set_cons_zero,List.set_cons_succ]
      refine wpAnyH_ready (rs:=[9]) (by kernel_rfl) (by simp) ?_
      refine AllReadyH.cons rfl (fun K hK=>?_) AllReadyH.nil
      go_simp
      refine hK.out _ _ ?_ (fun hHeld=>?_)
      ·(try dsimp only) <;> ((first | with_reducible exact (hS2 _ _ _ _ _ hD).2.2 | with_reducible exact (hS2 _ _ _ _ _ g6).2.2 | with_reducible exact (hS2 _ _ _ _ _ q2).2.2 | with_reducible exact y4 | with_reducible exact (hS2 _ _ _ _ _ g7).2.2 | fail))
      clear hK K
      try simp only [Act.put,List.setIfInBounds_toArray,List.set_cons_zero,List.set_cons_succ]
      refine wpAnyH_done (by kernel_rfl) ?_ _
     rotate_right
     focus
      refine AllReadyH.cons rfl (fun K hK=>?_) AllReadyH.nil
      go_simp
      refine hK.out _ _ ?_ (fun hHeld=>?_)
      ·(try dsimp only) <;> ((first | with_reducible exact (hS2 _ _ _ _ _ hD).2.2 | with_reducible exact (hS2 _ _ _ _ _ g6).2.2 | with_reducible exact (hS2 _ _ _ _ _ q2).2.2 | with_reducible exact y4 | with_reducible exact (hS2 _ _ _ _ _ g7).2.2 | fail))
      clear hK K
      try simp only [Act.put,List.setIfInBounds_toArray,List.set_cons_zero,List.set_cons_succ]
      refine wpAnyH_ready (rs:=[1]) (by kernel_rfl) (by simp) ?_
      refine AllReadyH.cons rfl (fun K hK=>?_) AllReadyH.nil
      go_simp
      refine hK.out _ _ ?_ (fun hHeld=>?_)
      ·(try dsimp only) <;> ((first | with_reducible exact (hS2 _ _ _ _ _ hD).2.2 | with_reducible exact (hS2 _ _ _ _ _ g6).2.2 | with_reducible exact (hS2 _ _ _ _ _ q2).2.2 | with_reducible exact y4 | with_reducible exact (hS2 _ _ _ _ _ g7).2.2 | fail))
      clear hK K
      try simp only [Act.put,List.setIfInBounds_toArray,List.set_cons_zero,List.set_cons_succ]
      refine wpAnyH_ready (rs:=[7]) (by kernel_rfl) (by simp) ?_
      refine AllReadyH.cons rfl (fun K hK=>?_) AllReadyH.nil
      (((first
     | (go_at_call 47; have hcon:=callsIn_wide.1 (new08 0 c.q (by omega) hD); (with_reducible refine hcon.mono ?_); clear hcon; rintro e w6 ⟨rfl,g6⟩; have y1:=(hS2 _ _ _ _ _ g6).1; obtain ⟨W7,hW7⟩ : ∃ W7,w6.alloc (.cells #[.int .i64 0,.int .i64 0,.int .i64 0,.int .i64 0,.int .i64 0,.int .i64 0,.int .i64 0,.int .i64 0,.int .i64 0,.int .i64 0,.int .i64 0,.int .i64 0,.int .u64 0,.slice none 0 0,.slice none 0 0,.int .i64 0,.int .i64 0,.int .i64 0,.int .i64 0,.int .i64 0,.int .i64 0,.int .i64 0,.int .i64 0,.int .u64 0,.int .i64 0,.int .i64 0,.bool false,.int .i64 0,.int .i64 0,.int .i64 0,.int .i64 0,.int .i64 0,.int .i64 0,.int .i64 0,.int .i64 0,.int .i64 0,.int .i64 0,.int .u64 0,.slice none 0 0,.int .i64 0,.int .i64 0,.int .i64 0,.int .i64 0,.int .i64 0,.int .i64 0,.int .i64 0,.int .i64 0,.slice none 0 0,.int .i64 0,.int .u64 0,.int .i64 0,.int .i64 0,.int .i64 (c.q:Int),.slice none 0 0] 114)=W7:=⟨_,rfl⟩; have g7:=hold_keep g6 (w':=W7) (by rw [← hW7]; exact (Below.refl _ w6).alloc (Nat.le_refl _) _); have y5:=(hS2 _ _ _ _ _ g7).1; have bk7:W7.heap[w6.heap.size]? = some (Obj.cells (rowZ c).toArray 114 (0,0)):=by rw [← hW7]; exact World.alloc_heap_new w6 _)
     | (obtain ⟨v',w8,q1,q2,q3⟩:=(show Ev.Hold ctx (Ev.slA 114 io.size (.slice a k cc) k ((List.range k).flatMap (fun _=>rowZ c))::_) _ by rw [hz7]; exact g7).app0 (t := 54) (u := 54) (ty := 54) Tryz.underlying54 hi hz (hzz.trans hz7.symm) (show Src Tryz.prog io.size 54 (.slice (some ⟨w6.heap.size,0,none⟩) 1 1) 1 (rowZ c) _ from Src.ofSlice _ Tryz.underlying54 ⟨w6.heap.size,0,none⟩ 1 1 _ (by rw [hz7]; rfl) (fun j y hj=>by rw [Ev.addMk,Nat.zero_add]; exact cell_of bk7 j y (by rw [List.getElem?_toArray]; exact hj)) (own0_ok (c:=c) 0).ones) (by have:=Nat.mul_le_mul (show k+1≤8 by omega) hby; omega) (by omega) ho0; obtain ⟨a',cc',rfl⟩:=slr_val (hold_slr q2); have g9:=hold_set 8 (.slice a' (k+1) cc') (hold_swap q2); obtain ⟨y2,y3,_⟩:=hS2 _ _ _ _ _ q2; have y4:=(hcs _ _ (hold_up [_,_,_] g9)).2; first | (rw [if_pos (by rfl)]; refine wp_append_run _ _ _ rfl q1 ?_) | (refine wp_append_run _ _ _ rfl q1 ?_)))))
      first | refine hK.out _ _ ?_ (fun hHeld=>?_) | (go_wp2_with fail; refine hK.out _ _ ?_ (fun hHeld=>?_))
      ·(try dsimp only) <;> ((first | with_reducible exact (hS2 _ _ _ _ _ hD).2.2 | with_reducible exact (hS2 _ _ _ _ _ g6).2.2 | with_reducible exact (hS2 _ _ _ _ _ q2).2.2 | with_reducible exact y4 | with_reducible exact (hS2 _ _ _ _ _ g7).2.2 | fail))
      clear hK K
      try simp only [Act.put,List.setIfInBounds_toArray,List.set_cons_zero,List.set_cons_succ]
      refine wpAnyH_take (i:=8) (v:=?_) rfl (by kernel_rfl) (by kernel_rfl) (by kernel_rfl) (fun _ _ _ h=>h) (Or.inl ⟨by kernel_rfl,?_⟩) (by assumption) ?_
      rotate_left
      ·intro w hSw; (try dsimp only at hSw); go_simp; try with_reducible rfl
      try simp only [Act.put,List.setIfInBounds_toArray,List.set_cons_zero,List.set_cons_succ]
      refine wpAnyH_ready (rs:=[9]) (by kernel_rfl) (by simp) ?_
      refine AllReadyH.cons rfl (fun K hK=>?_) AllReadyH.nil
      go_simp
      refine hK.out _ _ ?_ (fun hHeld=>?_)
      ·(try dsimp only) <;> ((first | with_reducible exact (hS2 _ _ _ _ _ hD).2.2 | with_reducible exact (hS2 _ _ _ _ _ g6).2.2 | with_reducible exact (hS2 _ _ _ _ _ q2).2.2 | with_reducible exact y4 | with_reducible exact (hS2 _ _ _ _ _ g7).2.2 | fail))
      clear hK K
      try simp only [Act.put,List.setIfInBounds_toArray,List.set_cons_zero,List.set_cons_succ]
      refine wpAnyH_done (by kernel_rfl) ?_ _
    all_goals (refine NoPanic.normal ?_)
    all_goals
     rw [hz7] at g9
     gi_wp2
     refine ⟨⟨k+1,a',cc',rfl,by omega,q3,?_⟩,by simp [intOf]; omega⟩
     rw [List.range_succ,List.flatMap_append,List.flatMap_singleton]
     exact hold_swap g9
   ·obtain rfl:k=c.n:=by omega
    have hlI:¬ ((c.n:Nat) : Int) < (c.n:Int):=by omega
    have r1:=ld_all (hold_up [_] hH) Tryz.underlying56 rfl (by kernel_rfl)
    obtain ⟨wC,s1,gC⟩:=st_all (t := 56) (cs':=rV c (.slice s0 c.cells t0) 0 (.slice a c.n cc) 0) (hold_up [_,_,_,_] hH) rfl (by simp [rV,Value.oneCell']) (by kernel_rfl)
    gi_wp2_with (first
     | (refine wpListIn_load_run rfl _ _ rfl r1 rfl ?_)
     | (refine wpListIn_store_run rfl _ _ _ rfl s1 rfl rfl ?_))
    refine post_cell rfl rfl rfl (lv_all gC Tryz.underlying56 rfl (by kernel_rfl)) ⟨.slice a c.n cc,.slice s0 c.cells t0,rfl,?_⟩
    have h9:=hold_drop (r:=[_,_,_]) (hold_up [_,_,_,_] (hold_up [_,_,_,_] (hold_up [_,_,_,_] (hold_up [_,_] (hold_up [_,_,_] gC)))))
    exact hold_perm (List.perm_append_comm_assoc _ [_,_] _) (fams_new (List.range c.n) (fun q hq=>List.mem_range.1 hq) h9)
 clear a1
 refine wpIn_wide.2 ?_
 refine wp_region_held_drew (S:=fun w'=>w'.cell? ⟨b1,0,none⟩=some (.int .i64 (c.n:Int))∧w'.cell? ⟨b1,1,none⟩=some (.int .i64 (c.q:Int))∧w'.cell? ⟨b1,2,none⟩=some (.int .i64 c.g)∧w'.cell? ⟨b1,3,none⟩=some (.int .i64 c.m)∧w'.cell? ⟨b1,4,none⟩=some (.int .i64 c.t)∧w'.cell? ⟨b1,5,none⟩=some (.int .i64 c.s)) (by kernel_rfl) (hcs _ _ gA) (fun hHeld=>?_)
 refine wpAnyH_take (i:=0) (v:=c.v) rfl (by kernel_rfl) (by kernel_rfl) (by kernel_rfl) (fun _ _ _ h=>h) (Or.inl ⟨by rfl,by (intro w hSw; (try dsimp only at hSw); obtain ⟨s0,s1,s2,s3,s4,s5⟩:=hSw; go_simp)⟩) (by assumption) ?_
 simp only [Act.put,List.getElem_toArray,List.getElem_cons_succ,List.getElem_cons_zero,List.setIfInBounds_toArray,List.set_cons_zero,List.set_cons_succ]
 refine wpAnyH_take (i:=1) (v:=.pointer (some ⟨b1,0,none⟩)) rfl (by kernel_rfl) (by kernel_rfl) (by kernel_rfl) (fun _ _ _ h=>h) (Or.inl ⟨by rfl,by (intro w hSw; (try dsimp only at hSw); obtain ⟨s0,s1,s2,s3,s4,s5⟩:=hSw; go_simp)⟩) (by assumption) ?_
 simp only [Act.put,List.getElem_toArray,List.getElem_cons_succ,List.getElem_cons_zero,List.setIfInBounds_toArray,List.set_cons_zero,List.set_cons_succ]
 refine wpAnyH_take (i:=2) (v:=.int .i64 (c.n:Int)) rfl (by kernel_rfl) (by kernel_rfl) (by kernel_rfl) (fun _ _ _ h=>h) (Or.inl ⟨by rfl,by (intro w hSw; (try dsimp only at hSw); obtain ⟨s0,s1,s2,s3,s4,s5⟩:=hSw; go_simp)⟩) (by assumption) ?_
 simp only [Act.put,List.getElem_toArray,List.getElem_cons_succ,List.getElem_cons_zero,List.setIfInBounds_toArray,List.set_cons_zero,List.set_cons_succ]
 refine wpAnyH_take (i:=3) (v:=.pointer (some ⟨b1,1,none⟩)) rfl (by kernel_rfl) (by kernel_rfl) (by kernel_rfl) (fun _ _ _ h=>h) (Or.inl ⟨by rfl,by (intro w hSw; (try dsimp only at hSw); obtain ⟨s0,s1,s2,s3,s4,s5⟩:=hSw; go_simp)⟩) (by assumption) ?_
 simp only [Act.put,List.getElem_toArray,List.getElem_cons_succ,List.getElem_cons_zero,List.setIfInBounds_toArray,List.set_cons_zero,List.set_cons_succ]
 refine wpAnyH_take (i:=4) (v:=.int .i64 (c.q:Int)) rfl (by kernel_rfl) (by kernel_rfl) (by kernel_rfl) (fun _ _ _ h=>h) (Or.inl ⟨by rfl,by (intro w hSw; (try dsimp only at hSw); obtain ⟨s0,s1,s2,s3,s4,s5⟩:=hSw; go_simp)⟩) (by assumption) ?_
 simp only [Act.put,List.getElem_toArray,List.getElem_cons_succ,List.getElem_cons_zero,List.setIfInBounds_toArray,List.set_cons_zero,List.set_cons_succ]
 refine wpAnyH_take (i:=5) (v:=.int .i64 (IntKind.i64.wrap (6+(c.q:Int)))) rfl (by kernel_rfl) (by kernel_rfl) (by kernel_rfl) (fun _ _ _ h=>h) (Or.inl ⟨by rfl,by (intro w hSw; (try dsimp only at hSw); obtain ⟨s0,s1,s2,s3,s4,s5⟩:=hSw; go_simp)⟩) (by assumption) ?_
 simp only [Act.put,List.getElem_toArray,List.getElem_cons_succ,List.getElem_cons_zero,List.setIfInBounds_toArray,List.set_cons_zero,List.set_cons_succ]
 refine wpAnyH_take (i:=6) (v:=.int .i64 (IntKind.i64.wrap ((c.n:Int) * IntKind.i64.wrap (6+(c.q:Int))))) rfl (by kernel_rfl) (by kernel_rfl) (by kernel_rfl) (fun _ _ _ h=>h) (Or.inl ⟨by rfl,by (intro w hSw; (try dsimp only at hSw); obtain ⟨s0,s1,s2,s3,s4,s5⟩:=hSw; go_simp)⟩) (by assumption) ?_
 simp only [Act.put,List.getElem_toArray,List.getElem_cons_succ,List.getElem_cons_zero,List.setIfInBounds_toArray,List.set_cons_zero,List.set_cons_succ]
 refine wpAnyH_take (i:=7) (v:=.int .i64 ((c.cells:Nat) : Int)) rfl (by kernel_rfl) (by kernel_rfl) (by kernel_rfl) (fun _ _ _ h=>h) (Or.inl ⟨by rfl,by (intro w hSw; (try dsimp only at hSw); obtain ⟨s0,s1,s2,s3,s4,s5⟩:=hSw; go_simp)⟩) (by assumption) ?_
 simp only [Act.put,List.getElem_toArray,List.getElem_cons_succ,List.getElem_cons_zero,List.setIfInBounds_toArray,List.set_cons_zero,List.set_cons_succ]
 refine wpAnyH_ready (rs:=[8,10]) (by kernel_rfl) (by simp) ?_
 refine AllReadyH.cons rfl (fun K hK=>?_) (AllReadyH.cons rfl (fun K hK=>?_) AllReadyH.nil)
 ·go_simp
  have hcon:=callsIn_wide.1 (new06 0 c.cells hcl gA)
  (with_reducible refine hcon.mono ?_)
  clear hcon
  rintro e wA ⟨rv,rfl,g6⟩
  obtain ⟨s0,t0,rfl⟩:=slr_val (hold_slr g6)
  rw [List.length_replicate] at g6
  refine hK.out _ _ (hcs _ _ (hold_swap g6)) (fun hHeld=>?_)
  clear hK K
  try simp only [Act.put,List.getElem_toArray,List.getElem_cons_succ,List.getElem_cons_zero,List.setIfInBounds_toArray,List.set_cons_zero,List.set_cons_succ]
  refine wpAnyH_take (i:=9) (v:=.agg #[.int .i64 (c.n:Int),.int .i64 (c.q:Int),.int .i64 c.g,.int .i64 c.m,.int .i64 c.t,.int .i64 c.s,.slice s0 c.cells t0,.int .u64 0,.slice none 0 0,.int .i64 0]) rfl (by kernel_rfl) (by kernel_rfl) (by kernel_rfl) (fun _ _ _ h=>h) (Or.inl ⟨by rfl,by (intro w hSw; go_simp)⟩) (by assumption) ?_
  try simp only [Act.put,List.getElem_toArray,List.getElem_cons_succ,List.getElem_cons_zero,List.setIfInBounds_toArray,List.set_cons_zero,List.set_cons_succ]
  refine wpAnyH_ready (rs:=[10]) (by kernel_rfl) (by simp) ?_
  refine AllReadyH.cons rfl (fun K hK=>?_) ?_
  rotate_left
  ·exact AllReadyH.nil
  obtain ⟨b3,hb3⟩ : ∃ b3,wA.heap.size=b3:=⟨_,rfl⟩
  have g7:=hold_new rZ 56 g6
  obtain ⟨W3,hW3⟩ : ∃ W3,wA.alloc (.cells #[.int .i64 0,.int .i64 0,.int .i64 0,.int .i64 0,.int .i64 0,.int .i64 0,.slice none 0 0,.int .u64 0,.slice none 0 0,.int .i64 0] 56)=W3:=⟨_,rfl⟩
  rw [hb3,show wA.alloc (.cells rZ.toArray 56)=W3 from hW3] at g7
  go_simp
  try simp only [hb3,hW3]
  refine hK.out _ _ (hcs _ _ (hold_up [_,_] g7)) (fun hHeld=>?_)
  clear hK K
  try simp only [Act.put,List.getElem_toArray,List.getElem_cons_succ,List.getElem_cons_zero,List.setIfInBounds_toArray,List.set_cons_zero,List.set_cons_succ]
  obtain ⟨wB,rB,gS⟩:=st_all (t := 56) (cs':=rV c (.slice s0 c.cells t0) 0 (.slice none 0 0) 0) g7 rfl (by simp [rV,Value.oneCell']) (by kernel_rfl)
  refine wpAnyH_ready (rs:=[11]) (by kernel_rfl) (by simp) ?_
  refine AllReadyH.cons rfl (fun K hK=>?_) ?_
  rotate_left
  ·exact AllReadyH.nil
  rw [if_pos (by rfl)]
  refine wp_store_run _ _ _ rfl rB rfl rfl ?_
  refine hK.out _ _ (hcs _ _ (hold_up [_,_] gS)) (fun hHeld=>?_)
  clear hK K
  try simp only [Act.put,List.getElem_toArray,List.getElem_cons_succ,List.getElem_cons_zero,List.setIfInBounds_toArray,List.set_cons_zero,List.set_cons_succ]
  refine wpAnyH_done (by kernel_rfl) ?_ _
  exact hK1 _ _ _ _ gS
 ·obtain ⟨b3,hb3⟩ : ∃ b3,W2.drew.heap.size=b3:=⟨_,rfl⟩
  have g7:=hold_new rZ 56 gA
  obtain ⟨W3,hW3⟩ : ∃ W3,W2.drew.alloc (.cells #[.int .i64 0,.int .i64 0,.int .i64 0,.int .i64 0,.int .i64 0,.int .i64 0,.slice none 0 0,.int .u64 0,.slice none 0 0,.int .i64 0] 56)=W3:=⟨_,rfl⟩
  rw [hb3,show W2.drew.alloc (.cells rZ.toArray 56)=W3 from hW3] at g7
  go_simp
  try simp only [hb3,hW3]
  refine hK.out _ _ (hcs _ _ (hold_swap g7)) (fun hHeld=>?_)
  clear hK K
  try simp only [Act.put,List.getElem_toArray,List.getElem_cons_succ,List.getElem_cons_zero,List.setIfInBounds_toArray,List.set_cons_zero,List.set_cons_succ]
  refine wpAnyH_ready (rs:=[8]) (by kernel_rfl) (by simp) ?_
  refine AllReadyH.cons rfl (fun K hK=>?_) ?_
  rotate_left
  ·exact AllReadyH.nil
  go_simp
  have hcon:=callsIn_wide.1 (new06 0 c.cells hcl g7)
  (with_reducible refine hcon.mono ?_)
  clear hcon
  rintro e wA ⟨rv,rfl,g6⟩
  obtain ⟨s0,t0,rfl⟩:=slr_val (hold_slr g6)
  rw [List.length_replicate] at g6
  refine hK.out _ _ (hcs _ _ (hold_up [_,_] g6)) (fun hHeld=>?_)
  clear hK K
  try simp only [Act.put,List.getElem_toArray,List.getElem_cons_succ,List.getElem_cons_zero,List.setIfInBounds_toArray,List.set_cons_zero,List.set_cons_succ]
  refine wpAnyH_take (i:=9) (v:=.agg #[.int .i64 (c.n:Int),.int .i64 (c.q:Int),.int .i64 c.g,.int .i64 c.m,.int .i64 c.t,.int .i64 c.s,.slice s0 c.cells t0,.int .u64 0,.slice none 0 0,.int .i64 0]) rfl (by kernel_rfl) (by kernel_rfl) (by kernel_rfl) (fun _ _ _ h=>h) (Or.inl ⟨by rfl,by (intro w hSw; go_simp)⟩) (by assumption) ?_
  try simp only [Act.put,List.getElem_toArray,List.getElem_cons_succ,List.getElem_cons_zero,List.setIfInBounds_toArray,List.set_cons_zero,List.set_cons_succ]
  obtain ⟨wB,rB,gS⟩:=st_all (t := 56) (cs':=rV c (.slice s0 c.cells t0) 0 (.slice none 0 0) 0) (hold_swap g6) rfl (by simp [rV,Value.oneCell']) (by kernel_rfl)
  refine wpAnyH_ready (rs:=[11]) (by kernel_rfl) (by simp) ?_
  refine AllReadyH.cons rfl (fun K hK=>?_) ?_
  rotate_left
  ·exact AllReadyH.nil
  rw [if_pos (by rfl)]
  refine wp_store_run _ _ _ rfl rB rfl rfl ?_
  refine hK.out _ _ (hcs _ _ (hold_up [_,_] gS)) (fun hHeld=>?_)
  clear hK K
  try simp only [Act.put,List.getElem_toArray,List.getElem_cons_succ,List.getElem_cons_zero,List.setIfInBounds_toArray,List.set_cons_zero,List.set_cons_succ]
  refine wpAnyH_done (by kernel_rfl) ?_ _
  exact hK1 _ _ _ _ gS
end
end Go.Proofs.YtkmccgombmogmaaGreat
namespace Go.Proofs.YtkmccgombmogmaaGreat
open Go.RowKit
open Go.Ev (iz uz iN)
set_option linter.unusedVariables false
set_option linter.unusedSimpArgs false
set_option maxRecDepth 8000
structure BegB (ctx:Ev.Ctx) (c:Cfg) (x:RaceS) (p kd cv cg:Int) (er:Int) (x':RaceS) : Prop where
 doc:∀ (m:Nat) (r:List Ev.Asr) (w:World) (rs:Nat→OwR) (lv rv:Value),RefOk c x rs→Ev.Hold ctx (refL c x rs lv rv++r) w →
  CallsIn Fence.wide m Tryz.prog 24 #[.agg (rV c rv x.m.ops lv x.pts).toArray,.int .i64 p,.agg #[.int .i64 kd,.int .i64 cv,.int .i64 cg]] w fun e w'=>∃ rs1 lv1,e=.returned (.tuple #[.agg (rV c rv x'.m.ops lv1 x'.pts).toArray,.int .i64 er])∧RefOk c x' rs1∧Ev.Hold ctx (refL c x' rs1 lv1 rv++r) w'
 prog:∀ (m:Nat) (r:List Ev.Asr) (w:World) (b:RB),Ev.Hold ctx (raceA b c x::r) w →
  CallsIn Fence.wide m Tryz.prog 11 #[.pointer (some ⟨b.br,0,none⟩),.int .i64 p,.agg #[.int .i64 kd,.int .i64 cv,.int .i64 cg]] w fun e w'=>e=.returned (.int .i64 er)∧Ev.Hold ctx (raceA b c x'::r) w'
structure StepB (ctx:Ev.Ctx) (c:Cfg) (x:RaceS) (p:Int) (os:Option OutS) (x':RaceS) : Prop where
 doc:∀ (m:Nat) (r:List Ev.Asr) (w:World) (rs:Nat→OwR) (lv rv:Value),RefOk c x rs→Ev.Hold ctx (refL c x rs lv rv++r) w →
  CallsIn Fence.wide m Tryz.prog 25 #[.agg (rV c rv x.m.ops lv x.pts).toArray,.int .i64 p] w fun e w'=>∃ rs1 lv1 rv1 ov,e=.returned (.tuple #[.agg (rV c rv1 x'.m.ops lv1 x'.pts).toArray,.agg #[.int .i64 (OutS.k os),.int .i64 (OutS.g os),ov],.bool os.isSome])∧RefOk c x' rs1∧Ev.Hold ctx (isA ov (OutS.l os)::(refL c x' rs1 lv1 rv1++r)) w'
 prog:∀ (m:Nat) (r:List Ev.Asr) (w:World) (b:RB),Ev.Hold ctx (raceA b c x::r) w →
  CallsIn Fence.wide m Tryz.prog 13 #[.pointer (some ⟨b.br,0,none⟩),.int .i64 p] w fun e w'=>∃ a k,e=.returned (.tuple #[.agg #[.int .i64 (OutS.k os),.int .i64 (OutS.g os),.slice a (OutS.l os).length k],.bool os.isSome])∧Ev.Hold ctx (isA (.slice a (OutS.l os).length k) (OutS.l os)::raceA b c x'::r) w'
section
variable {ctx:Ev.Ctx} {c:Cfg} {x:RaceS} {B:Int}
theorem beg_both (hI:RaceI c B x) (p kd cv cg:Int) (hg:cg≤9223372036854775807) : ∃ er x',RaceI c B x'∧BegB ctx c x p kd cv cg er x':=by
 by_cases hp:0≤p∧p < (c.n:Int)
 ·obtain ⟨p,rfl⟩ : ∃ k:Nat,p=(k:Int):=⟨p.toNat,by omega⟩
  have hl:=hI.len
  obtain ⟨o,ho⟩ : ∃ o,x.ow[p]? = some o:=⟨_,List.getElem?_eq_getElem (by omega)⟩
  have hm:(begRace c x p o kd cv cg).m=x.m∧(begRace c x p o kd cv cg).pts=x.pts:=by
   unfold begRace
   split
   ·exact ⟨rfl,rfl⟩
   ·split <;> exact ⟨rfl,rfl⟩
  refine ⟨begErr c p o kd cv cg,begRace c x p o kd cv cg,?_,⟨fun m r w rs lv rv hR h=>?_,fun m r w b h=>abegin m hl ho kd cv cg h⟩⟩
  ·cases hM:o.mac with
   | some M =>
    have e:begRace c x p o kd cv cg=x:=by
     unfold begRace
     rw [hM]
     split <;> rfl
    rw [e]
    exact hI
   | none =>
    unfold begRace
    cases hN:newMac c p kd cv cg with
    | none=>exact hI
    | some M =>
     rw [hM]
     exact (race_begin hI ho hM (by unfold Gn; omega) hN).1
  ·rw [hm.1,hm.2]
   exact begin12 m hl ho hR kd cv cg h
 ·refine ⟨2,x,hI,⟨fun m r w rs lv rv hR h=>?_,fun m r w b h=>beginN m hp kd cv cg h⟩⟩
  obtain ⟨⟨ra,rk,rfl⟩,la,lk,rfl⟩:=ref_shape h
  refine (beginX m hp kd cv cg h).mono ?_
  rintro e w' ⟨rfl,hh⟩
  exact ⟨rs,_,rfl,hR,hh⟩
theorem step_both (hI:RaceI c B x) (hB:B+8≤1073741824) (p:Int) : ∃ os x' B',B'≤B+8∧RaceI c B' x'∧(OutS.l os).length≤1000000∧StepB ctx c x p os x':=by
 have idle:∀ {r:List Ev.Asr} {w:World} {v:Value},Ev.Hold ctx r w→Ev.Hold ctx (isA (.slice none 0 0) []::r) w:=fun h=>h.nilSl (e := 3) (sz:=1)
 by_cases hp:0≤p∧p < (c.n:Int)
 ·obtain ⟨p,rfl⟩ : ∃ k:Nat,p=(k:Int):=⟨p.toNat,by omega⟩
  have hl:=hI.len
  have hpn:p < c.n:=by omega
  obtain ⟨o,ho⟩ : ∃ o,x.ow[p]? = some o:=⟨_,List.getElem?_eq_getElem (by omega)⟩
  cases hM:o.mac with
  | none =>
   refine ⟨none,x,B,by omega,hI,Nat.zero_le _,⟨fun m r w rs lv rv hR h=>?_,fun m r w b h=>?_⟩⟩
   ·obtain ⟨⟨ra,rk,rfl⟩,la,lk,rfl⟩:=ref_shape h
    refine (stepI (rn:=x.m.cells.length) (ra:=ra) (rk:=rk) (ops:=x.m.ops) (pts:=x.pts) m hl ho hM hR h).mono ?_
    rintro e w' ⟨rfl,hh⟩
    exact ⟨rs,_,_,.slice none 0 0,rfl,hR,idle (v:=.nilIface) hh⟩
   ·refine (aidle m hpn ho hM h).mono ?_
    rintro e w' ⟨rfl,hh⟩
    exact ⟨none,0,rfl,idle (v:=.nilIface) hh⟩
  | some M =>
   obtain ⟨k1,_,k3,k4,_⟩:=race_step hI hB ho hM
   obtain ⟨o1,e1,e2,e3,e4,e5,_⟩:=k4.self
   refine ⟨(raceStep c x p o M).2,(raceStep c x p o M).1,B+8,by omega,k1,?_,⟨fun m r w rs lv rv hR h=>?_,fun m r w b h=>astep m hI hB ho hM h⟩⟩
   ·have hok:=macStep_ok hI ho hM
    unfold raceStep
    split
    ·show ((M.step c p x.m).1.over).length≤_
     cases hS:(M.step c p x.m).1 with
     | put u =>
      rw [hS] at hok
      have:=PutOk.hs hok
      show (if u.st=0 then u.hs else []).length≤_
      split
      ·omega
      ·exact Nat.zero_le _
     | get u=>exact Nat.zero_le _
     | steal v u =>
      rw [hS] at hok
      have:=(hands_le hok.1).2
      show u.left.length≤_
      omega
    ·exact Nat.zero_le _
   ·refine (step12 m hI ho hM hR h).mono ?_
    rintro e w' ⟨x1,rs1,lv1,rv1,o2,rfl,f1,f2,⟨h0,⟨ov,rfl,hR1,hh⟩⟩ | ⟨h0,rfl,hR1,hh⟩⟩
    ·have e9:raceStep c x p o M=((atPoint c x p o M).own p (o2.now none),some ⟨o.kd,(M.step c p x.m).1.got,(M.step c p x.m).1.over⟩):=by
      unfold raceStep
      rw [if_pos h0,k3,f1]
     rw [e9]
     exact ⟨rs1,lv1,rv1,ov,rfl,hR1,hh⟩
    ·have e9:raceStep c x p o M=(atPoint c x p o M,none):=by
      unfold raceStep
      rw [if_neg h0,k3]
     rw [e9]
     exact ⟨rs1,lv1,rv1,.slice none 0 0,rfl,hR1,idle (v:=.nilIface) hh⟩
 ·refine ⟨none,x,B,by omega,hI,Nat.zero_le _,⟨fun m r w rs lv rv hR h=>?_,fun m r w b h=>?_⟩⟩
  ·obtain ⟨⟨ra,rk,rfl⟩,la,lk,rfl⟩:=ref_shape h
   refine (stepX m hp h).mono ?_
   rintro e w' ⟨rfl,hh⟩
   exact ⟨rs,_,_,.slice none 0 0,rfl,hR,idle (v:=.nilIface) hh⟩
  ·refine (stepN m hp h).mono ?_
   rintro e w' ⟨rfl,hh⟩
   exact ⟨none,0,rfl,idle (v:=.nilIface) hh⟩
end
end Go.Proofs.YtkmccgombmogmaaGreat
