/- Part of a proof: see the last text. -/
import Derived.Test.YtkmccgombmogmaaGreatZk2
import Derived.Sort.CutIn
import Derived.Test.YtkmccgombmogmaaGreatZk1
import Derived.Test.YtkmccgombmogmaaGreatZk0
import Derived.WalkKit
import Derived.WalkSpells
import Derived.Lib.Walk
import Derived.Lib.SliceRun
import Derived.Deep.LoopGhost
import Derived.Laws.AppendOwn
namespace Go.Proofs.YtkmccgombmogmaaGreat
open Go.RowKit
set_option linter.unusedVariables false
set_option linter.unusedSimpArgs false
set_option maxRecDepth 8000
theorem wp_append_run {P:Program} {w w':World} {o:Oper} {a:Act} {K:Act→World→Prop} {Q:Exit→Act→World→Prop} {v':Value} (s x:Operand) (t:TypeId) (hop:o.op=Op.call { callee:=Callee.builtin Builtin.append,args:=#[s,x],argTypes:=#[t,t] }) (hrun:(Builtin.append_ #[t,t] o.type #[a.eval s,a.eval x]).run P w=.ok v' w')
  (hK:K (a.put o.dst v') w') : o.wp P a w K Q:=by
 unfold Oper.wp
 simp [execOp,hop,resolve,invoke,builtin,hrun,Result.andThen]
 exact hK
theorem infAcc:∃ i z,Tryz.prog.info? 234 = some i∧i.size=4∧i.zero=some z∧z.cells.size=i.size∧i.bytes=32:=by
 obtain ⟨i,h1,h2,h3,h4⟩:=info_z (P:=Tryz.prog) (t := 234) (z:=.agg #[.int .i64 0,.int .i64 0,.int .u64 0,.int .u64 0]) (n:=4) (b:=32) (by kernel_rfl)
 exact ⟨i,_,h1,h2,h3,h2.symm,h4⟩
section
variable {ctx:Ev.Ctx} {w:World} {r:List Ev.Asr}
theorem happ {e t:TypeId} {u y:Value} {n m:Nat} {xs cs:List Value} {i:TypeInfo} {z:Value} (ht:Tryz.prog.underlying t=some (.slice e)) (hi:Tryz.prog.info? e=some i) (hz:i.zero=some z) (hzs:z.cells.size=i.size) (hs:Src Tryz.prog i.size t y m cs w) (hb:(n+m) * i.bytes≤140737488355328) (hnm:n+m≤1000000000)
  (h:Ev.Hold ctx (Ev.slA e i.size u n xs::r) w) : ∃ a k w',(Builtin.append_ #[t,t] t #[u,y]).run Tryz.prog w=.ok (.slice a (n+m) k) w'∧Ev.Hold ctx (Ev.slA e i.size (.slice a (n+m) k) (n+m) (xs++cs)::r) w':=by
 obtain ⟨F',m1,m2,m3⟩:=h.ex
 obtain ⟨Fa,Fl,k1,k2,k3,k4⟩:=Ev.now_uncons m1
 obtain ⟨v',w',G,r1,r2,r3,r4⟩:=Ev.SlV.append (ty:=t) (show Ev.SlV e i.size u n xs Fa w from k1) ht hi hz hzs hs hb hnm
 have hFl:∀ j,Fl j→w'.heap[j]? = w.heap[j]?:=fun j hj=>r3.block j (k2.lt j hj) (fun hf=>k3 j hf hj)
 have q2:=Ev.now_cons (a:=Ev.slA e i.size v' (n+m) (xs++cs)) (Fa:=G) r2 (Ev.now_keep k2 hFl r3.size) (fun j hj=>(r4 j hj).1) (fun j hj hl=>by
  rcases (r4 j hj).2 with h | h
  ·exact k3 j h hl
  ·have:=k2.lt j hl
   omega)
 have hfin:Ev.Hold ctx (Ev.slA e i.size v' (n+m) (xs++cs)::r) w':=by
  refine ⟨_,q2,⟨r3.os.trans m2.os,r3.tape.trans m2.tape,r3.output.trans m2.output,Nat.le_trans m2.size r3.size,fun j hj hx=>?_⟩,fun j hj=>?_⟩
  ·refine (r3.block j (Nat.lt_of_lt_of_le hj m2.size) (fun hf=>?_)).trans (m2.block j hj hx)
   rcases m3 j ((k4 j).2 (.inl hf)) with h | h
   ·exact hx h
   ·omega
  ·rcases hj with hj | hj
   ·rcases (r4 j hj).2 with h | h
    ·exact m3 j ((k4 j).2 (.inl h))
    ·exact .inr (Nat.le_trans m2.size h)
   ·exact m3 j ((k4 j).2 (.inr hj))
 obtain ⟨a,k,e1⟩:=slr_val (hold_slr hfin)
 subst e1
 exact ⟨a,k,w',r1,hfin⟩
theorem sl_cap {e:TypeId} {sz n b off c:Nat} {xs:List Value} (h:Ev.Hold ctx (Ev.slA e sz (.slice (some ⟨b,off,none⟩) n c) n xs::r) w) : n≤c:=by
 obtain ⟨f,hf⟩:=h.first
 obtain ⟨_,⟨_,he,_⟩ | ⟨b',off',c',arr,hv,_,_,_,_,hc⟩⟩:=(show Ev.SlV e sz _ n xs f w from hf)
 ·omega
 ·cases hv
  exact hc
theorem sl_tail {e:TypeId} {sz n b off c:Nat} {xs:List Value} (h:Ev.Hold ctx (Ev.slA e sz (.slice (some ⟨b,off,none⟩) (n+1) c) (n+1) xs::r) w) : Ev.Hold ctx (Ev.slA e sz (.slice (some ⟨b,off+sz,none⟩) n (c - 1)) n (xs.drop sz)::r) w:=by
 refine h.head (fun F hF=>?_)
 obtain ⟨hl,⟨_,h0,_⟩ | ⟨b',off',c',arr,hv,hb,hh,hx,hs,hc⟩⟩:=(show Ev.SlV e sz _ (n+1) xs F w from hF)
 ·cases h0
 ·cases hv
  rw [Nat.add_mul,Nat.one_mul] at hl
  refine ⟨by rw [List.length_drop,hl]; omega,.inr ⟨b,off+sz,c - 1,arr,rfl,hb,hh,fun i hi=>?_,?_,by omega⟩⟩
  ·rw [List.getElem?_drop,← hx (sz+i) (by rw [Nat.add_mul,Nat.one_mul]; omega),Nat.add_assoc]
  ·obtain ⟨k,rfl⟩ : ∃ k,c=k+1:=⟨c - 1,by omega⟩
   rw [Nat.add_mul,Nat.one_mul] at hs
   show off+sz+k * sz≤arr.size
   omega
abbrev memB (ops c1 c2 c3 c4 c5:Int) (lg cl:Value) : List Value:=[.int .u64 ops,.int .u64 c1,.int .u64 c2,.int .u64 c3,.int .u64 c4,.int .u64 c5,lg,cl]
set_option maxHeartbeats 4000000 in
theorem note_in (m:Nat) {bm n:Nat} {ops c1 c2 c3 c4 c5:Int} {lg cl:Value} {xl:List Value} (hn:n≤256) (kd a x y:Int) (ok:Bool) (hk:kd=1∨kd=2∨kd=3) (h:Ev.Hold ctx (Ev.blkA bm (memB ops c1 c2 c3 c4 c5 lg cl) 137 :: Ev.slA 234 4 lg n xl::r) w) :
  CallsIn Fence.wide m Tryz.prog 157 #[.pointer (some ⟨bm,0,none⟩),.agg #[.int .i64 kd,.int .i64 a,.int .u64 x,.int .u64 y],.bool ok] w fun e w'=>e=.returned (.tuple #[]) ∧
   ∃ c1 c2 c3 c4 c5 lg n,n≤256∧∃ xl,Ev.Hold ctx (Ev.blkA bm (memB (IntKind.u64.wrap (ops+1)) c1 c2 c3 c4 c5 lg cl) 137 :: Ev.slA 234 4 lg n xl::r) w':=by
 obtain ⟨al,kl,rfl⟩:=slr_val (hold_slr (hold_drop (r:=[_]) h))
 refine callsIn_of_wp Tryz.func157 rfl trivial ?_ rfl
 simp only [Tryz.ntmps157,List.size_toArray,List.length_cons,List.length_nil,Nat.reduceAdd,Nat.reduceSub,Array.replicate_succ,Array.replicate_zero,List.push_toArray,List.append_toArray,List.nil_append,List.cons_append]
 have h0:=hold_swap (hold_new [.int .i64 kd,.int .i64 a,.int .u64 x,.int .u64 y] 234 h)
 obtain ⟨bx,hbx⟩ : ∃ bx,w.heap.size=bx:=⟨_,rfl⟩
 rw [hbx] at h0
 obtain ⟨W0,hW0⟩ : ∃ W0,w.alloc (.cells ([.int .i64 kd,.int .i64 a,.int .u64 x,.int .u64 y] : List Value).toArray 234)=W0:=⟨_,rfl⟩
 rw [hW0] at h0
 have hcs:∀ {ops c1 c2 c3 c4 c5:Int} {lg:Value} {r':List Ev.Asr} {W:World},Ev.Hold ctx (Ev.blkA bm (memB ops c1 c2 c3 c4 c5 lg cl) 137 :: Ev.blkA bx [.int .i64 kd,.int .i64 a,.int .u64 x,.int .u64 y] 234 :: r') W →
   (∀ i,W.frozen? ⟨bm,i,none⟩=false)∧W.cell? ⟨bm,0,none⟩=some (.int .u64 ops)∧W.cell? ⟨bm,1,none⟩=some (.int .u64 c1)∧W.cell? ⟨bm,2,none⟩=some (.int .u64 c2)∧W.cell? ⟨bm,3,none⟩=some (.int .u64 c3)∧W.cell? ⟨bm,4,none⟩=some (.int .u64 c4)∧W.cell? ⟨bm,5,none⟩=some (.int .u64 c5)∧W.cell? ⟨bm,6,none⟩=some lg ∧
   W.cell? ⟨bx,0,none⟩=some (.int .i64 kd)∧W.cell? ⟨bx,1,none⟩=some (.int .i64 a)∧W.cell? ⟨bx,2,none⟩=some (.int .u64 x)∧W.cell? ⟨bx,3,none⟩=some (.int .u64 y):=fun hh =>
  ⟨fun i=>froz_of (hold_blk hh) i,cell_of (hold_blk hh) 0 _ rfl,cell_of (hold_blk hh) 1 _ rfl,cell_of (hold_blk hh) 2 _ rfl,cell_of (hold_blk hh) 3 _ rfl,cell_of (hold_blk hh) 4 _ rfl,cell_of (hold_blk hh) 5 _ rfl,cell_of (hold_blk hh) 6 _ rfl,
   cell_of (hold_blk (hold_drop (r:=[_]) hh)) 0 _ rfl,cell_of (hold_blk (hold_drop (r:=[_]) hh)) 1 _ rfl,cell_of (hold_blk (hold_drop (r:=[_]) hh)) 2 _ rfl,cell_of (hold_blk (hold_drop (r:=[_]) hh)) 3 _ rfl⟩
 obtain ⟨f0,d0,d1,d2,d3,d4,d5,d6,e0,e1,e2,e3⟩:=hcs h0
 gi_upto_region 3 with fail
 have h1:=hold_set 0 (.int .u64 (IntKind.u64.wrap (ops+1))) h0
 obtain ⟨W1,hW1⟩ : ∃ W1,W0.setCell ⟨bm,0,none⟩ (.int .u64 (IntKind.u64.wrap (ops+1)))=W1:=⟨_,rfl⟩
 rw [hW1] at h1 ⊢
 clear hW1 f0 d0 d1 d2 d3 d4 d5 d6 e0 e1 e2 e3 h0 hW0 W0
 obtain ⟨f0,d0,d1,d2,d3,d4,d5,d6,e0,e1,e2,e3⟩:=hcs h1
 rcases hk with rfl | rfl | rfl
 case' inl =>
  gi_upto_region 11 with fail
  have h2:=hold_set 1 (.int .u64 (IntKind.u64.wrap (c1+1))) h1
  obtain ⟨W2,hW2⟩ : ∃ W2,W1.setCell ⟨bm,1,none⟩ (.int .u64 (IntKind.u64.wrap (c1+1)))=W2:=⟨_,rfl⟩
 case' inr.inl =>
  gi_upto_region 11 with fail
  have h2:=hold_set 2 (.int .u64 (IntKind.u64.wrap (c2+1))) h1
  obtain ⟨W2,hW2⟩ : ∃ W2,W1.setCell ⟨bm,2,none⟩ (.int .u64 (IntKind.u64.wrap (c2+1)))=W2:=⟨_,rfl⟩
 case' inr.inr =>
  cases ok
 case' inr.inr.false =>
  gi_upto_region 11 with fail
  have h2:=hold_set 4 (.int .u64 (IntKind.u64.wrap (c4+1))) h1
  obtain ⟨W2,hW2⟩ : ∃ W2,W1.setCell ⟨bm,4,none⟩ (.int .u64 (IntKind.u64.wrap (c4+1)))=W2:=⟨_,rfl⟩
 case' inr.inr.true =>
  gi_upto_region 11 with fail
  have h2:=hold_set 3 (.int .u64 (IntKind.u64.wrap (c3+1))) h1
  obtain ⟨W2,hW2⟩ : ∃ W2,W1.setCell ⟨bm,3,none⟩ (.int .u64 (IntKind.u64.wrap (c3+1)))=W2:=⟨_,rfl⟩
 all_goals
  rw [hW2] at h2 ⊢
  clear hW2 f0 d0 d1 d2 d3 d4 d5 d6 e0 e1 e2 e3 h1
  obtain ⟨q0,g1,g2,g3,g4,g5,hq0,h2⟩ : ∃ q0 g1 g2 g3 g4 g5,q0.oneCell'=true∧Ev.Hold ctx (Ev.blkA bm (memB (IntKind.u64.wrap (ops+1)) g1 g2 g3 g4 g5 (.slice al n kl) cl) 137 :: Ev.blkA bx [q0,.int .i64 a,.int .u64 x,.int .u64 y] 234 :: Ev.slA 234 4 (.slice al n kl) n xl::r) W2:=⟨_,_,_,_,_,_,rfl,h2⟩
  have hs:∀ {l:Value} {r':List Ev.Asr} {W:World},Ev.Hold ctx (Ev.blkA bm (memB (IntKind.u64.wrap (ops+1)) g1 g2 g3 g4 g5 l cl) 137 :: Ev.blkA bx [q0,.int .i64 a,.int .u64 x,.int .u64 y] 234 :: r') W →
    W.cell? ⟨bm,6,none⟩=some l∧W.frozen? ⟨bm,6,none⟩=false∧W.cell? ⟨bx,0,none⟩=some q0∧W.cell? ⟨bx,1,none⟩=some (.int .i64 a)∧W.cell? ⟨bx,2,none⟩=some (.int .u64 x)∧W.cell? ⟨bx,3,none⟩=some (.int .u64 y):=fun hh =>
   ⟨cell_of (hold_blk hh) 6 _ rfl,froz_of (hold_blk hh) 6,cell_of (hold_blk (hold_drop (r:=[_]) hh)) 0 _ rfl,cell_of (hold_blk (hold_drop (r:=[_]) hh)) 1 _ rfl,cell_of (hold_blk (hold_drop (r:=[_]) hh)) 2 _ rfl,cell_of (hold_blk (hold_drop (r:=[_]) hh)) 3 _ rfl⟩
  obtain ⟨i,z,hi,hz7,hz,hzz,hby⟩:=infAcc
  have h3:=hold_keep h2 (Below.refl _ _).drew
  have h4:Ev.Hold ctx (Ev.blkA W2.heap.size [q0,.int .i64 a,.int .u64 x,.int .u64 y] 234 :: _) (W2.alloc (.cells #[q0,.int .i64 a,.int .u64 x,.int .u64 y] 234)).drew:=hold_keep (hold_new [q0,.int .i64 a,.int .u64 x,.int .u64 y] 234 h2) (Below.refl _ _).drew
  have hsrc:Src Tryz.prog i.size 133 (.slice (some ⟨W2.heap.size,0,none⟩) 1 1) 1 [q0,.int .i64 a,.int .u64 x,.int .u64 y] (W2.alloc (.cells #[q0,.int .i64 a,.int .u64 x,.int .u64 y] 234)).drew :=
   Src.ofSlice _ Tryz.underlying133 ⟨W2.heap.size,0,none⟩ 1 1 _ (by rw [hz7]; rfl) (fun j y hj=>by rw [Ev.addMk,Nat.zero_add]; exact cell_of (hold_blk h4) j y (by rw [List.getElem?_toArray]; exact hj)) (by intro u hu; simp only [List.mem_cons,List.not_mem_nil,or_false] at hu; rcases hu with rfl | rfl | rfl | rfl <;> first | exact hq0 | rfl)
  obtain ⟨a5,k5,W5,r5,h5⟩:=happ Tryz.underlying133 hi hz hzz hsrc (by rw [hby]; omega) (by omega) (show Ev.Hold ctx (Ev.slA 234 i.size (.slice al n kl) n xl::_) _ by rw [hz7]; exact hold_up [_,_,_] h4)
  rw [hz7] at h5
  obtain ⟨b5,o5,n5,hv,_,_⟩:=sl_some h5 (by omega) (by decide)
  cases hv
  have h6:=hold_up [_,_,_] (hold_up [_,_,_] h5)
  have h7:=hold_set 6 (.slice (some ⟨b5,o5,none⟩) (n+1) k5) h6
  obtain ⟨y0,y1,y2⟩:=hs h3
  obtain ⟨z0,z1,z2⟩:=hs (hold_drop (r:=[_]) h4)
  obtain ⟨x0,x1,x2⟩:=hs h6
  obtain ⟨_,_,u2⟩:=hs h7
  refine wpIn_wide.2 ?_
  refine wp_region_noPanic ?_
  refine wp_region_held_drew (S:=(fun w'=>w'.cell? ⟨bx,0,none⟩=some q0∧w'.cell? ⟨bx,1,none⟩=some (.int .i64 a)∧w'.cell? ⟨bx,2,none⟩=some (.int .u64 x)∧w'.cell? ⟨bx,3,none⟩=some (.int .u64 y))) (by kernel_rfl) ?_ (fun hHeld=>?_)
  ·(try dsimp only) <;> ((first | with_reducible exact y2 | with_reducible exact z2 | with_reducible exact x2 | with_reducible exact u2))
  refine wpAnyH_take (i:=0) (v:=?_) rfl (by kernel_rfl) (by kernel_rfl) (by kernel_rfl) (fun _ _ _ h=>h) (Or.inl ⟨by kernel_rfl,?_⟩) (by assumption) ?_
  rotate_left
  ·intro w hSw; (try dsimp only at hSw); go_simp; try with_reducible rfl
  try simp only [Act.put,List.setIfInBounds_toArray,List.set_cons_zero,List.set_cons_succ]
  refine wpAnyH_take (i:=1) (v:=?_) rfl (by kernel_rfl) (by kernel_rfl) (by kernel_rfl) (fun _ _ _ h=>h) (Or.inl ⟨by kernel_rfl,?_⟩) (by assumption) ?_
  rotate_left
  ·intro w hSw; (try dsimp only at hSw); go_simp; try with_reducible rfl
  try simp only [Act.put,List.setIfInBounds_toArray,List.set_cons_zero,List.set_cons_succ]
  refine wpAnyH_take (i:=2) (v:=?_) rfl (by kernel_rfl) (by kernel_rfl) (by kernel_rfl) (fun _ _ _ h=>h) (Or.inl ⟨by kernel_rfl,?_⟩) (by assumption) ?_
  rotate_left
  ·intro w hSw; (try dsimp only at hSw); go_simp; try with_reducible rfl
  try simp only [Act.put,List.setIfInBounds_toArray,List.set_cons_zero,List.set_cons_succ]
  refine wpAnyH_take (i:=3) (v:=?_) rfl (by kernel_rfl) (by kernel_rfl) (by kernel_rfl) (fun _ _ _ h=>h) (Or.inl ⟨by kernel_rfl,?_⟩) (by assumption) ?_
  rotate_left
  ·intro w hSw; (try dsimp only at hSw); go_simp; try with_reducible rfl
  try simp only [Act.put,List.setIfInBounds_toArray,List.set_cons_zero,List.set_cons_succ]
  refine wpAnyH_take (i:=5) (v:=?_) rfl (by kernel_rfl) (by kernel_rfl) (by kernel_rfl) (fun _ _ _ h=>h) (Or.inl ⟨by kernel_rfl,?_⟩) (by assumption) ?_
  rotate_left
  ·intro w hSw; (try dsimp only at hSw); go_simp; try with_reducible rfl
  try simp only [Act.put,List.setIfInBounds_toArray,List.set_cons_zero,List.set_cons_succ]
  refine wpAnyH_ready (rs:=[4,6]) (by kernel_rfl) (by simp) ?_
  refine AllReadyH.cons rfl (fun K hK=>?_) ?_
  focus
   go_simp
   refine hK.out _ _ ?_ (fun hHeld=>?_)
   ·(try dsimp only) <;> ((first | with_reducible exact y2 | with_reducible exact z2 | with_reducible exact x2 | with_reducible exact u2))
   clear hK K
   try simp only [Act.put,List.setIfInBounds_toArray,List.set_cons_zero,List.set_cons_succ]
   refine wpAnyH_ready (rs:=[6]) (by kernel_rfl) (by simp) ?_
   refine AllReadyH.cons rfl (fun K hK=>?_) AllReadyH.nil
   go_simp
   refine hK.out _ _ ?_ (fun hHeld=>?_)
   ·(try dsimp only) <;> ((first | with_reducible exact y2 | with_reducible exact z2 | with_reducible exact x2 | with_reducible exact u2))
   clear hK K
   try simp only [Act.put,List.setIfInBounds_toArray,List.set_cons_zero,List.set_cons_succ]
   refine wpAnyH_ready (rs:=[7]) (by kernel_rfl) (by simp) ?_
   refine AllReadyH.cons rfl (fun K hK=>?_) AllReadyH.nil
   (((first | (rw [if_pos (by rfl)]; refine wp_append_run _ _ _ rfl r5 ?_) | (refine wp_append_run _ _ _ rfl r5 ?_))))
   first | refine hK.out _ _ ?_ (fun hHeld=>?_) | (go_wp2_with fail; refine hK.out _ _ ?_ (fun hHeld=>?_))
   ·(try dsimp only) <;> ((first | with_reducible exact y2 | with_reducible exact z2 | with_reducible exact x2 | with_reducible exact u2))
   clear hK K
   try simp only [Act.put,List.setIfInBounds_toArray,List.set_cons_zero,List.set_cons_succ]
   refine wpAnyH_take (i:=8) (v:=?_) rfl (by kernel_rfl) (by kernel_rfl) (by kernel_rfl) (fun _ _ _ h=>h) (Or.inl ⟨by kernel_rfl,?_⟩) (by assumption) ?_
   rotate_left
   ·intro w hSw; (try dsimp only at hSw); go_simp; try with_reducible rfl
   try simp only [Act.put,List.setIfInBounds_toArray,List.set_cons_zero,List.set_cons_succ]
   refine wpAnyH_take (i:=9) (v:=?_) rfl (by kernel_rfl) (by kernel_rfl) (by kernel_rfl) (fun _ _ _ h=>h) (Or.inl ⟨by kernel_rfl,?_⟩) (by assumption) ?_
   rotate_left
   ·intro w hSw; (try dsimp only at hSw); go_simp; try with_reducible rfl
   try simp only [Act.put,List.setIfInBounds_toArray,List.set_cons_zero,List.set_cons_succ]
   refine wpAnyH_ready (rs:=[10]) (by kernel_rfl) (by simp) ?_
   refine AllReadyH.cons rfl (fun K hK=>?_) AllReadyH.nil
   go_simp
   refine hK.out _ _ ?_ (fun hHeld=>?_)
   ·(try dsimp only) <;> ((first | with_reducible exact y2 | with_reducible exact z2 | with_reducible exact x2 | with_reducible exact u2))
   clear hK K
   try simp only [Act.put,List.setIfInBounds_toArray,List.set_cons_zero,List.set_cons_succ]
   refine wpAnyH_done (by kernel_rfl) ?_ _
  rotate_right
  focus
   refine AllReadyH.cons rfl (fun K hK=>?_) AllReadyH.nil
   go_simp
   refine hK.out _ _ ?_ (fun hHeld=>?_)
   ·(try dsimp only) <;> ((first | with_reducible exact y2 | with_reducible exact z2 | with_reducible exact x2 | with_reducible exact u2))
   clear hK K
   try simp only [Act.put,List.setIfInBounds_toArray,List.set_cons_zero,List.set_cons_succ]
   refine wpAnyH_ready (rs:=[4]) (by kernel_rfl) (by simp) ?_
   refine AllReadyH.cons rfl (fun K hK=>?_) AllReadyH.nil
   go_simp
   refine hK.out _ _ ?_ (fun hHeld=>?_)
   ·(try dsimp only) <;> ((first | with_reducible exact y2 | with_reducible exact z2 | with_reducible exact x2 | with_reducible exact u2))
   clear hK K
   try simp only [Act.put,List.setIfInBounds_toArray,List.set_cons_zero,List.set_cons_succ]
   refine wpAnyH_ready (rs:=[7]) (by kernel_rfl) (by simp) ?_
   refine AllReadyH.cons rfl (fun K hK=>?_) AllReadyH.nil
   (((first | (rw [if_pos (by rfl)]; refine wp_append_run _ _ _ rfl r5 ?_) | (refine wp_append_run _ _ _ rfl r5 ?_))))
   first | refine hK.out _ _ ?_ (fun hHeld=>?_) | (go_wp2_with fail; refine hK.out _ _ ?_ (fun hHeld=>?_))
   ·(try dsimp only) <;> ((first | with_reducible exact y2 | with_reducible exact z2 | with_reducible exact x2 | with_reducible exact u2))
   clear hK K
   try simp only [Act.put,List.setIfInBounds_toArray,List.set_cons_zero,List.set_cons_succ]
   refine wpAnyH_take (i:=8) (v:=?_) rfl (by kernel_rfl) (by kernel_rfl) (by kernel_rfl) (fun _ _ _ h=>h) (Or.inl ⟨by kernel_rfl,?_⟩) (by assumption) ?_
   rotate_left
   ·intro w hSw; (try dsimp only at hSw); go_simp; try with_reducible rfl
   try simp only [Act.put,List.setIfInBounds_toArray,List.set_cons_zero,List.set_cons_succ]
   refine wpAnyH_take (i:=9) (v:=?_) rfl (by kernel_rfl) (by kernel_rfl) (by kernel_rfl) (fun _ _ _ h=>h) (Or.inl ⟨by kernel_rfl,?_⟩) (by assumption) ?_
   rotate_left
   ·intro w hSw; (try dsimp only at hSw); go_simp; try with_reducible rfl
   try simp only [Act.put,List.setIfInBounds_toArray,List.set_cons_zero,List.set_cons_succ]
   refine wpAnyH_ready (rs:=[10]) (by kernel_rfl) (by simp) ?_
   refine AllReadyH.cons rfl (fun K hK=>?_) AllReadyH.nil
   go_simp
   refine hK.out _ _ ?_ (fun hHeld=>?_)
   ·(try dsimp only) <;> ((first | with_reducible exact y2 | with_reducible exact z2 | with_reducible exact x2 | with_reducible exact u2))
   clear hK K
   try simp only [Act.put,List.setIfInBounds_toArray,List.set_cons_zero,List.set_cons_succ]
   refine wpAnyH_done (by kernel_rfl) ?_ _
  all_goals (refine NoPanic.normal ?_)
  all_goals
   replace h7:=hold_drop (r:=[_]) (hold_up [_,_] (hold_drop (r:=[_]) (hold_swap h7)))
   have v6:=cell_of (hold_blk h7) 6 _ rfl
   have p6:=froz_of (hold_blk h7) 6
   by_cases h256:n < 256
   ·have hlI:¬ (256:Int) < (n:Int)+1:=by omega
    gi_wp2
    exact bodyPost_end (results_none rfl _ _ _) rfl ⟨rfl,g1,g2,g3,g4,g5,.slice (some ⟨b5,o5,none⟩) (n+1) k5,n+1,by omega,_,h7⟩
   ·have hk5:=sl_cap (hold_drop (r:=[_]) h7)
    obtain rfl:n=256:=by omega
    have hk6:¬ k5 - 1=0:=by omega
    have h8:=hold_set 6 (.slice (some ⟨b5,o5+4,none⟩) 256 (k5 - 1)) (hold_swap (sl_tail (hold_swap h7)))
    gi_wp2
    exact bodyPost_end (results_none rfl _ _ _) rfl ⟨rfl,g1,g2,g3,g4,g5,.slice (some ⟨b5,o5+4,none⟩) 256 (k5 - 1),256,by omega,_,h8⟩
end
end Go.Proofs.YtkmccgombmogmaaGreat
namespace Go.Proofs.YtkmccgombmogmaaGreat
open Go.RowKit
set_option linter.unusedVariables false
set_option linter.unusedSimpArgs false
set_option maxRecDepth 8000
section
variable {ctx:Ev.Ctx} {w:World} {r:List Ev.Asr} {bm a:Nat} {mm:MemM}
theorem mem_open {bm:Nat} {m:MemM} {l:List Ev.Asr} {c:Ev.Ctx} {w:World} (h:Ev.Hold c (memA bm m::l) w) : ∃ x,x.2.2.2.2.2.2.2.1≤256∧Ev.leafV x.2.2.2.2.2.1=true∧Ev.leafV x.2.2.2.2.2.2.1=true∧Ev.Hold c (memL bm m x++l) w:=by
 obtain ⟨⟨c1,c2,c3,c4,c5,lg,cl,n,xl⟩,hx,hh⟩:=h.getX
 have h2:=hh.open
 exact ⟨_,hx,hold_leaf (hold_drop (r:=[_,_]) h2),hold_leaf (hold_drop (r:=[_]) h2),h2⟩
theorem mem_shut {bm:Nat} {m:MemM} {l:List Ev.Asr} {c:Ev.Ctx} {w:World} (x:Int×Int×Int×Int×Int×Value×Value×Nat×List Value) (hx:x.2.2.2.2.2.2.2.1≤256) (h:Ev.Hold c (memL bm m x++l) w) : Ev.Hold c (memA bm m::l) w:=Ev.Hold.putX x hx (Ev.Hold.shut h)
theorem acc_in (m:Nat) {x y kd:Int} {ok:Bool} {f:FuncId} {caps:Array Value} (hk:kd=1∨kd=2∨kd=3) (hx:mm.cells[a]? = some x) (ha:(a:Int)≤9223372036854775807)
  (he:∀ W,(callFunc f (#[.int .u64 x]++caps)).run Tryz.prog W=.ok (.enter f (#[.int .u64 x]++caps)) W) (hf:∀ W,Ev.Hold ctx r W→Calls Tryz.prog f (#[.int .u64 x]++caps) W fun e w'=>e=.returned (.tuple #[.int .u64 y,.bool ok])∧w'=W) (h:Ev.Hold ctx (memA bm mm::r) w) :
  CallsIn Fence.wide m Tryz.prog 152 #[.pointer (some ⟨bm,0,none⟩),.int .i64 kd,.int .i64 (a:Int),.func (.func f) #[] caps] w fun e w'=>e=.returned (.tuple #[.int .u64 x,.bool ok])∧Ev.Hold ctx (memA bm (mm.put a y)::r) w':=by
 obtain ⟨⟨c1,c2,c3,c4,c5,lg,cl,n,xl⟩,hn,-,-,h0⟩:=mem_open h
 obtain ⟨hlt,hxe⟩:=List.getElem?_eq_some_iff.1 hx
 have hltI:(a:Int) < (mm.cells.length:Int):=by omega
 obtain ⟨b,off,cc,hv,hc,hl⟩:=sl_some (hold_drop (r:=[_]) h0) (by omega) (by decide)
 subst hv
 have d7:=cell_of (hold_blk h0) 7 _ rfl
 have e1:=hc a (by omega)
 have f1:=sl_froz (hold_drop (r:=[_]) h0) (m:=a) (by omega)
 rw [show (u64s mm.cells)[a]? = some (.int .u64 x) by simp [u64s,hx]] at e1
 clear hc
 have hth:CallsIn Fence.wide (m - 1) Tryz.prog 156 #[.pointer (some ⟨bm,0,none⟩),.int .i64 (a:Int)] w fun e w'=>e=.returned (.bool true)∧w'=w:=by
  refine callsIn_of_wp Tryz.func156 rfl trivial ?_ rfl
  simp only [Tryz.ntmps156,List.size_toArray,List.length_cons,List.length_nil,Nat.reduceAdd,Nat.reduceSub,Array.replicate_succ,Array.replicate_zero,List.push_toArray,List.append_toArray,List.nil_append,List.cons_append]
  gi_wp2
  exact bodyPost_ret (results_tmp rfl _ _ _) rfl ⟨rfl,rfl⟩
 refine callsIn_of_wp Tryz.func152 rfl trivial ?_ rfl
 simp only [Tryz.ntmps152,List.size_toArray,List.length_cons,List.length_nil,Nat.reduceAdd,Nat.reduceSub,Array.replicate_succ,Array.replicate_zero,List.push_toArray,List.append_toArray,List.nil_append,List.cons_append]
 gi_wp2
 refine ⟨trivial,fun h=>by simp [Fence.wide] at h,hth.mono ?_⟩
 clear hth
 rintro e w2 ⟨rfl,hw2⟩
 replace hw2:=hw2.symm
 subst hw2
 gi_wp2
 refine ⟨trivial,fun h=>by simp [Fence.wide] at h,(callsIn_wide.2 (hf _ (hold_drop (r:=[_,_,_]) h0))).mono ?_⟩
 clear hf he
 rintro e w2 ⟨rfl,hw2⟩
 replace hw2:=hw2.symm
 subst hw2
 have h1:=hold_setS (i:=a) (.int .u64 y) (by omega) (hold_up [_] h0)
 gi_wp2
 refine ⟨trivial,fun h=>by simp [Fence.wide] at h,(note_in (m - 1) hn kd a x y ok hk (r:=Ev.slA 51 1 _ _ _::r) (hold_dn [_,_] h1)).mono ?_⟩
 rintro e w3 ⟨rfl,c1',c2',c3',c4',c5',lg',n',hn',xl',h2⟩
 gi_wp2
 refine bodyPost_ret (results_two rfl _) rfl ⟨rfl,mem_shut (m:=mm.put a y) (c1',c2',c3',c4',c5',lg',.slice (some ⟨b,off,none⟩) mm.cells.length cc,n',xl') hn' ?_⟩
 have h3:=hold_swap (hold_up [_,_] h2)
 rw [show (u64s mm.cells).set a (.int .u64 y)=u64s (mm.cells.set a y) by simp [u64s,List.map_set]] at h3
 show Ev.Hold ctx (_::Ev.slA _ 1 _ (mm.cells.set a y).length _::_::r) _
 rw [List.length_set]
 exact h3
theorem load_in (m:Nat) {x:Int} (hx:mm.cells[a]? = some x) (ha:(a:Int)≤9223372036854775807) (h:Ev.Hold ctx (memA bm mm::r) w) :
  CallsIn Fence.wide m Tryz.prog 150 #[.pointer (some ⟨bm,0,none⟩),.int .i64 (a:Int)] w fun e w'=>e=.returned (.int .u64 x)∧Ev.Hold ctx (memA bm mm.tick::r) w':=by
 refine callsIn_of_wp Tryz.func150 rfl trivial ?_ rfl
 simp only [Tryz.ntmps150,List.size_toArray,List.length_cons,List.length_nil,Nat.reduceAdd,Nat.reduceSub,Array.replicate_succ,Array.replicate_zero,List.push_toArray,List.append_toArray,List.nil_append,List.cons_append]
 gi_wp2
 refine ⟨trivial,fun h=>by simp [Fence.wide] at h,(acc_in (m - 1) (y:=x) (ok:=true) (.inl rfl) hx ha (fun W=>rfl) (fun W _=>?_) h).mono ?_⟩
 ·go_enter Tryz.func155,Tryz.ntmps155
  go_wp2
  exact bodyPost_ret (results_two rfl _) rfl ⟨rfl,rfl⟩
 rintro e w' ⟨rfl,h1⟩
 rw [MemM.put_same hx] at h1
 gi_wp2
 exact bodyPost_ret (results_tmp rfl _ _ _) rfl ⟨rfl,h1⟩
theorem store_in (m:Nat) {x:Int} (hx:mm.cells[a]? = some x) (ha:(a:Int)≤9223372036854775807) (v:Int) (h:Ev.Hold ctx (memA bm mm::r) w) :
  CallsIn Fence.wide m Tryz.prog 147 #[.pointer (some ⟨bm,0,none⟩),.int .i64 (a:Int),.int .u64 v] w fun e w'=>e=.returned (.tuple #[])∧Ev.Hold ctx (memA bm (mm.put a v)::r) w':=by
 refine callsIn_of_wp Tryz.func147 rfl trivial ?_ rfl
 simp only [Tryz.ntmps147,List.size_toArray,List.length_cons,List.length_nil,Nat.reduceAdd,Nat.reduceSub,Array.replicate_succ,Array.replicate_zero,List.push_toArray,List.append_toArray,List.nil_append,List.cons_append]
 have h1:=hold_new [.int .u64 v] 51 h
 gi_wp2
 refine ⟨trivial,fun h=>by simp [Fence.wide] at h,(acc_in (m - 1) (y:=v) (ok:=true) (.inr (.inl rfl)) hx ha (fun W=>rfl) (fun W hW=>?_) (hold_swap h1)).mono ?_⟩
 ·have c0:=cell_of (hold_blk hW) 0 _ rfl
  go_enter Tryz.func153,Tryz.ntmps153
  go_wp2
  exact bodyPost_ret (results_two rfl _) rfl ⟨rfl,rfl⟩
 rintro e w' ⟨rfl,h1⟩
 gi_wp2
 exact bodyPost_end (results_none rfl _ _ _) rfl ⟨rfl,hold_drop (r:=[_]) (hold_swap h1)⟩
set_option maxHeartbeats 1000000 in
theorem cas_in (m:Nat) {x:Int} (hx:mm.cells[a]? = some x) (ha:(a:Int)≤9223372036854775807) (u v:Int) (h:Ev.Hold ctx (memA bm mm::r) w) :
  CallsIn Fence.wide m Tryz.prog 154 #[.pointer (some ⟨bm,0,none⟩),.int .i64 (a:Int),.int .u64 u,.int .u64 v] w fun e w'=>e=.returned (.bool (decide (x=u)))∧Ev.Hold ctx (memA bm (if x=u then mm.put a v else mm.tick)::r) w':=by
 refine callsIn_of_wp Tryz.func154 rfl trivial ?_ rfl
 simp only [Tryz.ntmps154,List.size_toArray,List.length_cons,List.length_nil,Nat.reduceAdd,Nat.reduceSub,Array.replicate_succ,Array.replicate_zero,List.push_toArray,List.append_toArray,List.nil_append,List.cons_append]
 obtain ⟨z,hz⟩ : ∃ z,decide (x=u)=z:=⟨_,rfl⟩
 obtain ⟨M,hM⟩ : ∃ M,(if x=u then mm.put a v else mm.tick)=M:=⟨_,rfl⟩
 obtain ⟨y,hy⟩ : ∃ y,(if x=u then v else x)=y:=⟨_,rfl⟩
 have hp:mm.put a y=M:=by
  rw [← hM,← hy]
  by_cases hu:x=u
  ·rw [if_pos hu,if_pos hu]
  ·rw [if_neg hu,if_neg hu,MemM.put_same hx]
 have hc:∀ W c0 c1,W.cell? c0=some (.int .u64 u)→W.cell? c1=some (.int .u64 v)→Calls Tryz.prog 158 #[.int .u64 x,.pointer (some c0),.pointer (some c1)] W fun e w'=>e=.returned (.tuple #[.int .u64 y,.bool z])∧w'=W:=fun W b0 b1 c0 c1=>by
  subst hy hz
  go_enter Tryz.func158,Tryz.ntmps158
  by_cases hu:x=u
  ·have hb:(x != u)=false:=by simpa using hu
   go_wp2
   exact bodyPost_ret (results_two rfl _) rfl ⟨by simp [hu],rfl⟩
  ·have hb:(x != u)=true:=by simpa using hu
   go_wp2
   exact bodyPost_ret (results_two rfl _) rfl ⟨by simp [hu],rfl⟩
 rw [hM,hz]
 clear hM hy hz
 have h1:=hold_new [.int .u64 v] 51 (hold_new [.int .u64 u] 51 h)
 rw [show (w.alloc (.cells ([.int .u64 u] : List Value).toArray 51)).heap.size=w.heap.size+1 by simp] at h1
 gi_wp2
 refine ⟨trivial,fun h=>by simp [Fence.wide] at h,(acc_in (m - 1) (y:=y) (ok:=z) (.inr (.inr rfl)) hx ha (fun W=>?_) (fun W hW=>?_) (hold_up [_,_] h1)).mono ?_⟩
 ·rfl
 ·exact hc W _ _ (cell_of (hold_blk (hold_drop (r:=[_]) hW)) 0 _ rfl) (cell_of (hold_blk hW) 0 _ rfl)
 rintro e w' ⟨rfl,h1⟩
 rw [hp] at h1
 replace h1:Ev.Hold ctx (memA bm M::r) w':=hold_drop (r:=[_,_]) (hold_dn [_,_] h1)
 gi_wp2
 exact bodyPost_ret (results_tmp rfl _ _ _) rfl ⟨rfl,h1⟩
end
end Go.Proofs.YtkmccgombmogmaaGreat
namespace Go.Proofs.YtkmccgombmogmaaGreat
open Go.RowKit
set_option linter.unusedVariables false
set_option linter.unusedSimpArgs false
set_option maxRecDepth 8000
def uA (v:Value) (xs:List Int) : Ev.Asr:=Ev.slA 51 1 v xs.length (u64s xs)
section
variable {ctx:Ev.Ctx} {w:World} {r:List Ev.Asr} {rv:Value} {xs:List Int} {a:Nat}
theorem one_u64s (l:List Int) : ∀ u ∈ u64s l,u.oneCell'=true:=by
 intro u h
 obtain ⟨n,_,rfl⟩:=List.mem_map.1 h
 rfl
theorem ucopy {y:Value} {ys:List Int} (hn:ys.length≤1000000) (h:Ev.Hold ctx (uA y ys::r) w) :
  ∃ b k w',(Builtin.append_ #[50,50] 50 #[.slice none 0 0,y]).run Tryz.prog w=.ok (.slice b ys.length k) w'∧Ev.Hold ctx (uA (.slice b ys.length k) ys::uA y ys::r) w':=by
 obtain ⟨i,hi,hz,h0,hby⟩:=infU64
 have hs:=hold_slr h
 have hsrc:Src Tryz.prog i.size 50 y ys.length (u64s ys) w:=by rw [hz]; exact hs.src Tryz.underlying50 (one_u64s ys)
 obtain ⟨b,k,w',r1,h1⟩:=happ Tryz.underlying50 hi h0 (by rw [hz]; rfl) hsrc (by rw [hby]; omega) (by omega) (h.nilSl (e := 51) (sz:=i.size))
 rw [Nat.zero_add,hz] at h1
 rw [Nat.zero_add] at r1
 exact ⟨b,k,w',r1,h1⟩
theorem rthere_in (m:Nat) {ops:Int} (ha:a < xs.length) (h:Ev.Hold ctx (uA rv xs::r) w) :
  CallsIn Fence.wide m Tryz.prog 108 #[.agg #[rv,.int .u64 ops],.int .i64 (a:Int)] w fun e w'=>e=.returned (.bool true)∧Ev.Hold ctx (uA rv xs::r) w':=by
 obtain ⟨av,k,rfl⟩:=slr_val (hold_slr h)
 obtain ⟨b,W,hb,hW,g⟩:=newN [.slice av xs.length k,.int .u64 ops] 53 h
 have c0:=blkc g 0 _
 refine wen Tryz.func108 12 ?_
 gi_wp2
 exact bodyPost_ret (results_tmp rfl _ _ _) rfl ⟨rfl,hold_drop (r:=[_]) g⟩
theorem rload_in (m:Nat) {ops x:Int} (hx:xs[a]? = some x) (h:Ev.Hold ctx (uA rv xs::r) w) :
  CallsIn Fence.wide m Tryz.prog 80 #[.agg #[rv,.int .u64 ops],.int .i64 (a:Int)] w fun e w'=>e=.returned (.tuple #[.agg #[rv,.int .u64 (IntKind.u64.wrap (ops+1))],.int .u64 x])∧Ev.Hold ctx (uA rv xs::r) w':=by
 obtain ⟨ha,hxe⟩:=List.getElem?_eq_some_iff.1 hx
 obtain ⟨b1,o1,k1,hv,hc,hl⟩:=sl_some h (by omega) (by decide)
 subst hv
 obtain ⟨b,W,hb,hW,g⟩:=newN [.slice (some ⟨b1,o1,none⟩) xs.length k1,.int .u64 ops] 53 h
 obtain ⟨b2,W2,hb2,hW2,g2⟩:=newN [.slice none 0 0,.int .u64 0] 53 g
 have c0:=blkc (hold_up [_] g2) 0 _
 have c1:=blkc (hold_up [_] g2) 1 _
 refine wen Tryz.func80 20 ?_
 gi_wp2
 refine wcl (rthere_in (m - 1) ha (hold_up [_,_] g2)) ?_
 rintro e W3 ⟨rfl,g3⟩
 clear hW hW2 hb hb2 g g2 h hc c0 c1
 have x0:=blkc (hold_up [_] g3) 0 _
 have x1:=blkc (hold_up [_] g3) 1 _
 have x2:=froz_of (hold_blk (hold_up [_] g3)) 0
 have x3:=froz_of (hold_blk (hold_up [_] g3)) 1
 replace g3:=hold_keep g3 (Below.refl _ _).drew
 have hS:∀ {u v:Value} {W:World},Ev.Hold ctx (Ev.blkA b2 [u,v] 53 :: uA (.slice (some ⟨b1,o1,none⟩) xs.length k1) xs::Ev.blkA b [.slice (some ⟨b1,o1,none⟩) xs.length k1,.int .u64 ops] 53 :: r) W →
   W.cell? ⟨b,0,none⟩=some (.slice (some ⟨b1,o1,none⟩) xs.length k1)∧W.cell? ⟨b,1,none⟩=some (.int .u64 ops)∧W.cell? ⟨b1,o1+a,none⟩=some (.int .u64 x):=fun hh=>by
  obtain ⟨_,_,_,hv,hc,_⟩:=sl_some (hold_up [_] hh) (by omega) (by decide)
  cases hv
  refine ⟨blkc (hold_up [_,_] hh) 0 _,blkc (hold_up [_,_] hh) 1 _,?_⟩
  rw [hc a (by omega)]
  simp [u64s,hx]
 have g4:=hold_swap g3
 have g5:=hold_set 0 (.slice (some ⟨b1,o1,none⟩) xs.length k1) g4
 have g6:=hold_set 1 (.int .u64 (IntKind.u64.wrap (ops+1))) g5
 have hlI:(a:Int) < (xs.length:Int):=by omega
 gi_upto_region 3 with fail
 refine wpIn_wide.2 ?_
 go_region_held3 (fun W=>W.cell? ⟨b,0,none⟩=some (.slice (some ⟨b1,o1,none⟩) xs.length k1)∧W.cell? ⟨b,1,none⟩=some (.int .u64 ops)∧W.cell? ⟨b1,o1+a,none⟩=some (.int .u64 x)) ((first | exact hS g4 | exact hS g5 | exact hS g6)) (fail)
 gi_wp2
 exact post_cellT rfl rfl rfl (lv_all g6 Tryz.underlying53 rfl (by kernel_rfl)) ⟨rfl,hold_drop (r:=[_]) (hold_swap (hold_drop (r:=[_]) g6))⟩
theorem rwith_in (m:Nat) {ops:Int} (hn:xs.length≤1000000) (ha:a < xs.length) (v:Int) (h:Ev.Hold ctx (uA rv xs::r) w) :
  CallsIn Fence.wide m Tryz.prog 109 #[.agg #[rv,.int .u64 ops],.int .i64 (a:Int),.int .u64 v] w fun e w'=>∃ al,e=.returned (.agg #[al,.int .u64 (IntKind.u64.wrap (ops+1))])∧Ev.Hold ctx (uA al (xs.set a v)::uA rv xs::r) w':=by
 obtain ⟨av,k1,rfl⟩:=slr_val (hold_slr h)
 obtain ⟨b,W,hb,hW,g⟩:=newN [.slice av xs.length k1,.int .u64 ops] 53 h
 obtain ⟨b2,W2,hb2,hW2,g2⟩:=newN [.slice none 0 0,.int .u64 0] 53 g
 have c0:=blkc (hold_up [_] g2) 0 _
 have c1:=blkc (hold_up [_] g2) 1 _
 obtain ⟨al,k2,W3,r3,g3⟩:=ucopy hn (hold_up [_,_] g2)
 obtain ⟨b4,o4,k4,hv,hc,hl⟩:=sl_some g3 (by omega) (by decide)
 cases hv
 have g4:=hold_setS (i:=a) (.int .u64 v) (by omega) g3
 have hlI:(a:Int) < (xs.length:Int):=by omega
 have d1:=blkc (hold_up [_,_,_] g4) 1 _
 have d2:=sl_froz g3 (m:=a) (by omega)
 have d3:=hc a (by omega)
 rw [List.getElem?_eq_getElem (by omega)] at d3
 obtain ⟨W5,s5,g5⟩:=st_all (t := 53) (cs':=[.slice (some ⟨b4,o4,none⟩) xs.length k2,.int .u64 (IntKind.u64.wrap (ops+1))]) (hold_up [_,_] g4) rfl (by simp [Value.oneCell']) (by kernel_rfl)
 clear hc
 refine wen Tryz.func109 18 ?_
 gi_wp2_with (first | (gi_at_builtin; refine wpListIn_append_run rfl _ _ _ rfl r3 ?_) | refine wpListIn_store_run rfl _ _ _ rfl s5 rfl rfl ?_)
 refine post_cell rfl rfl rfl (lv_all g5 Tryz.underlying53 rfl (by kernel_rfl)) ⟨_,rfl,?_⟩
 have g6:=hsel [_,_,_,_] g5 [1,2]
 rw [show (u64s xs).set a (.int .u64 v)=u64s (xs.set a v) by simp [u64s,List.map_set]] at g6
 show Ev.Hold ctx (Ev.slA _ 1 _ (xs.set a v).length _::_::r) _
 rw [List.length_set]
 exact g6
theorem rstore_in (m:Nat) {ops:Int} (hn:xs.length≤1000000) (ha:a < xs.length) (v:Int) (h:Ev.Hold ctx (uA rv xs::r) w) :
  CallsIn Fence.wide m Tryz.prog 83 #[.agg #[rv,.int .u64 ops],.int .i64 (a:Int),.int .u64 v] w fun e w'=>∃ al,e=.returned (.agg #[al,.int .u64 (IntKind.u64.wrap (ops+1))])∧Ev.Hold ctx (uA al (xs.set a v)::uA rv xs::r) w':=by
 obtain ⟨b,W,hb,hW,g⟩:=newN [rv,.int .u64 ops] 53 h
 obtain ⟨b2,W2,hb2,hW2,g2⟩:=newN [.slice none 0 0,.int .u64 0] 53 g
 have c0:=blkc (hold_up [_] g2) 0 _
 have c1:=blkc (hold_up [_] g2) 1 _
 refine wen Tryz.func83 13 ?_
 gi_wp2
 refine wcl (rthere_in (m - 1) ha (hold_up [_,_] g2)) ?_
 rintro e W3 ⟨rfl,g3⟩
 have c0:=blkc (hold_up [_,_] g3) 0 _
 have c1:=blkc (hold_up [_,_] g3) 1 _
 gi_wp2
 refine wcl (rwith_in (m - 1) hn ha v g3) ?_
 rintro e W4 ⟨al,rfl,g4⟩
 obtain ⟨av,ak,rfl⟩ : ∃ p k,al=.slice p xs.length k:=by
  have:=slr_val (hold_slr g4)
  rwa [List.length_set] at this
 obtain ⟨W5,s5,g5⟩:=st_all (t := 53) (cs':=[.slice av xs.length ak,.int .u64 (IntKind.u64.wrap (ops+1))]) (hold_up [_,_] g4) rfl (by simp [Value.oneCell']) (by kernel_rfl)
 gi_wp2_with (refine wpListIn_store_run rfl _ _ _ rfl s5 rfl rfl ?_)
 exact post_cell rfl rfl rfl (lv_all g5 Tryz.underlying53 rfl (by kernel_rfl)) ⟨_,rfl,hsel [_,_,_,_] g5 [1,2]⟩
theorem rcas_in (m:Nat) {ops x:Int} (hn:xs.length≤1000000) (hx:xs[a]? = some x) (u v:Int) (h:Ev.Hold ctx (uA rv xs::r) w) :
  CallsIn Fence.wide m Tryz.prog 85 #[.agg #[rv,.int .u64 ops],.int .i64 (a:Int),.int .u64 u,.int .u64 v] w fun e w'=>∃ al,e=.returned (.tuple #[.agg #[al,.int .u64 (IntKind.u64.wrap (ops+1))],.bool (decide (x=u))])∧Ev.Hold ctx (uA al (if x=u then xs.set a v else xs)::r) w':=by
 obtain ⟨ha,hxe⟩:=List.getElem?_eq_some_iff.1 hx
 obtain ⟨b1,o1,k1,hv,hc,hl⟩:=sl_some h (by omega) (by decide)
 subst hv
 obtain ⟨b,W,hb,hW,g⟩:=newN [.slice (some ⟨b1,o1,none⟩) xs.length k1,.int .u64 ops] 53 h
 obtain ⟨b2,W2,hb2,hW2,g2⟩:=newN [.slice none 0 0,.int .u64 0] 53 g
 have c0:=blkc (hold_up [_] g2) 0 _
 have c1:=blkc (hold_up [_] g2) 1 _
 have hlI:(a:Int) < (xs.length:Int):=by omega
 refine wen Tryz.func85 28 ?_
 gi_wp2
 refine wcl (rthere_in (m - 1) ha (hold_up [_,_] g2)) ?_
 rintro e W3 ⟨rfl,g3⟩
 have c0:=blkc (hold_up [_,_] g3) 0 _
 have c1:=blkc (hold_up [_,_] g3) 1 _
 obtain ⟨_,_,_,hv,hc3,_⟩:=sl_some g3 (by omega) (by decide)
 cases hv
 have c2:=hc3 a (by omega)
 rw [show (u64s xs)[a]? = some (.int .u64 x) by simp [u64s,hx]] at c2
 clear hc hc3
 by_cases hu:x=u
 ·have hb:(x != u)=false:=by simpa using hu
  gi_wp2
  refine wcl (rwith_in (m - 1) hn ha v g3) ?_
  rintro e W4 ⟨al,rfl,g4⟩
  obtain ⟨av,ak,rfl⟩ : ∃ p k,al=.slice p xs.length k:=by
   have:=slr_val (hold_slr g4)
   rwa [List.length_set] at this
  obtain ⟨W5,s5,g5⟩:=st_all (t := 53) (cs':=[.slice av xs.length ak,.int .u64 (IntKind.u64.wrap (ops+1))]) (hold_up [_,_] g4) rfl (by simp [Value.oneCell']) (by kernel_rfl)
  gi_wp2_with (refine wpListIn_store_run rfl _ _ _ rfl s5 rfl rfl ?_)
  exact post_cellT rfl rfl rfl (lv_all g5 Tryz.underlying53 rfl (by kernel_rfl)) ⟨.slice av xs.length ak,by simp [hu],hsel [_,_,_,_] g5 [1]⟩
 ·have hb:(x != u)=true:=by simpa using hu
  obtain ⟨W5,s5,g5⟩:=st_all (t := 53) (cs':=[.slice (some ⟨b1,o1,none⟩) xs.length k1,.int .u64 (IntKind.u64.wrap (ops+1))]) (hold_up [_] g3) rfl (by simp [Value.oneCell']) (by kernel_rfl)
  gi_wp2_with (refine wpListIn_store_run rfl _ _ _ rfl s5 rfl rfl ?_)
  exact post_cellT rfl rfl rfl (lv_all g5 Tryz.underlying53 rfl (by kernel_rfl)) ⟨.slice (some ⟨b1,o1,none⟩) xs.length k1,by simp [hu],hsel [_,_,_] g5 [1]⟩
end
end Go.Proofs.YtkmccgombmogmaaGreat
namespace Go.Proofs.YtkmccgombmogmaaGreat
open Go.RowKit Go.Lib
set_option linter.unusedVariables false
set_option linter.unusedSimpArgs false
set_option maxHeartbeats 2000000 in
set_option maxRecDepth 100000 in
theorem clone_int_at (ad:Addr) (n c:Nat) (xs:List Value) (w:World) (hl:xs.length=n) (hn:n≤1000000) (hone:∀ u ∈ xs,u.oneCell'=true) (hc:∀ (j:Nat) u,xs[j]? = some u→w.cell? (ad.add j)=some u) :
  Calls Tryz.prog 97 #[.slice (some ad) n c] w fun e w'=>∃ v',e=.returned v'∧w'.ownsRow w.heap.size 3 1 v' n xs∧Below w.heap.size w w':=by
 have mixed:=mixed_ok
 obtain ⟨i0,hi,hz1,hz0,hz2⟩:=infInt
 have q22:∀ (w:World) (a:Option Addr) (n c n' c':Nat),(binOp .eql 35 (.slice a n c) (.slice none n' c')).run Tryz.prog w=.ok (.bool a.isNone) w:=fun w a n c n' c'=>Lib.run_eql_slice_nil w _ _ a n c n' c' Tryz.underlying35
 have A:Aside (∀ (j:Nat) u,xs[j]? = some u→w.cell? (ad.add j)=some u):=hc
 clear hc
 go_enter Tryz.func97,Tryz.ntmps97
 go_wp2_with (at_builtin; refine wpList_append_own _ rfl _ _ 35 rfl w.heap.size 3 i0 (.int .i64 0) 1 8 Tryz.underlying35 hi hz0 hz1 hz2 rfl (by decide) _ _ _ rfl (World.ownsRow_made w #[] 0 (Nat.le_refl _) (Nat.zero_le _) rfl) ad n c xs rfl ?qc1 ?qc2 ?qc3 ?qc4 ?qc5 ?qc6 ?_)
 case qc1=>simp; omega
 case qc2 =>
  intro j u hj
  refine Lib.cell?_alloc_some _ ?_
  exact A.out j u hj
 case qc3=>exact hone
 case qc4=>unfold maxLen; omega
 case qc5=>omega
 case qc6=>simp
 intro v' w1 hown hgrow hnil
 go_wp2
 go_ret
 refine ⟨v',rfl,by simpa using hown,?_⟩
 exact ((Below.refl _ w).alloc (Nat.le_refl _) _).grown hgrow (by simp) (by intro k hk; simp [Value.ownBlock] at hk; omega)
set_option maxHeartbeats 1000000 in
theorem clone_int_nil (n c:Nat) (w:World) :
  Calls Tryz.prog 97 #[.slice none n c] w fun e w'=>e=.returned (.slice none 0 0)∧w'=w:=by
 have mixed:=mixed_ok
 have q22:∀ (w:World) (a:Option Addr) (n c n' c':Nat),(binOp .eql 35 (.slice a n c) (.slice none n' c')).run Tryz.prog w=.ok (.bool a.isNone) w:=fun w a n c n' c'=>Lib.run_eql_slice_nil w _ _ a n c n' c' Tryz.underlying35
 go_enter Tryz.func97,Tryz.ntmps97
 go_wp2
 go_ret
 exact ⟨rfl,rfl⟩
theorem clone_int {v:Value} {n:Nat} {xs:List Value} {F:Nat→Prop} {w:World} (hn:n≤1000000) (hone:∀ u ∈ xs,u.oneCell'=true) (h:Ev.Now [Ev.slA 3 1 v n xs] F w) :
  Calls Tryz.prog 97 #[v] w fun e w'=>∃ v' cd,Ev.dec cd=v'∧e=.returned v'∧Ev.Hold ⟨w,F⟩ [Ev.slA 3 1 v' n xs,Ev.slA 3 1 v n xs] w':=by
 obtain ⟨Fa,h1,h2⟩:=now_one h
 obtain ⟨hl,hr⟩:=Ev.SlV.ro h1
 rw [Nat.mul_one] at hl
 have some_case:∀ ad c,v=.slice (some ad) n c→(∀ (j:Nat) u,xs[j]? = some u→w.cell? (ad.add j)=some u)→Calls Tryz.prog 97 #[v] w fun e w'=>∃ v' cd,Ev.dec cd=v'∧e=.returned v'∧Ev.Hold ⟨w,F⟩ [Ev.slA 3 1 v' n xs,Ev.slA 3 1 v n xs] w':=by
  rintro ad c rfl hc
  refine (clone_int_at ad n c xs w hl hn hone hc).mono ?_
  rintro e w' ⟨v',rfl,ho,hb⟩
  exact own_hold h ho hb
 rcases hr with ⟨rfl,a,c,rfl⟩ | ⟨b,off,c,rfl,_,hx⟩
 ·cases a with
  | some a=>exact some_case a c rfl (fun j u hj=>by rw [List.eq_nil_of_length_eq_zero hl] at hj; simp at hj)
  | none =>
   refine (clone_int_nil 0 c w).mono ?_
   rintro e w' ⟨rfl,rfl⟩
   have hx0:xs=[]:=List.eq_nil_of_length_eq_zero hl
   subst hx0
   exact ⟨_,_,(Ev.SlV.nil 3 1 w').code.choose_spec,rfl,(Ev.Hold.start h).nilSl⟩
 ·refine some_case ⟨b,off,none⟩ c rfl (fun j u hj=>?_)
  have hj':=(List.getElem?_eq_some_iff.1 hj).1
  rw [Ev.addMk,hx j (by omega),hj]
set_option maxHeartbeats 2000000 in
set_option maxRecDepth 100000 in
theorem clone_u64_at (ad:Addr) (n c:Nat) (xs:List Value) (w:World) (hl:xs.length=n) (hn:n≤1000000) (hone:∀ u ∈ xs,u.oneCell'=true) (hc:∀ (j:Nat) u,xs[j]? = some u→w.cell? (ad.add j)=some u) :
  Calls Tryz.prog 71 #[.slice (some ad) n c] w fun e w'=>∃ v',e=.returned v'∧w'.ownsRow w.heap.size 51 1 v' n xs∧Below w.heap.size w w':=by
 have mixed:=mixed_ok
 obtain ⟨i0,hi,hz1,hz0,hz2⟩:=infU64
 have q22:∀ (w:World) (a:Option Addr) (n c n' c':Nat),(binOp .eql 50 (.slice a n c) (.slice none n' c')).run Tryz.prog w=.ok (.bool a.isNone) w:=fun w a n c n' c'=>Lib.run_eql_slice_nil w _ _ a n c n' c' Tryz.underlying50
 have A:Aside (∀ (j:Nat) u,xs[j]? = some u→w.cell? (ad.add j)=some u):=hc
 clear hc
 go_enter Tryz.func71,Tryz.ntmps71
 go_wp2_with (at_builtin; refine wpList_append_own _ rfl _ _ 50 rfl w.heap.size 51 i0 (.int .u64 0) 1 8 Tryz.underlying50 hi hz0 hz1 hz2 rfl (by decide) _ _ _ rfl (World.ownsRow_made w #[] 0 (Nat.le_refl _) (Nat.zero_le _) rfl) ad n c xs rfl ?qc1 ?qc2 ?qc3 ?qc4 ?qc5 ?qc6 ?_)
 case qc1=>simp; omega
 case qc2 =>
  intro j u hj
  refine Lib.cell?_alloc_some _ ?_
  exact A.out j u hj
 case qc3=>exact hone
 case qc4=>unfold maxLen; omega
 case qc5=>omega
 case qc6=>simp
 intro v' w1 hown hgrow hnil
 go_wp2
 go_ret
 refine ⟨v',rfl,by simpa using hown,?_⟩
 exact ((Below.refl _ w).alloc (Nat.le_refl _) _).grown hgrow (by simp) (by intro k hk; simp [Value.ownBlock] at hk; omega)
set_option maxHeartbeats 1000000 in
theorem clone_u64_nil (n c:Nat) (w:World) :
  Calls Tryz.prog 71 #[.slice none n c] w fun e w'=>e=.returned (.slice none 0 0)∧w'=w:=by
 have mixed:=mixed_ok
 have q22:∀ (w:World) (a:Option Addr) (n c n' c':Nat),(binOp .eql 50 (.slice a n c) (.slice none n' c')).run Tryz.prog w=.ok (.bool a.isNone) w:=fun w a n c n' c'=>Lib.run_eql_slice_nil w _ _ a n c n' c' Tryz.underlying50
 go_enter Tryz.func71,Tryz.ntmps71
 go_wp2
 go_ret
 exact ⟨rfl,rfl⟩
theorem clone_u64 {v:Value} {n:Nat} {xs:List Value} {F:Nat→Prop} {w:World} (hn:n≤1000000) (hone:∀ u ∈ xs,u.oneCell'=true) (h:Ev.Now [Ev.slA 51 1 v n xs] F w) :
  Calls Tryz.prog 71 #[v] w fun e w'=>∃ v' cd,Ev.dec cd=v'∧e=.returned v'∧Ev.Hold ⟨w,F⟩ [Ev.slA 51 1 v' n xs,Ev.slA 51 1 v n xs] w':=by
 obtain ⟨Fa,h1,h2⟩:=now_one h
 obtain ⟨hl,hr⟩:=Ev.SlV.ro h1
 rw [Nat.mul_one] at hl
 have some_case:∀ ad c,v=.slice (some ad) n c→(∀ (j:Nat) u,xs[j]? = some u→w.cell? (ad.add j)=some u)→Calls Tryz.prog 71 #[v] w fun e w'=>∃ v' cd,Ev.dec cd=v'∧e=.returned v'∧Ev.Hold ⟨w,F⟩ [Ev.slA 51 1 v' n xs,Ev.slA 51 1 v n xs] w':=by
  rintro ad c rfl hc
  refine (clone_u64_at ad n c xs w hl hn hone hc).mono ?_
  rintro e w' ⟨v',rfl,ho,hb⟩
  exact own_hold h ho hb
 rcases hr with ⟨rfl,a,c,rfl⟩ | ⟨b,off,c,rfl,_,hx⟩
 ·cases a with
  | some a=>exact some_case a c rfl (fun j u hj=>by rw [List.eq_nil_of_length_eq_zero hl] at hj; simp at hj)
  | none =>
   refine (clone_u64_nil 0 c w).mono ?_
   rintro e w' ⟨rfl,rfl⟩
   have hx0:xs=[]:=List.eq_nil_of_length_eq_zero hl
   subst hx0
   exact ⟨_,_,(Ev.SlV.nil 51 1 w').code.choose_spec,rfl,(Ev.Hold.start h).nilSl⟩
 ·refine some_case ⟨b,off,none⟩ c rfl (fun j u hj=>?_)
  have hj':=(List.getElem?_eq_some_iff.1 hj).1
  rw [Ev.addMk,hx j (by omega),hj]
end Go.Proofs.YtkmccgombmogmaaGreat
namespace Go.Proofs.YtkmccgombmogmaaGreat
open Go.RowKit
set_option linter.unusedVariables false
set_option linter.unusedSimpArgs false
set_option maxRecDepth 8000
section
variable {ctx:Ev.Ctx} {w:World} {r:List Ev.Asr}
theorem umk {n:Nat} (hn:n≤65536) (h:Ev.Hold ctx r w) : ∃ b w',(Instr.makeSlice 50 (.int .i64 (n:Int)) (.int .i64 (n:Int))).run Tryz.prog w=.ok (.slice (some ⟨b,0,none⟩) n n) w'∧Ev.Hold ctx (uA (.slice (some ⟨b,0,none⟩) n n) (List.replicate n 0)::r) w':=by
 obtain ⟨i0,hi,hz1,hz0,hz2⟩:=infU64
 obtain ⟨w2,r1,r2,r3⟩:=run_make_full (P:=Tryz.prog) w w.heap.size 50 51 i0 (.int .u64 0) 1 Tryz.underlying50 hi hz0 hz1 .i64 .i64 n (by rw [hz2]; omega) (by unfold maxLen; omega) (Nat.le_refl _)
 have hrow:(madeCells (Value.int .u64 0).cells (n * 1)).toList=u64s (List.replicate n 0):=by
  rw [Nat.mul_one]
  show (madeCells #[Value.int .u64 0] n).toList=_
  rw [toList_madeCells_one]
  simp [u64s]
 rw [hrow] at r2
 refine ⟨_,w2,r1,?_⟩
 unfold uA
 rw [List.length_replicate]
 exact hold_own h r2 (Ev.grown_below r3)
theorem mem_newI (m:Nat) {n:Nat} (hn:n≤65536) (h:Ev.Hold ctx r w) :
  CallsIn Fence.wide m Tryz.prog 29 #[.int .i64 (n:Int)] w fun e w'=>∃ bm,e=.returned (.pointer (some ⟨bm,0,none⟩))∧Ev.Hold ctx (memA bm ⟨List.replicate n 0,0⟩::r) w':=by
 obtain ⟨b,W,r1,g⟩:=umk hn h
 obtain ⟨b2,W2,hb2,hW2,g2⟩:=newN [.int .u64 0,.int .u64 0,.int .u64 0,.int .u64 0,.int .u64 0,.int .u64 0,.slice none 0 0,.slice (some ⟨b,0,none⟩) n n] 137 g
 have hmin:min ((n:Nat) : Int) 65536=(n:Int):=by omega
 have hmax:max (0:Int) ((n:Nat) : Int)=(n:Int):=by omega
 refine wen Tryz.func29 8 ?_
 gi_wp2
 exact bodyPost_ret (results_tmp rfl _ _ _) rfl ⟨b2,rfl,mem_shut (m:=⟨List.replicate n 0,0⟩) (0,0,0,0,0,.slice none 0 0,.slice (some ⟨b,0,none⟩) n n,0,[]) (Nat.zero_le _) (hsel [_,_,_] (g2.nilSl (e := 234) (sz:=4)) [1,2,0])⟩
theorem mem_all (m:Nat) {bm:Nat} {mm:MemM} {F:Nat→Prop} {w:World} (hx:mm.cells.length≤1000000) (h:Ev.Now [memA bm mm] F w) :
  CallsIn Fence.wide m Tryz.prog 39 #[.pointer (some ⟨bm,0,none⟩)] w fun e w'=>∃ v,Ev.leafV v=true∧e=.returned v∧Ev.Hold ⟨w,F⟩ [Ev.slA 51 1 v mm.cells.length (u64s mm.cells),memA bm mm] w':=by
 obtain ⟨⟨c1,c2,c3,c4,c5,lg,cl,n,xl⟩,hn,l1,l2,hh⟩:=mem_open (Ev.Hold.start h)
 obtain ⟨F1,k1,back⟩:=hold_fr [_] (hsel [_,_,_] hh [1,0,2])
 have c0:=blkc hh 7 _
 refine wen Tryz.func39 9 ?_
 gi_wp2
 refine wcw (clone_u64 hx (one_u64s _) k1) ?_
 rintro e w1 ⟨v,_,-,rfl,h1⟩
 have h3:=back _ _ h1
 have h2:=mem_shut (m:=mm) (l:=[_]) (c1,c2,c3,c4,c5,lg,cl,n,xl) hn (hsel [_,_,_,_] (r:=[]) h3 [2,1,3,0])
 gi_wp2
 exact bodyPost_ret (results_tmp rfl _ _ _) rfl ⟨v,hold_leaf (hold_swap h2),rfl,hold_swap h2⟩
theorem asame (n:Nat) {u v:Value} {xs:List Int} (hx:xs.length≤1000000) (h:Ev.Hold ctx (isA u xs::isA v xs::r) w) :
  CallsIn Fence.wide n Tryz.prog 17 #[u,v] w fun e w'=>e=.returned (.bool true)∧Ev.Hold ctx (isA u xs::isA v xs::r) w':=by
 obtain ⟨av,ak,rfl⟩:=slr_val (hold_slr h)
 obtain ⟨bv,bk,rfl⟩:=slr_val (hold_slr (hold_swap h))
 refine wen Tryz.func17 24 ?_
 gi_wp2
 gi_loopw [5] (fun i wr=>∃ k:Nat,i=.int .i64 (k:Int)∧k≤xs.length∧Below w.heap.size w wr) (fun i _=>xs.length - (intOf i).toNat)
 case atStart=>exact ⟨0,rfl,Nat.zero_le _,Below.refl _ _⟩
 case round =>
  obtain ⟨k,rfl,hk,hB⟩:=hrel
  have hh:=hold_keep h hB
  by_cases hlt:k < xs.length
  ·have hlI:(k:Int) < (xs.length:Int):=by omega
   have hw:IntKind.i64.wrap ((k:Int)+1)=(k:Int)+1:=wrap_ok (by omega) (by omega)
   obtain ⟨b1,o1,rfl,g1⟩:=slr_cell (hold_slr hh) hlt
   obtain ⟨b2,o2,rfl,g2⟩:=slr_cell (hold_slr (hold_swap hh)) hlt
   obtain ⟨x,hx⟩ : ∃ x,xs.getD k 0=x:=⟨_,rfl⟩
   rw [hx] at g1 g2
   have hb:(x != x)=false:=by simp
   gi_upto_region 6 with fail
   refine wpIn_wide.2 ?_
   go_region_held3 (fun W=>W.cell? ⟨b1,o1+k,none⟩=some (.int .i64 x)∧W.cell? ⟨b2,o2+k,none⟩=some (.int .i64 x)) (exact ⟨g1,g2⟩) (fail)
   gi_wp2
   exact ⟨⟨k+1,rfl,by omega,hB.drew⟩,by simp [intOf]; omega⟩
  ·obtain rfl:k=xs.length:=by omega
   have hlI:¬ ((xs.length:Nat) : Int) < (xs.length:Int):=by omega
   gi_wp2
   exact bodyPost_ret (results_tmp rfl _ _ _) rfl ⟨rfl,hh⟩
end
end Go.Proofs.YtkmccgombmogmaaGreat
namespace Go.Proofs.YtkmccgombmogmaaGreat
open Go.RowKit
set_option linter.unusedVariables false
set_option linter.unusedSimpArgs false
structure PutS where
 st:Nat
 gg:Int
 w:Int
 ts:List Int
 hs:List Int
def ld (m:MemM) (a:Nat) : Int:=m.cells.getD a 0
def tkI (c:Cfg) (w:Int) (n:Nat) : Int:=(tlW w - ((c.q / 2:Nat) : Int)+(n:Int)) % 4294967296
def putStep (c:Cfg) (p:Nat) (x:PutS) (m:MemM) : PutS×MemM :=
 match x.st with
 | 1=>(⟨if (c.q:Int)≤szW (ld m (c.word p)) then 4 else 2,x.gg,ld m (c.word p),[],x.hs⟩,m.tick)
 | 2=>(⟨3,x.gg,x.w,x.ts,x.hs⟩,m.put (c.slot p (tlW x.w)) x.gg)
 | 3=>if ld m (c.word p)=x.w then (⟨0,x.gg,x.w,x.ts,[]⟩,m.put (c.word p) (mvW x.w 1)) else (⟨1,x.gg,x.w,x.ts,x.hs⟩,m.tick)
 | 4=>(⟨if x.ts.length+1=c.q / 2 then 5 else 4,x.gg,x.w,x.ts++[IntKind.i64.wrap (ld m (c.slot p (tkI c x.w x.ts.length)))],x.hs⟩,m.tick)
 | 5=>if ld m (c.word p)=x.w then (⟨0,x.gg,x.w,x.ts,x.ts++[x.gg]⟩,m.put (c.word p) (mvW x.w (-((c.q / 2:Nat) : Int)))) else (⟨1,x.gg,x.w,x.ts,x.hs⟩,m.tick)
 | _=>(x,m)
structure PutOk (c:Cfg) (x:PutS) : Prop where
 st:x.st≤5
 gg:x.st ≠ 0→0≤x.gg∧x.gg≤9223372036854775807
 w:U64 x.w
 ts:x.ts.length≤c.q / 2
 t4:x.st=4→x.ts.length < c.q / 2
 hs:x.hs.length≤64
structure MemOk (c:Cfg) (m:MemM) : Prop where
 len:m.cells.length=4+c.off c.n
 u:∀ x ∈ m.cells,U64 x
theorem MemOk.lt_word {c:Cfg} {m:MemM} (h:MemOk c m) {p:Nat} (hp:p < c.n) : c.word p < m.cells.length:=by
 have:=c.off_le hp
 have:=h.len
 unfold Cfg.word
 omega
theorem MemOk.lt_slot {c:Cfg} {m:MemM} (h:MemOk c m) {p:Nat} (hp:p < c.n) (i:Int) : c.slot p i < m.cells.length:=by
 have:=c.off_le hp
 have:=h.len
 have:=c.slotI_lt i
 unfold Cfg.slot
 omega
theorem MemOk.get {c:Cfg} {m:MemM} (h:MemOk c m) {a:Nat} (ha:a < m.cells.length) : m.cells[a]? = some (ld m a)∧U64 (ld m a):=by
 unfold ld
 rw [List.getD_eq_getElem?_getD,List.getElem?_eq_getElem ha]
 exact ⟨rfl,h.u _ (List.getElem_mem ha)⟩
theorem MemOk.tick {c:Cfg} {m:MemM} (h:MemOk c m) : MemOk c m.tick:=⟨h.len,h.u⟩
theorem MemOk.put {c:Cfg} {m:MemM} (h:MemOk c m) (a:Nat) {v:Int} (hv:U64 v) : MemOk c (m.put a v) :=
 ⟨by simp only [MemM.put,List.length_set]; exact h.len,fun x hx=>by
  rcases List.mem_or_eq_of_mem_set hx with hx | rfl
  ·exact h.u x hx
  ·exact hv⟩
theorem mvW_u {x:Int} (h:U64 x) (d:Int) : U64 (mvW x d):=by
 have h1:=hdW_bd h
 unfold mvW packW U64
 omega
theorem MemOk.big {c:Cfg} {m:MemM} (h:MemOk c m) : m.cells.length≤564:=by
 have:=c.off_max
 have:=h.len
 omega
theorem putStep_ok {c:Cfg} {p:Nat} (hp:p < c.n) {x:PutS} {m:MemM} (hx:PutOk c x) (hm:MemOk c m) : PutOk c (putStep c p x m).1∧MemOk c (putStep c p x m).2:=by
 have hq:=c.qb
 have hw:=hm.get (hm.lt_word hp)
 obtain ⟨st,gg,w,ts,hs⟩:=x
 have h1:st≤5:=hx.st
 have h2:st ≠ 0→0≤gg∧gg≤9223372036854775807:=hx.gg
 have h3:U64 w:=hx.w
 have h4:ts.length≤c.q / 2:=hx.ts
 have h5:st=4→ts.length < c.q / 2:=hx.t4
 have h6:hs.length≤64:=hx.hs
 match st,h1 with
 | 0,_=>exact ⟨hx,hm⟩
 | 1,_ =>
  refine ⟨⟨?_,fun _=>h2 (by decide),hw.2,Nat.zero_le _,fun _=>?_,h6⟩,hm.tick⟩
  ·show (if (c.q:Int)≤szW (ld m (c.word p)) then 4 else 2)≤5
   split <;> decide
  ·show 0 < c.q / 2
   omega
 | 2,_=>exact ⟨⟨show 3≤5 by decide,fun _=>h2 (by decide),h3,h4,fun h=>(by cases h),h6⟩,hm.put _ (show U64 gg by have:=h2 (by decide); unfold U64; omega)⟩
 | 3,_ =>
  unfold putStep
  simp only
  split
  ·exact ⟨⟨show 0≤5 by decide,fun h=>absurd rfl h,h3,h4,fun h=>(by cases h),Nat.zero_le _⟩,hm.put _ (mvW_u h3 _)⟩
  ·exact ⟨⟨show 1≤5 by decide,fun _=>h2 (by decide),h3,h4,fun h=>(by cases h),h6⟩,hm.tick⟩
 | 4,_ =>
  have:=h5 rfl
  refine ⟨⟨?_,fun _=>h2 (by decide),h3,by show (ts++[_]).length≤_; rw [List.length_append]; exact this,fun h=>?_,h6⟩,hm.tick⟩
  ·show (if ts.length+1=c.q / 2 then 5 else 4)≤5
   split <;> decide
  ·replace h:(if ts.length+1=c.q / 2 then 5 else 4)=4:=h
   show (ts++[_]).length < c.q / 2
   rw [List.length_append]
   split at h
   ·cases h
   ·show ts.length+1 < c.q / 2
    omega
 | 5,_ =>
  unfold putStep
  simp only
  split
  ·exact ⟨⟨show 0≤5 by decide,fun h=>absurd rfl h,h3,h4,fun h=>(by cases h),by show (ts++[gg]).length≤64; rw [List.length_append]; simp; omega⟩,hm.put _ (mvW_u h3 _)⟩
  ·exact ⟨⟨show 1≤5 by decide,fun _=>h2 (by decide),h3,h4,fun h=>(by cases h),h6⟩,hm.tick⟩
theorem tkI_ref (c:Cfg) (w:Int) (n:Nat) : IntKind.u32.wrap (IntKind.u32.wrap (tlW w - ((c.q / 2:Nat) : Int))+(n:Int))=tkI c w n:=by
 rw [wrap32,wrap32]
 unfold tkI
 omega
theorem tkI_prog (c:Cfg) (w:Int) (n:Nat) : IntKind.u32.wrap (tlW w+IntKind.u32.wrap ((n:Int) - ((c.q / 2:Nat) : Int)))=tkI c w n:=by
 rw [wrap32,wrap32]
 unfold tkI
 omega
end Go.Proofs.YtkmccgombmogmaaGreat
