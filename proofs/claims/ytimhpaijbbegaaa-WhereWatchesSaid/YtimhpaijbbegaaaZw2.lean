/- Part of a proof: see the last text. -/
import Derived.Test.YtimhpaijbbegaaaZw1
import Derived.Maps.Keyed
namespace Go.Proofs.Ytimhpaijbbegaaa
open Go.RowKit
set_option linter.unusedVariables false
set_option linter.unusedSimpArgs false
def mpE:Nat→List Wt→List MapEntry
 | _,[]=>[]
 | n,x::l=>⟨iZ x.g,.agg (pw x).cs.toArray,n⟩::mpE (n+1) l
theorem mpE_app (n:Nat) (l m:List Wt) : mpE n (l++m)=mpE n l++mpE (n+l.length) m:=by
 induction l generalizing n with
 | nil=>rfl
 | cons x l ih=>simp [mpE,ih,Nat.add_assoc,Nat.add_comm 1]
def wfG (g:Int) : Prop:=-1000≤g∧g≤1000
theorem key_wf {g:Int} (h:wfG g) : keyOf Try.prog 3 (iZ g)=some (.int .i64 g) :=
 Maps.keyOf_int_mk Try.underlying3 (by
  unfold wfG at h
  simp [Lit.wf,IntKind.min,IntKind.max,IntKind.signed,IntKind.bits]
  omega)
theorem keyed3:Maps.Keyed Try.prog 3:=Maps.int_keyed Try.underlying3
theorem mpE_mem {l:List Wt} : ∀ {n:Nat} {e:MapEntry},e ∈ mpE n l→∃ x ∈ l,e.key=iZ x.g:=by
 induction l with
 | nil=>intro n e h; cases h
 | cons x l ih =>
  intro n e h
  simp only [mpE,List.mem_cons] at h
  rcases h with rfl | h
  ·exact ⟨x,List.mem_cons_self,rfl⟩
  ·obtain ⟨y,h1,h2⟩:=ih h
   exact ⟨y,List.mem_cons_of_mem _ h1,h2⟩
theorem mpE_get {l:List Wt} : ∀ {n j:Nat} {e:MapEntry},(mpE n l)[j]? = some e→∃ x,l[j]? = some x∧e=⟨iZ x.g,.agg (pw x).cs.toArray,n+j⟩:=by
 induction l with
 | nil=>intro n j e h; simp [mpE] at h
 | cons x l ih =>
  intro n j e h
  cases j with
  | zero =>
   simp [mpE] at h
   exact ⟨x,rfl,h.symm⟩
  | succ j =>
   simp only [mpE,List.getElem?_cons_succ] at h
   obtain ⟨y,h1,h2⟩:=ih h
   exact ⟨y,by simpa using h1,by rw [h2]; congr 1; omega⟩
def Apart (l:List Wt) : Prop:=l.Pairwise fun x y=>x.g ≠ y.g
theorem ofW_get {l:List Wt} (ha:Apart l) {j:Nat} {x:Wt} (h:l[j]? = some x) : ofW l x.g=some x:=by
 unfold ofW
 induction l generalizing j with
 | nil=>simp at h
 | cons y l ih =>
  obtain ⟨a1,a2⟩:=List.pairwise_cons.1 ha
  cases j with
  | zero =>
   simp at h
   subst h
   simp
  | succ j =>
   have hx:=List.mem_of_getElem? (by simpa using h:l[j]? = some x)
   have:=a1 x hx
   rw [List.find?_cons]
   simp only [this,beq_iff_eq,beq_eq_false_iff_ne.2 this,Bool.false_eq_true]
   exact ih a2 (by simpa using h)
theorem ofW_none {l:List Wt} {g:Int} (h:∀ x ∈ l,x.g ≠ g) : ofW l g=none:=by
 unfold ofW
 rw [List.find?_eq_none]
 intro x hx
 simpa using h x hx
def MpAt (n:Nat) (w:World) (v:Value) (l:List Wt) : Prop:=(v=.map none∧l=[])∨∃ b,v=.map (some b)∧b < n∧w.heap[b]? = some (.map (mpE 0 l).toArray l.length)
theorem MpAt.keep {n:Nat} {w w':World} {v:Value} {l:List Wt} (h:MpAt n w v l) (hb:Below n w w') : MpAt n w' v l:=by
 rcases h with h | ⟨b,e,h1,h2⟩
 ·exact .inl h
 ·exact .inr ⟨b,e,h1,(hb.block b h1).trans h2⟩
theorem MpAt.up {n n':Nat} {w:World} {v:Value} {l:List Wt} (h:MpAt n w v l) (hn:n≤n') : MpAt n' w v l:=by
 rcases h with h | ⟨b,e,h1,h2⟩
 ·exact .inl h
 ·exact .inr ⟨b,e,Nat.lt_of_lt_of_le h1 hn,h2⟩
def wp0:Wp:=⟨0,0,0,false,0,⟨0,0,0⟩⟩
def lookV (l:List Wt) (g:Int) : Wp:=match ofW l g with
 | some x=>pw x
 | none=>wp0
theorem zero70 (w:World) : (zeroValue 70).run Try.prog w=.ok (.agg wp0.cs.toArray) w:=by
 have h:(Try.prog.info? 70).map (·.zero)=some (some (.agg #[.int .i64 0,.int .i64 0,.int .i64 0,.bool false,.int .i64 0,.int .i64 0,.int .i64 0,.int .i64 0])):=by kernel_rfl
 cases e:Try.prog.info? 70 with
 | none=>rw [e] at h; cases h
 | some i =>
  rw [e] at h
  have:=Option.some.inj h
  simp [zeroValue,typeInfo,e,this]
  rfl
theorem run_look {n:Nat} {w:World} {v:Value} {l:List Wt} (h:MpAt n w v l) (ha:Apart l) (hl:∀ x ∈ l,wfG x.g) {g:Int} (hg:wfG g) :
  (Instr.lookup 26 v (iZ g) true).run Try.prog w=.ok (.tuple #[.agg (lookV l g).cs.toArray,.bool (ofW l g).isSome]) w:=by
 have ht:Try.prog.underlying 26 = some (.map 3 70):=Try.underlying26
 rcases h with ⟨rfl,rfl⟩ | ⟨b,rfl,_,hb⟩
 ·rcases keyed3.find w (key_wf hg) [] (by intro e h; cases h) with ⟨h1,_⟩ | ⟨j,e,_,h2,_⟩
  ·simp [Instr.lookup,run_underlying ht,keyed3.check w _ (key_wf hg),h1,zero70,Result.andThen,lookV,ofW,wp0,Wp.cs]
  ·simp at h2
 ·rcases keyed3.find w (key_wf hg) (mpE 0 l) (fun e he=>by
   obtain ⟨x,hx,ek⟩:=mpE_mem he
   exact ⟨_,by rw [ek]; exact key_wf (hl x hx)⟩) with ⟨h1,h2⟩ | ⟨j,e,h1,h2,h3⟩
  ·have hno:ofW l g=none:=by
    refine ofW_none fun x hx hxg=>?_
    obtain ⟨j,hj⟩:=List.mem_iff_getElem?.1 hx
    have:∀ (n:Nat) (l:List Wt) (j:Nat),l[j]? = some x→∃ e ∈ mpE n l,e.key=iZ x.g:=by
     intro n l
     induction l generalizing n with
     | nil=>intro j h; simp at h
     | cons y l ih =>
      intro j h
      cases j with
      | zero =>
       simp at h
       subst h
       exact ⟨_,List.mem_cons_self,rfl⟩
      | succ j =>
       obtain ⟨e,he,hk⟩:=ih (n+1) j (by simpa using h)
       exact ⟨e,List.mem_cons_of_mem _ he,hk⟩
    obtain ⟨e,he,hk⟩:=this 0 l j hj
    exact h2 e he (by rw [hk,hxg])
   simp [Instr.lookup,run_underlying ht,MapKept.run_getObj_map hb,keyed3.check w _ (key_wf hg),h1,zero70,Result.andThen,lookV,hno,wp0,Wp.cs]
  ·obtain ⟨x,hx,rfl⟩:=mpE_get h2
   simp only [Value.int.injEq,true_and] at h3
   have ho:=ofW_get ha hx
   rw [h3] at ho
   simp [Instr.lookup,run_underlying ht,MapKept.run_getObj_map hb,keyed3.check w _ (key_wf hg),h1,Result.andThen,lookV,ho]
theorem run_put {w:World} {b:Nat} {l:List Wt} (hb:w.heap[b]? = some (.map (mpE 0 l).toArray l.length)) (hl:∀ x ∈ l,wfG x.g) {x:Wt} (hg:wfG x.g) (hn:∀ y ∈ l,y.g ≠ x.g) :
  (Instr.mapUpdate 26 (.map (some b)) (iZ x.g) (.agg (pw x).cs.toArray)).run Try.prog w=.ok () { w with heap:=w.heap.setIfInBounds b (.map (mpE 0 (l++[x])).toArray (l++[x]).length) }:=by
 have ht:Try.prog.underlying 26 = some (.map 3 70):=Try.underlying26
 rcases keyed3.find w (key_wf hg) (mpE 0 l) (fun e he=>by
   obtain ⟨x,hx,ek⟩:=mpE_mem he
   exact ⟨_,by rw [ek]; exact key_wf (hl x hx)⟩) with ⟨h1,h2⟩ | ⟨j,e,h1,h2,h3⟩
 ·simp [Instr.mapUpdate,run_underlying ht,MapKept.run_getObj_map hb,keyed3.check w _ (key_wf hg),h1,Result.andThen,MapKept.run_setObj_map _ hb,mpE_app,mpE]
 ·obtain ⟨y,hy,rfl⟩:=mpE_get h2
  simp only [Value.int.injEq,true_and] at h3
  exact absurd h3 (hn y (List.mem_of_getElem? hy))
set_option maxRecDepth 4000 in
set_option maxHeartbeats 2000000 in
theorem wof_in (m:Nat) (B:Nat) (v:Value) (c:Ct) (L:List Wt) (g:Int) (w:World) (hB:w.heap[B]? = some (Obj.cells #[v,iZ c.si,iZ c.by_,iZ c.mv,.bool c.bk] 30 (0,0))) (hv:MpAt w.heap.size w v L) (ha:Apart L) (hl:∀ x ∈ L,wfG x.g) (hg:wfG g) :
  CallsIn Fence.wide m Try.prog 26 #[.pointer (some ⟨B,0,none⟩),iZ g] w fun e w'=>e=.returned (.agg (pw ((ofW L g).getD (w0 g))).cs.toArray)∧Below w.heap.size w w':=by
 refine callsIn_of_wp Try.func26 rfl trivial ?_ rfl
 simp only [Try.ntmps26,List.size_toArray,List.length_cons,List.length_nil,Nat.reduceAdd,Nat.reduceSub,Array.replicate_succ,Array.replicate_zero,List.push_toArray,List.append_toArray,List.nil_append,List.cons_append]
 have hlt:B < w.heap.size:=(Array.getElem?_eq_some_iff.1 hB).1
 obtain ⟨W1,hW1⟩ : ∃ W1,w.alloc (.cells #[.int .i64 0,.int .i64 0,.int .i64 0,.bool false,.int .i64 0,.int .i64 0,.int .i64 0,.int .i64 0] 70)=W1:=⟨_,rfl⟩
 have hb1:Below w.heap.size w W1:=hW1 ▸ (Below.refl _ w).alloc (Nat.le_refl _) _
 have c0:=cell_of ((hb1.block B hlt).trans hB) 0 _ rfl
 have hr:=run_look (hv.keep hb1) ha hl hg
 dsimp only [iZ] at hr c0 ⊢
 have hz:W1.heap[w.heap.size]? = some (Obj.cells #[.int .i64 0,.int .i64 0,.int .i64 0,.bool false,.int .i64 0,.int .i64 0,.int .i64 0,.int .i64 0] 70 (0,0)):=by rw [← hW1]; exact World.alloc_heap_new _ _
 have d0:=fun o=>cell_of (heap_keep _ o hz) 0 _ rfl
 have f0:=fun o=>froz_of (heap_keep _ o hz) 0
 have d1:=fun o=>cell_of (heap_keep _ o hz) 1 _ rfl
 have f1:=fun o=>froz_of (heap_keep _ o hz) 1
 have d2:=fun o=>cell_of (heap_keep _ o hz) 2 _ rfl
 have f2:=fun o=>froz_of (heap_keep _ o hz) 2
 have d3:=fun o=>cell_of (heap_keep _ o hz) 3 _ rfl
 have f3:=fun o=>froz_of (heap_keep _ o hz) 3
 have d4:=fun o=>cell_of (heap_keep _ o hz) 4 _ rfl
 have f4:=fun o=>froz_of (heap_keep _ o hz) 4
 have d5:=fun o=>cell_of (heap_keep _ o hz) 5 _ rfl
 have f5:=fun o=>froz_of (heap_keep _ o hz) 5
 have d6:=fun o=>cell_of (heap_keep _ o hz) 6 _ rfl
 have f6:=fun o=>froz_of (heap_keep _ o hz) 6
 have d7:=fun o=>cell_of (heap_keep _ o hz) 7 _ rfl
 have f7:=fun o=>froz_of (heap_keep _ o hz) 7
 have hb2:∀ o,Below w.heap.size w (W1.alloc o):=fun o=>hb1.alloc hb1.size o
 cases ho:ofW L g with
 | none =>
  simp only [lookV,ho,Option.isSome_none] at hr
  dsimp only [wp0,Wp.cs,iZ,iM] at hr
  gi_wp2
  have hf:=(set_at (set_at (set_at (set_at (set_at (set_at (set_at (set_at (heap_keep _ (.cells #[.int .i64 0,.int .i64 0,.int .i64 0,.bool false,.int .i64 0,.int .i64 0,.int .i64 0,.int .i64 0] 70) hz) 0 (.int .i64 (-1))) 1 (.int .i64 0)) 2 (.int .i64 0)) 3 (.bool false)) 4 (.int .i64 0)) 5 (.int .i64 0)) 6 (.int .i64 0)) 7 (.int .i64 0))
  simp only [List.setIfInBounds_toArray,List.set_cons_zero,List.set_cons_succ] at hf
  refine post_cell rfl rfl rfl (loadWp _ _ _ _ _ _ _ _ _ _ hf) ⟨rfl,(((((((((hb2 _).setCell (Nat.le_refl _) _).setCell (Nat.le_refl _) _).setCell (Nat.le_refl _) _).setCell (Nat.le_refl _) _).setCell (Nat.le_refl _) _).setCell (Nat.le_refl _) _).setCell (Nat.le_refl _) _).setCell (Nat.le_refl _) _)⟩
 | some x =>
  simp only [lookV,ho,Option.isSome_some] at hr
  obtain ⟨y,hy⟩ : ∃ y,pw x=y:=⟨_,rfl⟩
  rw [hy] at hr
  simp only [Option.getD_some,hy]
  obtain ⟨si,by_,mv,bk,li,⟨xk,xa,xh⟩⟩:=y
  dsimp only [Wp.cs,iZ,iM] at hr ⊢
  gi_wp2
  have hf:=(set_at (set_at (set_at (set_at (set_at (set_at (set_at (set_at (heap_keep _ (.cells #[.int .i64 si,.int .i64 by_,.int .i64 mv,.bool bk,.int .i64 (li:Int),.int .i64 (xk:Int),.int .i64 (xa:Int),.int .i64 (xh:Int)] 70) hz) 0 (.int .i64 si)) 1 (.int .i64 by_)) 2 (.int .i64 mv)) 3 (.bool bk)) 4 (.int .i64 (li:Int))) 5 (.int .i64 (xk:Int))) 6 (.int .i64 (xa:Int))) 7 (.int .i64 (xh:Int)))
  simp only [List.setIfInBounds_toArray,List.set_cons_zero,List.set_cons_succ] at hf
  refine post_cell rfl rfl rfl (loadWp _ _ _ _ _ _ _ _ _ _ hf) ⟨rfl,(((((((((hb2 _).setCell (Nat.le_refl _) _).setCell (Nat.le_refl _) _).setCell (Nat.le_refl _) _).setCell (Nat.le_refl _) _).setCell (Nat.le_refl _) _).setCell (Nat.le_refl _) _).setCell (Nat.le_refl _) _).setCell (Nat.le_refl _) _)⟩
end Go.Proofs.Ytimhpaijbbegaaa
