/- Part of a proof: see the last text. -/
import Derived.Test.YtkmccgombmogmaaGreatZk0
import Derived.Deep.MidRow
import Derived.Deep.RegionHeld3
import Derived.Deep.RegionWith
import Derived.Lib.AppendZerosOnto
import Derived.Deep.LoopGhost
import Derived.Laws.AppendOwn
import Derived.Lib.SliceRun
import Derived.Lib.Walk
import Derived.LoopIn
import Derived.LoopNIn
import Derived.OwnWalkIn
import Derived.TacticsInMore
import Derived.WalkKit
import Derived.WalkSpells
import Derived.OrdersIn
import Derived.OrdersHeld
import Derived.Test.YtkmccgombmogmaaGreatRows
import Derived.WalkLawsBesides
import Derived.Lib.Hide
namespace Go.Proofs.YtkmccgombmogmaaGreat
open Go.RowKit
open Go.Ev (iz uz iN)
set_option linter.unusedVariables false
set_option linter.unusedSimpArgs false
set_option maxRecDepth 8000
section
def isA (v:Value) (xs:List Int) : Ev.Asr:=Ev.slA 3 1 v xs.length (ints xs)
theorem own_hold {l:List Ev.Asr} {e:TypeId} {v':Value} {n:Nat} {xs:List Value} {F:Nat→Prop} {w w':World} (h:Ev.Now l F w) (ho:w'.ownsRow w.heap.size e 1 v' n xs) (hb:Below w.heap.size w w') : ∃ v2 cd,Ev.dec cd=v2∧Ending.returned v'=.returned v2∧Ev.Hold ⟨w,F⟩ (Ev.slA e 1 v2 n xs::l) w':=by
 obtain ⟨hl,ho⟩:=ho
 have key:∃ Fn,Ev.SlV e 1 v' n xs Fn w'∧∀ j,Fn j→w.heap.size≤j:=by
  rcases ho with ⟨rfl,rfl⟩ | ⟨g,cap,cur,rfl,hg,hh,h1,h2,h3,h4⟩
  ·have:xs=[]:=List.eq_nil_of_length_eq_zero (by rw [hl])
   subst this
   exact ⟨fun _=>False,Ev.SlV.nil e 1 w',fun _ h=>h.elim⟩
  ·refine ⟨fun j=>j=g,⟨hl,.inr ⟨g,0,cap,cur,rfl,fun _=>Iff.rfl,hh,fun i hi=>?_,by rw [h3]; omega,h1⟩⟩,fun j hj=>by rw [hj]; exact hg⟩
   rw [← h4,Nat.zero_add,List.getElem?_take_of_lt hi]
   simp
 obtain ⟨Fn,k1,k2⟩:=key
 obtain ⟨cd,hcd⟩:=k1.code
 have hk:Ev.Now l F w':=Ev.now_keep h (fun j hj=>hb.block j (h.lt j hj)) hb.size
 refine ⟨v',cd,hcd,rfl,⟨⟨_,Ev.now_cons (a:=Ev.slA e 1 v' n xs) k1 hk (fun j hj=>Ev.SlV.lt k1 j hj) (fun j hj hf=>?_),⟨hb.os,hb.tape,hb.output,hb.size,fun j hj _=>hb.block j hj⟩,fun j hj=>?_⟩⟩⟩
 ·have:=h.lt j hf
  have:=k2 j hj
  omega
 ·exact hj.elim (fun h=>.inr (k2 j h)) .inl
theorem cell_of {W:World} {g:Nat} {xs:Array Value} {t:TypeId} {fr:Nat×Nat} (h:W.heap[g]? = some (Obj.cells xs t fr)) : ∀ (i:Nat) (u:Value),xs[i]? = some u→W.cell? ⟨g,i,none⟩=some u:=by
 intro i u hi
 simp only [World.cell?,h]
 simpa using hi
theorem froz_of {W:World} {g:Nat} {xs:Array Value} {t:TypeId} (h:W.heap[g]? = some (Obj.cells xs t (0,0))) : ∀ (i:Nat),W.frozen? ⟨g,i,none⟩=false:=by
 intro i
 simp [World.frozen?,h]
theorem set_at {W:World} {g:Nat} {xs:Array Value} {t:TypeId} {fr:Nat×Nat} (h:W.heap[g]? = some (Obj.cells xs t fr)) (i:Nat) (u:Value) : (W.setCell ⟨g,i,none⟩ u).heap[g]? = some (Obj.cells (xs.setIfInBounds i u) t fr):=by
 simp [World.setCell,Array.getElem?_modify,h]
theorem hold_swap {ctx:Ev.Ctx} {a b:Ev.Asr} {l:List Ev.Asr} {w:World} (h:Ev.Hold ctx (a::b::l) w) : Ev.Hold ctx (b::a::l) w:=by
 obtain ⟨F,h1,h2,h3⟩:=h.ex
 obtain ⟨Fa,Fr,k1,k2,k3,k4⟩:=Ev.now_uncons h1
 obtain ⟨Fb,Fl,m1,m2,m3,m4⟩:=Ev.now_uncons k2
 have q1:=Ev.now_cons k1 m2 (fun j hj=>h1.lt j ((k4 j).2 (.inl hj))) (fun j hj hf=>k3 j hj ((m4 j).2 (.inr hf)))
 have q2:=Ev.now_cons m1 q1 (fun j hj=>k2.lt j ((m4 j).2 (.inl hj))) (fun j hj hf=>hf.elim (fun hf=>k3 j hf ((m4 j).2 (.inl hj))) (m3 j hj))
 refine ⟨F,Ev.now_same q2 (fun j=>?_),h2,h3⟩
 rw [k4 j,m4 j]
 constructor
 ·rintro (h | h | h)
  ·exact .inr (.inl h)
  ·exact .inl h
  ·exact .inr (.inr h)
 ·rintro (h | h | h)
  ·exact .inr (.inl h)
  ·exact .inl h
  ·exact .inr (.inr h)
theorem now_swap {a b:Ev.Asr} {l:List Ev.Asr} {F:Nat→Prop} {w:World} (h:Ev.Now (a::b::l) F w) : Ev.Now (b::a::l) F w:=by
 obtain ⟨Fa,Fr,k1,k2,k3,k4⟩:=Ev.now_uncons h
 obtain ⟨Fb,Fl,m1,m2,m3,m4⟩:=Ev.now_uncons k2
 have q1:=Ev.now_cons k1 m2 (fun j hj=>h.lt j ((k4 j).2 (.inl hj))) (fun j hj hf=>k3 j hj ((m4 j).2 (.inr hf)))
 have q2:=Ev.now_cons m1 q1 (fun j hj=>k2.lt j ((m4 j).2 (.inl hj))) (fun j hj hf=>hf.elim (fun hf=>k3 j hf ((m4 j).2 (.inl hj))) (m3 j hj))
 refine Ev.now_same q2 (fun j=>?_)
 rw [k4 j,m4 j]
 constructor
 ·rintro (h | h | h)
  ·exact .inr (.inl h)
  ·exact .inl h
  ·exact .inr (.inr h)
 ·rintro (h | h | h)
  ·exact .inr (.inl h)
  ·exact .inl h
  ·exact .inr (.inr h)
theorem results_two {P:Program} {fn:Func} {w:World} {t1 t2:Tmp} (hres:fn.results = #[.tmp t1,.tmp t2]) (tm:Array Value) : (results fn tm).run P w=.ok (.tuple #[tm.getD t1 undef,tm.getD t2 undef]) w:=by
 simp [results,hres]
theorem hold_blk {ctx:Ev.Ctx} {b:Nat} {cs:List Value} {T:TypeId} {l:List Ev.Asr} {w:World} (h:Ev.Hold ctx (Ev.blkA b cs T::l) w) : w.heap[b]? = some (Obj.cells cs.toArray T (0,0)):=by
 obtain ⟨F,h1,h2,h3⟩:=h.ex
 obtain ⟨Fa,Fl,⟨k0,k1⟩,k2,k3,k4⟩:=Ev.now_uncons h1
 exact k1
theorem hold_slr {ctx:Ev.Ctx} {e:TypeId} {sz n:Nat} {v:Value} {xs:List Value} {l:List Ev.Asr} {w:World} (h:Ev.Hold ctx (Ev.slA e sz v n xs::l) w) : Ev.SlR sz v n xs w:=by
 obtain ⟨f,hf⟩:=h.first
 exact Ev.SlV.ro hf
theorem wpListIn_append_run {F:Fence} {n:Nat} {P:Program} {w w':World} {ops:Array Oper} {rest:List Oper} {o:Oper} {a:Act} {Q:Exit→Act→World→Prop} {v':Value}
  (hg:o.guard=none) (s x:Operand) (t:TypeId) (hop:o.op=Op.call { callee:=Callee.builtin Builtin.append,args:=#[s,x],argTypes:=#[t,t] }) (hrun:(Builtin.append_ #[t,t] o.type #[a.eval s,a.eval x]).run P w=.ok v' w')
  (hK:wpListIn F n P ops Q rest (a.put o.dst v') w') : wpListIn F n P ops Q (o::rest) a w:=by
 refine wpListIn_plain hg fun K hK'=>?_
 unfold Oper.wpIn
 refine ⟨?_,?_⟩
 ·simp [Oper.about,hop,resolve,Target.leads,Sem.run_pure]
 ·rw [Oper.semAt_plain F _ _ (by rw [hop]; intro c hc'; cases hc')]
  simp [execOp,hop,resolve,invoke,builtin,hrun,Result.andThen]
  exact hK' _ _ hK
theorem wpListIn_append_runT {F:Fence} {n:Nat} {P:Program} {w w':World} {ops:Array Oper} {rest:List Oper} {o:Oper} {a:Act} {Q:Exit→Act→World→Prop} {v':Value}
  (hg:o.guard=none) (s x:Operand) (ts:Array TypeId) (hop:o.op=Op.call { callee:=Callee.builtin Builtin.append,args:=#[s,x],argTypes:=ts }) (hrun:(Builtin.append_ ts o.type #[a.eval s,a.eval x]).run P w=.ok v' w')
  (hK:wpListIn F n P ops Q rest (a.put o.dst v') w') : wpListIn F n P ops Q (o::rest) a w:=by
 refine wpListIn_plain hg fun K hK'=>?_
 unfold Oper.wpIn
 refine ⟨?_,?_⟩
 ·simp [Oper.about,hop,resolve,Target.leads,Sem.run_pure]
 ·rw [Oper.semAt_plain F _ _ (by rw [hop]; intro c hc'; cases hc')]
  simp [execOp,hop,resolve,invoke,builtin,hrun,Result.andThen]
  exact hK' _ _ hK
theorem Below.grownBy {W W':World} (h:Below W.heap.size W W') : W.grownBy W' none:=⟨h.os,h.tape,h.output,h.size,fun k hk _=>h.block k hk⟩
theorem own_stay {w w':World} {n:Nat} {e:TypeId} {sz k:Nat} {v:Value} {xs:List Value} (h:w.ownsRow n e sz v k xs) (hb:Below w.heap.size w w') : w'.ownsRow n e sz v k xs:=by
 refine h.kept (Below.grownBy hb) ?_
 cases v.ownBlock with
 | none=>exact .inl rfl
 | some b=>exact .inr (by simp)
theorem slr_stay {sz n:Nat} {v:Value} {xs:List Value} {w w':World} (h:Ev.SlR sz v n xs w) (hb:Below w.heap.size w w') : Ev.SlR sz v n xs w':=by
 obtain ⟨e1,e2 | ⟨b,off,c,e3,⟨e4,e5⟩,e6⟩⟩:=h
 ·exact ⟨e1,.inl e2⟩
 ·exact ⟨e1,.inr ⟨b,off,c,e3,⟨Nat.lt_of_lt_of_le e4 hb.size,e5⟩,fun j hj=>(hb.cell (p:=⟨b,off+j,none⟩) e4).trans (e6 j hj)⟩⟩
end
section
open Ev
variable {ctx:Ctx} {w w':World} {l lp rest:List Asr}
theorem hold_fr (lp:List Asr) (h:Hold ctx (lp++rest) w) : ∃ F,Now lp F w∧∀ (lq:List Asr) (w':World),Hold ⟨w,F⟩ lq w'→Hold ctx (lq++rest) w':=by
 obtain ⟨F',m1,m2,m3⟩:=h.ex
 obtain ⟨G1,G2,q1,q2,q3,q4⟩:=now_split (l:=lp) m1
 exact ⟨G1,q1,fun lq w' hh=>(hh.frame q2 q3).into (l:=[]) m2 (fun j hj=>m3 j ((q4 j).2 hj))⟩
theorem hold_keep (h:Hold ctx l w) (hb:Below w.heap.size w w') : Hold ctx l w':=by
 obtain ⟨F',m1,m2,m3⟩:=h.ex
 exact ⟨F',now_keep m1 (fun j hj=>hb.block j (m1.lt j hj)) hb.size,⟨hb.os.trans m2.os,hb.tape.trans m2.tape,hb.output.trans m2.output,Nat.le_trans m2.size hb.size,fun j hj hx=>(hb.block j (Nat.lt_of_lt_of_le hj m2.size)).trans (m2.block j hj hx)⟩,m3⟩
theorem hold_comm (h:Hold ctx (l++rest) w) : Hold ctx (rest++l) w:=by
 obtain ⟨F',m1,m2,m3⟩:=h.ex
 obtain ⟨G1,G2,q1,q2,q3,q4⟩:=now_split m1
 exact ⟨F',now_same (now_append q2 q1 (fun j h1 h2=>q3 j h2 h1)) (fun j=>by rw [q4 j]; exact Or.comm),m2,m3⟩
theorem hold_mid {a:Asr} {l1 l2:List Asr} (h:Hold ctx (l1++a::l2) w) : Hold ctx (a::(l1++l2)) w:=by
 obtain ⟨F',m1,m2,m3⟩:=h.ex
 obtain ⟨G1,G2,q1,q2,q3,q4⟩:=now_split m1
 obtain ⟨Fa,Fl,k1,k2,k3,k4⟩:=now_uncons q2
 have r1:=now_append q1 k2 (fun j h1 h2=>q3 j h1 ((k4 j).2 (.inr h2)))
 have r2:=now_cons k1 r1 (fun j hj=>q2.lt j ((k4 j).2 (.inl hj))) (fun j hj hh=>hh.elim (fun hh=>q3 j hh ((k4 j).2 (.inl hj))) (k3 j hj))
 refine ⟨F',now_same r2 (fun j=>?_),m2,m3⟩
 rw [q4 j,k4 j]
 constructor
 ·rintro (h | h | h)
  ·exact .inr (.inl h)
  ·exact .inl h
  ·exact .inr (.inr h)
 ·rintro (h | h | h)
  ·exact .inr (.inl h)
  ·exact .inl h
  ·exact .inr (.inr h)
theorem hold_midI {a:Asr} {l1 l2:List Asr} (h:Hold ctx (a::(l1++l2)) w) : Hold ctx (l1++a::l2) w:=by
 have h1:Hold ctx ((l1++l2)++[a]) w:=hold_comm (l:=[a]) h
 rw [List.append_assoc] at h1
 have h2:Hold ctx ((l2++[a])++l1) w:=hold_comm h1
 obtain ⟨F',m1,m2,m3⟩:=h2.ex
 obtain ⟨G1,G2,q1,q2,q3,q4⟩:=now_split m1
 have q1':Hold ⟨w,G1⟩ (l2++[a]) w:=Hold.start q1
 obtain ⟨F3,n1,n2,n3⟩:=(hold_comm (l:=l2) (rest:=[a]) q1').ex
 have h3:Hold ctx ((a::l2)++l1) w:=by
  obtain ⟨G3,G4,s1,s2,s3,s4⟩:=now_split (l:=l2) q1
  have t1:Now ([a]++l2) (fun j=>G4 j∨G3 j) w:=now_append s2 s1 (fun j h1 h2=>s3 j h2 h1)
  have t2:=now_append t1 q2 (fun j h1 h2=>q3 j ((s4 j).2 h1.symm) h2)
  refine ⟨F',now_same t2 (fun j=>?_),m2,m3⟩
  rw [q4 j,s4 j]
  exact ⟨fun h=>h.elim (fun h=>.inl h.symm) .inr,fun h=>h.elim (fun h=>.inl h.symm) .inr⟩
 exact hold_comm h3
theorem hold_out {i:Nat} {a:Asr} (hi:l[i]? = some a) (h:Hold ctx (l++rest) w) : Hold ctx (a::(l.eraseIdx i++rest)) w:=by
 obtain ⟨hlt,rfl⟩:=List.getElem?_eq_some_iff.1 hi
 have e1:l=l.take i++l[i]::l.drop (i+1):=by rw [← List.drop_eq_getElem_cons hlt,List.take_append_drop]
 have h1:Hold ctx (l.take i++l[i]::(l.drop (i+1)++rest)) w:=by
  have e2:l.take i++l[i]::(l.drop (i+1)++rest)=(l.take i++l[i]::l.drop (i+1))++rest:=by rw [List.append_assoc,List.cons_append]
  rw [e2,← e1]
  exact h
 have h2:=hold_mid h1
 rw [List.eraseIdx_eq_take_drop_succ,List.append_assoc]
 exact h2
theorem hold_in {i:Nat} {a:Asr} (hi:i < l.length) (h:Hold ctx (a::(l.eraseIdx i++rest)) w) : Hold ctx (l.set i a++rest) w:=by
 rw [List.eraseIdx_eq_take_drop_succ,List.append_assoc] at h
 have h2:=hold_midI h
 rw [List.set_eq_take_append_cons_drop,if_pos hi,List.append_assoc]
 exact h2
theorem hold_setS {b off c n sz i:Nat} {e:TypeId} {xs:List Value} (v:Value) (hi:i < n * sz) (h:Hold ctx (slA e sz (.slice (some ⟨b,off,none⟩) n c) n xs::l) w) : Hold ctx (slA e sz (.slice (some ⟨b,off,none⟩) n c) n (xs.set i v)::l) (w.setCell ⟨b,off+i,none⟩ v):=by
 obtain ⟨F,h1,h2,h3⟩:=h.ex
 obtain ⟨Fa,Fl,⟨kl,k0⟩,k2,k3,k4⟩:=now_uncons h1
 rcases k0 with ⟨_,rfl,_⟩ | ⟨b',off',c',arr,ev,hF,hb,hx,hs,hc⟩
 ·simp at hi
 cases ev
 have hsz:(w.setCell ⟨b,off+i,none⟩ v).heap.size=w.heap.size:=by simp [World.setCell]
 have hoff:∀ j,j ≠ b→(w.setCell ⟨b,off+i,none⟩ v).heap[j]? = w.heap[j]?:=fun j hj=>Below.heap_setCell w ⟨b,off+i,none⟩ v j hj
 have hb2:=set_at hb (off+i) v
 have hcs:n * sz≤c * sz:=Nat.mul_le_mul_right sz hc
 have hl2:Now l Fl (w.setCell ⟨b,off+i,none⟩ v):=now_keep k2 (fun j hj=>hoff j (fun e=>k3 j ((hF j).2 e) hj)) (by rw [hsz]; exact Nat.le_refl _)
 have hA:(slA e sz (.slice (some ⟨b,off,none⟩) n c) n (xs.set i v)).p (fun _=>none) Fa (w.setCell ⟨b,off+i,none⟩ v):=by
  refine ⟨by rw [List.length_set]; exact kl,.inr ⟨b,off,c,_,rfl,hF,hb2,fun j hj=>?_,by rw [Array.size_setIfInBounds]; exact hs,hc⟩⟩
  rw [Array.getElem?_setIfInBounds]
  by_cases e0:i=j
  ·subst e0
   rw [if_pos rfl,if_pos (by omega),List.getElem?_set_self (by omega)]
  ·rw [if_neg (by omega),hx j hj,List.getElem?_set_ne e0]
 have q:=now_cons (a:=slA e sz (.slice (some ⟨b,off,none⟩) n c) n (xs.set i v)) (Fa:=Fa) hA hl2 (fun j hj=>by rw [hsz]; exact h1.lt j ((k4 j).2 (.inl hj))) k3
 have hFb:F b:=(k4 b).2 (.inl ((hF b).2 rfl))
 refine ⟨F,now_same q (fun j=>(k4 j).symm),⟨h2.os,h2.tape,h2.output,by rw [hsz]; exact h2.size,fun j hj hx=>?_⟩,h3⟩
 rw [hoff j (fun e=>?_)]
 ·exact h2.block j hj hx
 ·subst e
  rcases h3 j hFb with h | h
  ·exact hx h
  ·omega
end
section
theorem hold_set {ctx:Ev.Ctx} {b:Nat} {cs:List Value} {T:TypeId} {l:List Ev.Asr} {w:World} (i:Nat) (v:Value) (h:Ev.Hold ctx (Ev.blkA b cs T::l) w) : Ev.Hold ctx (Ev.blkA b (cs.set i v) T::l) (w.setCell ⟨b,i,none⟩ v):=by
 obtain ⟨F,h1,h2,h3⟩:=h.ex
 obtain ⟨Fa,Fl,⟨k0,k1⟩,k2,k3,k4⟩:=Ev.now_uncons h1
 have hs:(w.setCell ⟨b,i,none⟩ v).heap.size=w.heap.size:=by simp [World.setCell]
 have hoff:∀ j,j ≠ b→(w.setCell ⟨b,i,none⟩ v).heap[j]? = w.heap[j]?:=fun j hj=>Below.heap_setCell w ⟨b,i,none⟩ v j hj
 have hb:(w.setCell ⟨b,i,none⟩ v).heap[b]? = some (Obj.cells (cs.set i v).toArray T (0,0)):=by
  rw [set_at k1 i v]
  simp
 have hl2:Ev.Now l Fl (w.setCell ⟨b,i,none⟩ v):=Ev.now_keep k2 (fun j hj=>hoff j (fun e=>k3 j ((k0 j).2 e) hj)) (by rw [hs]; exact Nat.le_refl _)
 have q:=Ev.now_cons (a:=Ev.blkA b (cs.set i v) T) (Fa:=Fa) ⟨k0,hb⟩ hl2 (fun j hj=>by rw [hs]; exact h1.lt j ((k4 j).2 (.inl hj))) k3
 have hFb:F b:=(k4 b).2 (.inl ((k0 b).2 rfl))
 refine ⟨F,Ev.now_same q (fun j=>(k4 j).symm),⟨h2.os,h2.tape,h2.output,by rw [hs]; exact h2.size,fun j hj hx=>?_⟩,h3⟩
 rw [hoff j (fun e=>?_)]
 ·exact h2.block j hj hx
 ·subst e
  rcases h3 j hFb with h | h
  ·exact hx h
  ·omega
theorem slr_val {sz n:Nat} {v:Value} {xs:List Value} {w:World} (h:Ev.SlR sz v n xs w) : ∃ a k,v=.slice a n k:=by
 rcases h.2 with ⟨e,a,k,rfl⟩ | ⟨b,off,k,rfl,_⟩
 ·exact ⟨a,k,by rw [e]⟩
 ·exact ⟨_,k,rfl⟩
theorem slr_cell {n k:Nat} {a:Option Addr} {xs:List Int} {w:World} (h:Ev.SlR 1 (.slice a n k) n (ints xs) w) {j:Nat} (hj:j < n) : ∃ b off,a=some ⟨b,off,none⟩∧w.cell? ⟨b,off+j,none⟩=some (.int .i64 (xs.getD j 0)):=by
 obtain ⟨hl,⟨h0,_⟩ | ⟨b,off,c,hv,_,hc⟩⟩:=h
 ·omega
 ·cases hv
  refine ⟨b,off,rfl,?_⟩
  rw [hc j (by omega)]
  have:j < xs.length:=by simp [ints] at hl; omega
  simp [ints,List.getD_eq_getElem?_getD,this]
theorem hold_own {ctx:Ev.Ctx} {l:List Ev.Asr} {e:TypeId} {n:Nat} {v:Value} {xs:List Value} {w w':World} (h:Ev.Hold ctx l w) (ho:w'.ownsRow w.heap.size e 1 v n xs) (hb:Below w.heap.size w w') : Ev.Hold ctx (Ev.slA e 1 v n xs::l) w':=by
 obtain ⟨F',m1,m2,m3⟩:=h.ex
 obtain ⟨v2,cd,_,e,hh⟩:=own_hold m1 ho hb
 cases e
 exact hh.into (l:=[]) m2 m3
theorem own_val {w:World} {n:Nat} {e:TypeId} {sz k:Nat} {v:Value} {xs:List Value} (h:w.ownsRow n e sz v k xs) : ∃ a c,v=.slice a k c:=by
 rcases h.2 with ⟨rfl,rfl⟩ | ⟨g,cap,cur,rfl,_⟩
 ·exact ⟨_,_,rfl⟩
 ·exact ⟨_,_,rfl⟩
theorem now_perm {l m:List Ev.Asr} (hp:l.Perm m) : ∀ {F:Nat→Prop} {w:World},Ev.Now l F w→Ev.Now m F w:=by
 induction hp with
 | nil=>exact fun h=>h
 | cons a _ ih =>
  intro F w h
  obtain ⟨Fa,Fl,k1,k2,k3,k4⟩:=Ev.now_uncons h
  exact Ev.now_same (Ev.now_cons k1 (ih k2) (fun j hj=>h.lt j ((k4 j).2 (.inl hj))) k3) (fun j=>(k4 j).symm)
 | swap a b l=>exact fun h=>now_swap h
 | trans _ _ ih1 ih2=>exact fun h=>ih2 (ih1 h)
theorem hold_perm {ctx:Ev.Ctx} {l m:List Ev.Asr} {w:World} (hp:l.Perm m) (h:Ev.Hold ctx l w) : Ev.Hold ctx m w:=by
 obtain ⟨F,h1,h2,h3⟩:=h.ex
 exact ⟨F,now_perm hp h1,h2,h3⟩
open Classical in
theorem perm_of {l m:List Ev.Asr} (h:∀ f:Ev.Asr→Nat,(l.map f).sum=(m.map f).sum) : l.Perm m:=by
 rw [List.perm_iff_count]
 intro a
 have e:∀ l:List Ev.Asr,(l.map (fun x=>if x=a then 1 else 0)).sum=l.count a:=by
  intro l
  induction l with
  | nil=>rfl
  | cons x l ih =>
   rw [List.map_cons,List.sum_cons,ih,List.count_cons]
   by_cases hx:x=a
   ·simp [hx]
    omega
   ·simp [hx]
 rw [← e,← e]
 exact h _
theorem hold_new {ctx:Ev.Ctx} {l:List Ev.Asr} {w:World} (cs:List Value) (T:TypeId) (h:Ev.Hold ctx l w) : Ev.Hold ctx (Ev.blkA w.heap.size cs T::l) (w.alloc (.cells cs.toArray T)):=by
 obtain ⟨F',m1,m2,m3⟩:=h.ex
 have hB:Below w.heap.size w (w.alloc (.cells cs.toArray T)):=(Below.refl _ w).alloc (Nat.le_refl _) _
 have hs:w.heap.size < (w.alloc (.cells cs.toArray T)).heap.size:=by simp
 have h1:=Ev.now_keep m1 (fun j hj=>hB.block j (m1.lt j hj)) hB.size
 have h2:=Ev.now_cons (a:=Ev.blkA w.heap.size cs T) (Fa:=fun j=>j=w.heap.size) ⟨fun j=>Iff.rfl,World.alloc_heap_new w _⟩ h1 (fun j hj=>by rw [hj]; exact hs) (fun j hj hf=>by have:=m1.lt j hf; omega)
 exact ⟨_,h2,⟨hB.os.trans m2.os,hB.tape.trans m2.tape,hB.output.trans m2.output,Nat.le_trans m2.size hB.size,fun j hj hx=>(hB.block j (Nat.lt_of_lt_of_le hj m2.size)).trans (m2.block j hj hx)⟩,fun j hj=>hj.elim (fun e=>.inr (by rw [e]; exact m2.size)) (m3 j)⟩
theorem cell_low {w w':World} (h:Below w.heap.size w w') {a:Addr} {v:Value} (hc:w.cell? a=some v) : w'.cell? a=some v:=by
 have hlt:a.block < w.heap.size:=by
  unfold World.cell? at hc
  cases hb:w.heap[a.block]? with
  | none=>rw [hb] at hc; cases hc
  | some o=>exact (Array.getElem?_eq_some_iff.1 hb).1
 rw [h.cell hlt]
 exact hc
theorem post_cell {P:Program} {fn:Func} {R:Ending→World→Prop} {a:Act} {w:World} {v:Value} {tm:Tmp} {t:TypeId} {ad:Addr} (hres:fn.results = #[.cell tm t]) (ha:a.tmps.getD tm undef=.pointer (some ad)) (hd:a.defers=[]) (hl:(loadVar t ad).run P w=.ok v w) (hR:R (.returned v) w) : bodyPost P fn R .ret a w:=by
 refine bodyPost_ret ?_ hd hR
 have ha':a.tmps[tm]?.getD undef=.pointer (some ad):=by simpa using ha
 simp [results,hres,ha',Go.asAddr,hl]
theorem hold_drop {ctx:Ev.Ctx} {r l:List Ev.Asr} {w:World} (h:Ev.Hold ctx (r++l) w) : Ev.Hold ctx l w:=by
 obtain ⟨F',m1,m2,m3⟩:=h.ex
 obtain ⟨G1,G2,q1,q2,q3,q4⟩:=Ev.now_split m1
 exact ⟨G2,q2,m2,fun j hj=>m3 j ((q4 j).2 (.inr hj))⟩
theorem post_cellT {P:Program} {fn:Func} {R:Ending→World→Prop} {a:Act} {w:World} {v:Value} {tm tm2:Tmp} {t:TypeId} {ad:Addr} (hres:fn.results = #[.cell tm t,.tmp tm2]) (ha:a.tmps.getD tm undef=.pointer (some ad)) (hd:a.defers=[]) (hl:(loadVar t ad).run P w=.ok v w) (hR:R (.returned (.tuple #[v,a.tmps.getD tm2 undef])) w) : bodyPost P fn R .ret a w:=by
 refine bodyPost_ret ?_ hd hR
 have ha':a.tmps[tm]?.getD undef=.pointer (some ad):=by simpa using ha
 simp [results,hres,ha',Go.asAddr,hl]
end
section
variable {F:Fence} {n:Nat} {P:Program} {w w':World} {ops:Array Oper} {rest:List Oper} {o:Oper} {a:Act} {Q:Exit→Act→World→Prop} {v pv:Value}
theorem wpListIn_load_run (hg:o.guard=none) (t:TypeId) (x:Operand) (hop:o.op=Op.load t x) (hrun:(Instr.loadAt t pv).run P w=.ok v w') (hx:a.eval x=pv) (hK:wpListIn F n P ops Q rest (a.put o.dst v) w') : wpListIn F n P ops Q (o::rest) a w:=by
 refine wpListIn_plain hg fun K hK'=>?_
 unfold Oper.wpIn
 refine ⟨?_,?_⟩
 ·simp [Oper.about,hop]
 ·rw [Oper.semAt_plain F _ _ (by rw [hop]; intro c hc'; cases hc')]
  subst hx
  simp only [execOp,hop,Sem.run_bind,hrun,Result.andThen_ok,Sem.run_pure]
  exact hK' _ _ hK
theorem wp_store_run {K:Act→World→Prop} (t:TypeId) (x y:Operand) (hop:o.op=Op.store t x y) (hrun:(Instr.storeAt t pv v).run P w=.ok () w') (hx:a.eval x=pv) (hy:a.eval y=v) (hK:K (a.put o.dst undef) w') : o.wp P a w K Q:=by
 subst hx hy
 unfold Oper.wp
 simp only [execOp,hop,Sem.run_bind,hrun,Result.andThen_ok,Sem.run_pure]
 exact hK
theorem wpListIn_store_run (hg:o.guard=none) (t:TypeId) (x y:Operand) (hop:o.op=Op.store t x y) (hrun:(Instr.storeAt t pv v).run P w=.ok () w') (hx:a.eval x=pv) (hy:a.eval y=v) (hK:wpListIn F n P ops Q rest (a.put o.dst undef) w') : wpListIn F n P ops Q (o::rest) a w:=by
 refine wpListIn_plain hg fun K hK'=>?_
 unfold Oper.wpIn
 refine ⟨?_,?_⟩
 ·simp [Oper.about,hop]
 ·rw [Oper.semAt_plain F _ _ (by rw [hop]; intro c hc'; cases hc')]
  subst hx hy
  simp only [execOp,hop,Sem.run_bind,hrun,Result.andThen_ok,Sem.run_pure]
  exact hK' _ _ hK
end
section
theorem post_cell2T {P:Program} {fn:Func} {R:Ending→World→Prop} {a:Act} {w:World} {v v2:Value} {tm tm1 tm2:Tmp} {t t1:TypeId} {ad ad1:Addr} (hres:fn.results = #[.cell tm t,.cell tm1 t1,.tmp tm2]) (ha:a.tmps.getD tm undef=.pointer (some ad)) (ha1:a.tmps.getD tm1 undef=.pointer (some ad1)) (hd:a.defers=[]) (hl:(loadVar t ad).run P w=.ok v w) (hl1:(loadVar t1 ad1).run P w=.ok v2 w) (hR:R (.returned (.tuple #[v,v2,a.tmps.getD tm2 undef])) w) : bodyPost P fn R .ret a w:=by
 refine bodyPost_ret ?_ hd hR
 have ha':a.tmps[tm]?.getD undef=.pointer (some ad):=by simpa using ha
 have ha1':a.tmps[tm1]?.getD undef=.pointer (some ad1):=by simpa using ha1
 simp [results,hres,ha',ha1',Go.asAddr,hl,hl1]
end
section
variable {ctx:Ev.Ctx} {b o n sz:Nat} {pre mid mid' post xs:List Value} {T t e:TypeId} {d:TypeDesc} {r:List Ev.Asr} {w:World} {lv:Value}
theorem hold_up (l1:List Ev.Asr) {a:Ev.Asr} {l:List Ev.Asr} (h:Ev.Hold ctx (l1++a::l) w) : Ev.Hold ctx (a::(l1++l)) w:=hold_perm List.perm_middle h
theorem hold_dn (l1:List Ev.Asr) {a:Ev.Asr} {l:List Ev.Asr} (h:Ev.Hold ctx (a::(l1++l)) w) : Ev.Hold ctx (l1++a::l) w:=hold_perm List.perm_middle.symm h
theorem at_mid {j:Nat} {v:Value} (hj:mid[j]? = some v) : (pre++(mid++post))[pre.length+j]? = some v:=by
 rw [List.getElem?_append_right (Nat.le_add_right _ _),Nat.add_sub_cancel_left,List.getElem?_append_left (List.getElem?_eq_some_iff.1 hj).1,hj]
theorem ld_blk (h:Ev.Hold ctx (Ev.blkA b (pre++(mid++post)) T::r) w) (ho:o=pre.length) (hu:Tryz.prog.underlying t=some d) (hd:d.isRow=true) (hi:(Tryz.prog.info? t).map (·.size)=some mid.length) :
  (Instr.loadAt t (.pointer (some ⟨b,o,none⟩))).run Tryz.prog w=.ok (.agg mid.toArray) w:=by
 subst ho
 exact run_loadAt_mid w b _ t mid d (fun j v hj=>cell_of (hold_blk h) _ v (by rw [List.getElem?_toArray]; exact at_mid hj)) hu hd hi
theorem lv_blk (h:Ev.Hold ctx (Ev.blkA b (pre++(mid++post)) T::r) w) (ho:o=pre.length) (hu:Tryz.prog.underlying t=some d) (hd:d.isRow=true) (hi:(Tryz.prog.info? t).map (·.size)=some mid.length) :
  (loadVar t ⟨b,o,none⟩).run Tryz.prog w=.ok (.agg mid.toArray) w:=by
 subst ho
 exact run_loadVar_mid w b _ t mid d (fun j v hj=>cell_of (hold_blk h) _ v (by rw [List.getElem?_toArray]; exact at_mid hj)) hu hd hi
theorem hold_sets (h:Ev.Hold ctx (Ev.blkA b (pre++(mid++post)) T::r) w) (hl:mid'.length=mid.length) : Ev.Hold ctx (Ev.blkA b (pre++(mid'++post)) T::r) (w.setCells b pre.length mid'):=by
 induction mid' generalizing pre mid w with
 | nil =>
  obtain rfl:mid=[]:=List.eq_nil_of_length_eq_zero hl.symm
  exact h
 | cons v vs ih =>
  match mid,hl with
  | m::ms,hl =>
   have h1:=hold_set pre.length v h
   have e1:(pre++(m::ms++post)).set pre.length v=(pre++[v])++(ms++post):=by
    rw [List.set_append_right _ _ (Nat.le_refl _),Nat.sub_self]
    simp
   rw [e1] at h1
   have h2:=ih h1 (by simpa using hl)
   have e2:(pre++[v])++(vs++post)=pre++(v::vs++post):=by simp
   rw [e2] at h2
   rw [World.setCells]
   rw [List.length_append] at h2
   exact h2
theorem st_blk (h:Ev.Hold ctx (Ev.blkA b (pre++(mid++post)) T::r) w) (ho:o=pre.length) (hl:mid'.length=mid.length) (h1:∀ x ∈ mid',x.oneCell'=true) (hi:(Tryz.prog.info? t).map (·.size)=some mid'.length) :
  ∃ w',(Instr.storeAt t (.pointer (some ⟨b,o,none⟩)) (.agg mid'.toArray)).run Tryz.prog w=.ok () w'∧Ev.Hold ctx (Ev.blkA b (pre++(mid'++post)) T::r) w':=by
 subst ho
 refine ⟨_,run_storeAt_mid w b _ t mid'.toArray (fun j hj=>⟨?_,froz_of (hold_blk h) _⟩) (by simpa using hi) (all_oneCell_toArray h1),?_⟩
 ·have hj':j < mid.length:=by simpa [hl] using hj
  have:=cell_of (hold_blk h) (pre.length+j) _ (by rw [List.getElem?_toArray]; exact at_mid (List.getElem?_eq_getElem hj'))
  rw [this]
  rfl
 ·exact hold_sets h hl
theorem hold_sset {off c k:Nat} (h:Ev.Hold ctx (Ev.slA e sz (.slice (some ⟨b,off,none⟩) n c) n xs::r) w) (hk:k < n * sz) (x:Value) : Ev.Hold ctx (Ev.slA e sz (.slice (some ⟨b,off,none⟩) n c) n (xs.set k x)::r) (w.setCell ⟨b,off+k,none⟩ x):=by
 obtain ⟨F,h1,h2,h3⟩:=h.ex
 obtain ⟨Fa,Fl,k1,k2,k3,k4⟩:=Ev.now_uncons h1
 have k1':Ev.SlV e sz (.slice (some ⟨b,off,none⟩) n c) n xs Fa w:=k1
 have hFb:Fa b:=by
  obtain ⟨hl,⟨he,hn,_⟩ | ⟨b',off',c',arr,hv,hF,_⟩⟩:=k1'
  ·rw [hn,Nat.zero_mul] at hk; exact absurd hk (Nat.not_lt_zero _)
  ·cases hv
   exact (hF b).2 rfl
 have hset:=k1'.set rfl hk x
 have ht:=Ev.turn_set (x:=x) (o:=off+k) (w:=w) hFb
 have hFl:∀ j,Fl j→(w.setCell ⟨b,off+k,none⟩ x).heap[j]? = w.heap[j]?:=fun j hj=>ht.block j (k2.lt j hj) (fun hf=>k3 j hf hj)
 refine ⟨F,Ev.now_same (Ev.now_cons (a:=Ev.slA e sz _ n (xs.set k x)) (Fa:=Fa) hset (Ev.now_keep k2 hFl ht.size) (fun j hj=>Nat.lt_of_lt_of_le (h1.lt j ((k4 j).2 (.inl hj))) ht.size) k3) (fun j=>(k4 j).symm),⟨ht.os.trans h2.os,ht.tape.trans h2.tape,ht.output.trans h2.output,Nat.le_trans h2.size ht.size,fun j hj hx=>?_⟩,fun j hj=>h3 j hj⟩
 refine (ht.block j (Nat.lt_of_lt_of_le hj h2.size) (fun hf=>?_)).trans (h2.block j hj hx)
 rcases h3 j ((k4 j).2 (.inl hf)) with h | h
 ·exact hx h
 ·omega
theorem hold_ssets {off c k:Nat} (h:Ev.Hold ctx (Ev.slA e sz (.slice (some ⟨b,off,none⟩) n c) n (pre++(mid++post))::r) w) (hk:(pre++(mid++post)).length=n * sz) (hl:mid'.length=mid.length) (hkp:k=off+pre.length) : Ev.Hold ctx (Ev.slA e sz (.slice (some ⟨b,off,none⟩) n c) n (pre++(mid'++post))::r) (w.setCells b k mid'):=by
 induction mid' generalizing pre mid w k with
 | nil =>
  obtain rfl:mid=[]:=List.eq_nil_of_length_eq_zero hl.symm
  exact h
 | cons v vs ih =>
  match mid,hl with
  | m::ms,hl =>
   have h1:=hold_sset h (k:=pre.length) (by rw [← hk,List.length_append,List.length_append,List.length_cons]; omega) v
   have e1:(pre++(m::ms++post)).set pre.length v=(pre++[v])++(ms++post):=by
    rw [List.set_append_right _ _ (Nat.le_refl _),Nat.sub_self]
    simp
   rw [e1] at h1
   have h2:=ih h1 (k:=k+1) (by rw [← hk]; simp only [List.length_append,List.length_cons,List.length_nil]; omega) (by simpa using hl) (by rw [List.length_append,hkp]; rfl)
   have e2:(pre++[v])++(vs++post)=pre++(v::vs++post):=by simp
   rw [e2] at h2
   rw [World.setCells,hkp]
   rw [hkp] at h2
   exact h2
theorem sl_some (h:Ev.Hold ctx (Ev.slA e sz lv n xs::r) w) (hn:0 < n) (hs:0 < sz) : ∃ b off c,lv=.slice (some ⟨b,off,none⟩) n c∧(∀ j,j < n * sz→w.cell? ⟨b,off+j,none⟩=xs[j]?)∧xs.length=n * sz:=by
 obtain ⟨hl,⟨h0,_⟩ | ⟨b,off,c,hv,_,hc⟩⟩:=hold_slr h
 ·omega
 ·refine ⟨b,off,c,hv,fun j hj=>?_,hl⟩
  exact hc j hj
theorem ld_sl {off c:Nat} (h:Ev.Hold ctx (Ev.slA e sz (.slice (some ⟨b,off,none⟩) n c) n (pre++(mid++post))::r) w) (ho:o=off+pre.length) (hm:0 < mid.length) (hu:Tryz.prog.underlying t=some d) (hd:d.isRow=true) (hi:(Tryz.prog.info? t).map (·.size)=some mid.length) :
  (Instr.loadAt t (.pointer (some ⟨b,o,none⟩))).run Tryz.prog w=.ok (.agg mid.toArray) w:=by
 subst ho
 have hs:=hold_slr h
 have hl:(pre++(mid++post)).length=n * sz:=hs.1
 refine run_loadAt_mid w b _ t mid d (fun j v hj=>?_) hu hd hi
 have hj':=(List.getElem?_eq_some_iff.1 hj).1
 rcases hs.2 with ⟨h0,_⟩ | ⟨b',off',c',hv,_,hc⟩
 ·rw [h0,Nat.zero_mul] at hl
  simp at hl
  rw [hl.2.1] at hj'
  cases hj'
 ·cases hv
  rw [Nat.add_assoc,hc _ (by rw [← hl,List.length_append,List.length_append]; omega)]
  exact at_mid hj
theorem st_sl {off c:Nat} (h:Ev.Hold ctx (Ev.slA e sz (.slice (some ⟨b,off,none⟩) n c) n (pre++(mid++post))::r) w) (ho:o=off+pre.length) (hl:mid'.length=mid.length) (h1:∀ x ∈ mid',x.oneCell'=true) (hi:(Tryz.prog.info? t).map (·.size)=some mid'.length) (hm:0 < mid.length) :
  ∃ w',(Instr.storeAt t (.pointer (some ⟨b,o,none⟩)) (.agg mid'.toArray)).run Tryz.prog w=.ok () w'∧Ev.Hold ctx (Ev.slA e sz (.slice (some ⟨b,off,none⟩) n c) n (pre++(mid'++post))::r) w':=by
 have hlen:(pre++(mid++post)).length=n * sz:=(hold_slr h).1
 obtain ⟨f,k1⟩:=h.first
 have k1':Ev.SlV e sz (.slice (some ⟨b,off,none⟩) n c) n (pre++(mid++post)) f w:=k1
 obtain ⟨_,⟨he,hn,_⟩ | ⟨b',off',c',arr,hv,hF,hb0,hx,hsz,hnc⟩⟩:=k1'
 ·rw [hn,Nat.zero_mul] at hlen
  simp at hlen
  rw [hlen.2.1] at hm
  cases hm
 ·cases hv
  refine ⟨_,run_storeAt_mid w b o t mid'.toArray (fun j hj=>⟨?_,froz_of hb0 _⟩) (by simpa using hi) (all_oneCell_toArray h1),?_⟩
  ·have hj':j < mid.length:=by simpa [hl] using hj
   have e1:arr[off+(pre.length+j)]? = (pre++(mid++post))[pre.length+j]?:=hx _ (by rw [← hlen]; simp; omega)
   have e2:=at_mid (pre:=pre) (post:=post) (List.getElem?_eq_getElem hj')
   rw [e2] at e1
   have:=cell_of hb0 (o+j) _ (by rw [ho,Nat.add_assoc]; exact e1)
   rw [this]
   rfl
  ·exact hold_ssets h hlen hl ho
end
section
variable {ctx:Ev.Ctx} {w:World} {r:List Ev.Asr} {b:Nat} {cs:List Value} {T t:TypeId} {d:TypeDesc}
theorem ld_all (h:Ev.Hold ctx (Ev.blkA b cs T::r) w) (hu:Tryz.prog.underlying t=some d) (hd:d.isRow=true) (hi:(Tryz.prog.info? t).map (·.size)=some cs.length) : (Instr.loadAt t (.pointer (some ⟨b,0,none⟩))).run Tryz.prog w=.ok (.agg cs.toArray) w :=
 ld_blk (pre:=[]) (post:=[]) (by rw [List.append_nil]; exact h) rfl hu hd hi
theorem lv_all (h:Ev.Hold ctx (Ev.blkA b cs T::r) w) (hu:Tryz.prog.underlying t=some d) (hd:d.isRow=true) (hi:(Tryz.prog.info? t).map (·.size)=some cs.length) : (loadVar t ⟨b,0,none⟩).run Tryz.prog w=.ok (.agg cs.toArray) w :=
 lv_blk (pre:=[]) (post:=[]) (by rw [List.append_nil]; exact h) rfl hu hd hi
theorem st_all {cs':List Value} (h:Ev.Hold ctx (Ev.blkA b cs T::r) w) (hl:cs'.length=cs.length) (h1:∀ x ∈ cs',x.oneCell'=true) (hi:(Tryz.prog.info? t).map (·.size)=some cs'.length) : ∃ w',(Instr.storeAt t (.pointer (some ⟨b,0,none⟩)) (.agg cs'.toArray)).run Tryz.prog w=.ok () w'∧Ev.Hold ctx (Ev.blkA b cs' T::r) w':=by
 have:=st_blk (pre:=[]) (post:=[]) (mid:=cs) (o:=0) (by rw [List.append_nil]; exact h) rfl hl h1 hi
 rwa [List.append_nil] at this
theorem rng_all (h:Ev.Hold ctx (Ev.blkA b cs T::r) w) : w.rangeAt b 0 cs:=fun j v hj=>by
 rw [Nat.zero_add]
 exact cell_of (hold_blk h) j v (by rw [List.getElem?_toArray]; exact hj)
end
section
theorem blk_isA {b:Nat} {x:Int} {c:Ev.Ctx} {l:List Ev.Asr} {w:World} (h:Ev.Hold c (Ev.blkA b [.int .i64 x] 3 :: l) w) : Ev.Hold c (isA (.slice (some ⟨b,0,none⟩) 1 1) [x]::l) w :=
 h.head (fun F ⟨h1,h2⟩=>⟨rfl,.inr ⟨b,0,1,_,rfl,h1,h2,fun i hi=>by
  have:i=0:=by simp at hi; omega
  subst this
  rfl,Nat.le_refl _,Nat.le_refl _⟩⟩)
end
section
variable {ctx:Ev.Ctx} {w:World} {r:List Ev.Asr}
theorem one_ints (l:List Int) : ∀ u ∈ ints l,u.oneCell'=true:=by
 intro u h
 obtain ⟨n,_,rfl⟩:=List.mem_map.1 h
 rfl
theorem aapp {t:TypeId} {u y:Value} {xs ys:List Int} (ht:t = 35) (hn:xs.length+ys.length≤1000000) (h:Ev.Hold ctx (isA u xs::isA y ys::r) w) :
  ∃ a k w',(Builtin.append_ #[t,t] t #[u,y]).run Tryz.prog w=.ok (.slice a (xs++ys).length k) w'∧Ev.Hold ctx (isA (.slice a (xs++ys).length k) (xs++ys)::isA y ys::r) w':=by
 subst ht
 obtain ⟨i,hi,hz,h0,hby⟩:=infInt
 have hs:=hold_slr (hold_swap h)
 obtain ⟨F',m1,m2,m3⟩:=h.ex
 obtain ⟨Fa,Fl,k1,k2,k3,k4⟩:=Ev.now_uncons m1
 have k1':Ev.SlV 3 i.size u xs.length (ints xs) Fa w:=by rw [hz]; exact k1
 have hsrc:Src Tryz.prog i.size 35 y ys.length (ints ys) w:=by rw [hz]; exact hs.src Tryz.underlying35 (one_ints ys)
 obtain ⟨v',w',G,r1,r2,r3,r4⟩:=Ev.SlV.append (ty := 35) k1' Tryz.underlying35 hi h0 (by rw [hz]; rfl) hsrc (by rw [hby]; omega) (by omega)
 have hFl:∀ j,Fl j→w'.heap[j]? = w.heap[j]?:=fun j hj=>r3.block j (k2.lt j hj) (fun hf=>k3 j hf hj)
 have q1:=Ev.now_keep k2 hFl r3.size
 have q0:(isA v' (xs++ys)).p (fun _=>none) G w':=by
  show Ev.SlV 3 1 v' (xs++ys).length (ints (xs++ys)) G w'
  rw [hz] at r2
  rw [List.length_append,show ints (xs++ys)=ints xs++ints ys by simp [ints]]
  exact r2
 have q2:=Ev.now_cons (a:=isA v' (xs++ys)) (Fa:=G) q0 q1 (fun j hj=>(r4 j hj).1) (fun j hj hl=>by
  rcases (r4 j hj).2 with h | h
  ·exact k3 j h hl
  ·have:=k2.lt j hl
   omega)
 have hfin:Ev.Hold ctx (isA v' (xs++ys)::isA y ys::r) w':=by
  refine ⟨_,q2,⟨r3.os.trans m2.os,r3.tape.trans m2.tape,r3.output.trans m2.output,Nat.le_trans m2.size r3.size,fun j hj hx=>?_⟩,fun j hj=>?_⟩
  ·refine (r3.block j (Nat.lt_of_lt_of_le hj m2.size) (fun hf=>?_)).trans (m2.block j hj hx)
   rcases m3 j ((k4 j).2 (.inl hf)) with h | h
   ·exact hx h
   ·omega
  ·rcases hj with hj | hj
   ·rcases (r4 j hj).2 with h | h
    ·exact m3 j ((k4 j).2 (.inl h))
    ·exact .inr (Nat.le_trans m2.size h)
   ·exact m3 j ((k4 j).2 (.inr hj))
 obtain ⟨a,k,rfl⟩:=slr_val (hold_slr hfin)
 exact ⟨a,k,w',r1,hfin⟩
end
theorem sl_froz {ctx:Ev.Ctx} {e:TypeId} {sz n b off c m:Nat} {xs:List Value} {r:List Ev.Asr} {w:World} (h:Ev.Hold ctx (Ev.slA e sz (.slice (some ⟨b,off,none⟩) n c) n xs::r) w) (hm:m < n * sz) : w.frozen? ⟨b,off+m,none⟩=false:=by
 obtain ⟨f,hf⟩:=h.first
 obtain ⟨_,_,_,hv,_,_,_,h6⟩:=Ev.slv_ptr (v:=.slice (some ⟨b,off,none⟩) n c) hf hm
 cases hv
 exact h6
end Go.Proofs.YtkmccgombmogmaaGreat
namespace Go.Proofs.YtkmccgombmogmaaGreat
open Go.RowKit
set_option linter.unusedVariables false
set_option linter.unusedSimpArgs false
section
variable {n:Nat} {P:Program} {ops:Array Oper} {Q:Exit→Act→World→Prop} {md:Region.Mode} {S:World→Prop} {i j:Nat} {oi oj:Oper} {v:Value} {K:Act→World→Prop} {a:Act} {w:World}
theorem put_under (hj:ops[j]? = some oj) (hap:oi.apart ops oj=true) (hsi:∀ cs b,oi.op ≠ .select cs b) (hsj:∀ cs b,oj.op ≠ .select cs b)
  (hQ:∀ c a w,Q (.panic c) (a.put oi.dst v) w→Q (.panic c) a w) (hy:YieldsIf P ops S oi v a) (h:wpOpIn Fence.wide n P ops Q j K (a.put oi.dst v) w) :
  wpOpIn Fence.wide n P ops Q j (fun a' w'=>YieldsIf P ops S oi v a'∧K (a'.put oi.dst v) w') a w:=by
 obtain ⟨d1,d2,d3⟩:=Oper.apart_spec hap
 have go:∀ u,K ((a.put oi.dst v).put oj.dst u)=K ((a.put oj.dst u).put oi.dst v):=fun u=>by rw [Act.put_comm a v u d2]
 have st:∀ (b:Act) u,YieldsIf P ops S oi v b→YieldsIf P ops S oi v (b.put oj.dst u):=fun b u hb=>hb.of_same (execOp_put oi hsi b oj.dst u d3) (wanted_put oi b oj.dst u d3)
 unfold wpOpIn at h ⊢
 simp only [hj] at h ⊢
 rw [wanted_put oj a oi.dst v d1] at h
 by_cases hw:Region.wanted oj (yielded ops a.tmps)=true
 ·rw [if_pos hw] at h ⊢
  unfold Oper.wpIn at h ⊢
  refine ⟨fun _ _=>trivial,?_⟩
  have h:=h.2
  rw [show Fence.wide.round=none from rfl,Oper.semAt_none] at h ⊢
  rw [execOp_put oj hsj a oi.dst v d1] at h
  generalize (execOp a.eval oj).run P w=res at h ⊢
  match res with
  | .ok (.value u) w'=>exact ⟨st a u hy,by simpa only [Oper.uponIn,go] using h⟩
  | .ok .skip w'=>exact ⟨st a undef hy,by simpa only [Oper.uponIn,go] using h⟩
  | .ok (.defer d) w' =>
   refine ⟨st _ undef (hy.of_same rfl rfl),?_⟩
   simp only [Oper.uponIn] at h ⊢
   rw [← Act.put_comm _ v undef d2,← Act.put_defers]
   exact h
  | .ok (.enter f args) w' =>
   simp only [Oper.uponIn] at h ⊢
   refine ⟨h.1,CallsIn.mono h.2 fun e w'' he=>?_⟩
   match e with
   | .returned u=>exact ⟨st a u hy,by simpa only [go] using he⟩
   | .panicked c=>exact hQ _ _ _ he
   | .outgrown=>exact he
  | .ok (.row r args) w' =>
   simp only [Oper.uponIn] at h ⊢
   exact ⟨h.1,RowsIn.mono h.2 fun u w'' he=>⟨st a u hy,by simpa only [go] using he⟩⟩
  | .ok (.round l f tmps asg body) w' =>
   simp only [Oper.uponIn] at h ⊢
   refine ⟨h.1,RoundIn.mono h.2 fun e w'' he=>?_⟩
   match e with
   | .returned u=>exact ⟨st a u hy,by simpa only [go] using he⟩
   | .panicked c=>exact hQ _ _ _ he
   | .outgrown=>exact he
  | .halt (.panic u) w'=>exact hQ _ _ _ (by simpa only [Oper.uponIn] using h)
  | .halt x w'=>cases x <;> simp only [Oper.uponIn] at h ⊢ <;> first | exact h | exact hQ _ _ _ h
 ·rw [if_neg hw] at h ⊢
  exact ⟨fun _ _=>trivial,st a undef hy,by rw [← go]; exact h.2⟩
def AnyS (n:Nat) (P:Program) (md:Region.Mode) (ops:Array Oper) (Q:Exit→Act→World→Prop) (S:World→Prop) (T:Nat) : Nat→Array Bool→Act→World→Prop
 | 0,l,a,w=>Region.ready md ops l=[]∧Q .normal a w
 | k+1,l,a,w=>(Region.ready md ops l=[]→Q .normal a w)∧∀ i ∈ Region.ready md ops l,wpOpIn Fence.wide n P ops Q i (fun a' w'=>((l.setIfInBounds i true).getD T false=true∨S w')∧AnyS n P md ops Q S T k (l.setIfInBounds i true) a' w') a w
theorem AnyS.any {T:Nat} : ∀ (k:Nat) (l:Array Bool) (a:Act) (w:World),AnyS n P md ops Q S T k l a w→wpAnyIn Fence.wide n P md ops Q k l a w
 | 0,_,_,_,h=>h
 | k+1,_,_,_,h=>⟨h.1,fun i hi=>wpOpIn_mono (fun a' w' h'=>AnyS.any k _ a' w' h'.2) (h.2 i hi)⟩
theorem wants_if (hi:ops[i]? = some oi) (hy:YieldsIf P ops S oi v a) (hS:S w) (h:K (a.put oi.dst v) w) : wpOpIn Fence.wide n P ops Q i K a w:=by
 unfold wpOpIn
 simp only [hi]
 rcases hy with ⟨h1,h2⟩ | ⟨h1,rfl⟩
 ·rw [if_pos h1]
  unfold Oper.wpIn
  refine ⟨fun _ _=>trivial,?_⟩
  rw [show Fence.wide.round=none from rfl,Oper.semAt_none,h2 w hS]
  exact h
 ·rw [if_neg (by rw [h1]; decide)]
  exact ⟨fun _ _=>trivial,h⟩
def behind (md:Region.Mode) (ops:Array Oper) (i:Nat) (B:List Nat) : Bool:=B.all fun q=>q == i || (match ops[q]? with | some o=>o.after.any fun e=>Region.binds md e && B.contains e.on | none=>false)
theorem not_yet {B:List Nat} {l:Array Bool} (hB:behind md ops i B=true) (hl:∀ q ∈ B,l.getD q true=false) {q:Nat} (hq:q ∈ B) (hqi:q ≠ i) : ¬ q ∈ Region.ready md ops l:=by
 intro hr
 obtain ⟨_,o,ho,hall⟩:=mem_ready.1 hr
 have h1:=List.all_eq_true.1 hB q hq
 rw [ho] at h1
 simp only [Bool.or_eq_true,beq_iff_eq,Array.any_eq_true'] at h1
 rcases h1 with h1 | ⟨e,he,h2⟩
 ·exact hqi h1
 ·obtain ⟨h3,h4⟩:=Bool.and_eq_true_iff.1 h2
  have h5:=hl e.on (by simpa using h4)
  have h6:=hall e he h3
  rcases Nat.lt_or_ge e.on l.size with h | h
  ·simp [h] at h5 h6
   rw [h5] at h6
   cases h6
  ·simp [Array.getElem?_eq_none h] at h5
theorem AnyS.first {T:Nat} {B:List Nat} (hi:ops[i]? = some oi) (hsel:∀ (j:Nat) (o:Oper) cs b,ops[j]? = some o→o.op ≠ .select cs b) (hQ:∀ c a w,Q (.panic c) (a.put oi.dst v) w→Q (.panic c) a w) (hB:behind md ops i B=true) (hT:T ∈ B) (hTi:T ≠ i) :
  ∀ (k:Nat) (l:Array Bool) (a:Act) (w:World),(∀ j oj,ops[j]? = some oj→j ≠ i→l.getD j true=false→(∀ e ∈ oj.after,Region.binds md e=true→e.on ≠ i)→oi.apart ops oj=true)→(∀ q ∈ B,l.getD q true=false) →
   i ∈ Region.ready md ops l→YieldsIf P ops S oi v a→S w→AnyS n P md ops Q S T k (l.setIfInBounds i true) (a.put oi.dst v) w→AnyS n P md ops Q S T (k+1) l a w:=by
 intro k
 induction k with
 | zero =>
  intro l a w _ _ hr hy hS H
  refine ⟨fun e=>(by rw [e] at hr; cases hr),fun j hj=>?_⟩
  by_cases e:j=i
  ·subst e
   exact wants_if hi hy hS ⟨.inr hS,H⟩
  ·have:=ready_mono hj e
   rw [H.1] at this
   cases this
 | succ k ih =>
  intro l a w hf hl hr hy hS H
  refine ⟨fun e=>(by rw [e] at hr; cases hr),fun j hj=>?_⟩
  by_cases e:j=i
  ·subst e
   exact wants_if hi hy hS ⟨.inr hS,H⟩
  ·obtain ⟨hju,oj,hoj,hall⟩:=mem_ready.1 hj
   have hjB:¬ j ∈ B:=fun hm=>not_yet hB hl hm e hj
   have hl':∀ q ∈ B,(l.setIfInBounds j true).getD q true=false:=fun q hq=>by
    have hjq:j ≠ q:=fun e=>hjB (e ▸ hq)
    rw [getD_set_ne true hjq]
    exact hl q hq
   have hno:∀ e ∈ oj.after,Region.binds md e=true→e.on ≠ i:=fun ed he hb heq=>by
    have h1:=hall ed he hb
    have h0:=(mem_ready.1 hr).1
    rw [heq] at h1
    rcases Nat.lt_or_ge i l.size with h' | h'
    ·simp [h'] at h0 h1
     rw [h0] at h1
     cases h1
    ·simp [Array.getElem?_eq_none h'] at h1
   have hTl:¬ ((l.setIfInBounds i true).setIfInBounds j true).getD T false=true:=by
    have hjT:j ≠ T:=fun e=>hjB (e ▸ hT)
    rw [getD_set_ne false hjT,getD_set_ne false (Ne.symm hTi)]
    have h0:=hl T hT
    rcases Nat.lt_or_ge T l.size with h | h
    ·simp [h] at h0 ⊢
     exact h0
    ·simp [Array.getElem?_eq_none h] at h0
   refine wpOpIn_mono (fun a' w' h3=>?_) (put_under hoj (hf j oj hoj e hju hno) (fun cs b=>hsel i oi cs b hi) (fun cs b=>hsel j oj cs b hoj) hQ hy (H.2 j (ready_mono hj e)))
   have hS':S w':=h3.2.1.resolve_left hTl
   refine ⟨.inr hS',ih (l.setIfInBounds j true) a' w' (fun q oq hq hqi hun hn=>hf q oq hq hqi ?_ hn) hl' (ready_mono hr (Ne.symm e)) h3.1 hS' ?_⟩
   ·by_cases hjq:j=q
    ·subst hjq
     exact hju
    ·rwa [getD_set_ne true hjq] at hun
   ·rw [Array.setIfInBounds_comm _ _ e]
    exact h3.2.2
theorem AnyS.take {T:Nat} (B:List Nat) {k:Nat} {l:Array Bool} (hi:ops[i]? = some oi) (hs:Region.noSelect ops=true) (hf:Region.free md ops l i=true) (hr:(Region.ready md ops l).contains i=true) (hB:(behind md ops i B && B.contains T && !(T == i) && B.all fun q=>!l.getD q true)=true)
  (hQ:∀ c a w,Q (.panic c) (a.put oi.dst v) w→Q (.panic c) a w) (hy:YieldsIf P ops S oi v a) (hS:S w) (h:AnyS n P md ops Q S T k (l.setIfInBounds i true) (a.put oi.dst v) w) : AnyS n P md ops Q S T (k+1) l a w:=by
 simp only [Bool.and_eq_true] at hB
 obtain ⟨⟨⟨h1,h2⟩,h3⟩,h4⟩:=hB
 exact AnyS.first hi (Region.noSelect_spec hs) hQ h1 (by simpa using h2) (by simpa using h3) k l a w (Region.free_spec hi hf) (fun q hq=>by simpa using List.all_eq_true.1 h4 q hq) (by simpa using hr) hy hS h
theorem AnyS.one {T:Nat} {k:Nat} {l:Array Bool} (hr:Region.ready md ops l=[i]) (h:wpOpIn Fence.wide n P ops Q i (fun a' w'=>((l.setIfInBounds i true).getD T false=true∨S w')∧AnyS n P md ops Q S T k (l.setIfInBounds i true) a' w') a w) : AnyS n P md ops Q S T (k+1) l a w :=
 ⟨fun e=>(by rw [hr] at e; cases e),fun j hj=>by
  rw [hr,List.mem_singleton] at hj
  subst hj
  exact h⟩
theorem AnyS.done {T:Nat} {l:Array Bool} (hr:Region.ready md ops l=[]) (h:Q .normal a w) : ∀ k,AnyS n P md ops Q S T k l a w
 | 0=>⟨hr,h⟩
 | _+1=>⟨fun _=>h,by rw [hr]; simp⟩
theorem AnyS.region {T id:Nat} (hm:P.follows .mixedOrders=true) (h:AnyS n P .any ops Q S T ops.size (Array.replicate ops.size false) a w.drew) : (Code.region id ops true).wpIn Fence.wide n P Q a w :=
 wpIn_region_any hm (AnyS.any _ _ _ _ h)
theorem wants_op (hi:ops[i]? = some oi) (h1:Region.wanted oi (yielded ops a.tmps)=true) (h:oi.wpIn Fence.wide n P a w K Q) : wpOpIn Fence.wide n P ops Q i K a w:=by
 unfold wpOpIn
 simp only [hi]
 rw [if_pos h1]
 exact h
end
end Go.Proofs.YtkmccgombmogmaaGreat
namespace Go.Proofs.YtkmccgombmogmaaGreat
open Go.RowKit
set_option linter.unusedVariables false
set_option linter.unusedSimpArgs false
def wi (n a b:Int) : Bool:=decide (a≤n) && decide (n≤b)
set_option maxHeartbeats 400000 in
theorem within_any (n a b:Int) (w:World) :
  Calls Tryz.prog 45 #[.int .i64 n,.int .i64 a,.int .i64 b] w fun e w'=>e=.returned (.bool (wi n a b))∧w=w':=by
 by_cases h1:a≤n <;> by_cases h2:n≤b
 all_goals
  go_enter Tryz.func45,Tryz.ntmps45
  go_wp2
  go_ret
  exact ⟨by simp [wi, *],rfl⟩
def rightB (N Q G M T S:Int) : Bool :=
 wi N 1 8 && (Q == 2 || Q == 4 || Q == 8 || Q == 16 || Q == 32 || Q == 64) && wi G 1 256 && wi M (N+1) 16 && wi T 2 200 && wi S 0 1000
def rightC (N Q G M T S:Int) : Bool :=
 wi N 1 8 && wi Q 2 64 && (bits .and .i64 Q (wrap64 (Q - 1)) == 0) && wi G 1 256 && wi M (wrap64 (N+1)) 16 && wi T 2 200 && wi S 0 1000
theorem pow_two_of (q:Nat) (h:q < 65) : (2≤q∧bits .and .i64 (q:Int) (wrap64 ((q:Int) - 1))=0)↔(q=2∨q=4∨q=8∨q=16∨q=32∨q=64):=by
 have:∀ q:Fin 65,(2≤q.val∧bits .and .i64 (q.val:Int) (wrap64 ((q.val:Int) - 1))=0)↔(q.val=2∨q.val=4∨q.val=8∨q.val=16∨q.val=32∨q.val=64):=by decide +kernel
 exact this ⟨q,h⟩
theorem rightC_eq (N Q G M T S:Int) : rightC N Q G M T S=rightB N Q G M T S:=by
 unfold rightC rightB
 by_cases hN:wi N 1 8=true
 ·have e1:wrap64 (N+1)=N+1:=by
   have h:=hN
   simp [wi] at h
   unfold wrap64
   omega
  have e2:(wi Q 2 64 && (bits .and .i64 Q (wrap64 (Q - 1)) == 0))=(Q == 2 || Q == 4 || Q == 8 || Q == 16 || Q == 32 || Q == 64):=by
   by_cases hQ:wi Q 2 64=true
   ·have h:=hQ
    simp [wi] at h
    obtain ⟨q,rfl⟩:=Int.eq_ofNat_of_zero_le (show 0≤Q by omega)
    have hp:=pow_two_of q (by omega)
    rw [Bool.eq_iff_iff]
    simp [hQ]
    rw [show (bits BinOp.and IntKind.i64 (↑q) (wrap64 (↑q - 1))=0↔(q=2∨q=4∨q=8∨q=16∨q=32∨q=64)) from ⟨fun x=>hp.1 ⟨by omega,x⟩,fun x=>(hp.2 x).2⟩]
    omega
   ·have h:=hQ
    simp [wi] at h
    rw [Bool.eq_iff_iff]
    simp [hQ]
    omega
  rw [e1,← e2]
  simp [Bool.and_assoc]
 ·simp [hN]
set_option maxHeartbeats 800000 in
theorem rightC_any (N Q G M T S:Int) (w:World) :
  Calls Tryz.prog 21 #[.agg #[.int .i64 N,.int .i64 Q,.int .i64 G,.int .i64 M,.int .i64 T,.int .i64 S]] w fun e w'=>e=.returned (.bool (rightC N Q G M T S))∧Below w.heap.size w w':=by
 go_enter Tryz.func21,Tryz.ntmps21
 go_wp2_with (go_at_call 45; refine (within_any _ _ _ _).mono ?_; rintro e w' ⟨rfl,rfl⟩)
 all_goals
  go_ret
  refine ⟨?_,(Below.refl _ _).alloc (Nat.le_refl _) _⟩
  simp [rightC, *]
theorem right_any (N Q G M T S:Int) (w:World) :
  Calls Tryz.prog 21 #[.agg #[.int .i64 N,.int .i64 Q,.int .i64 G,.int .i64 M,.int .i64 T,.int .i64 S]] w fun e w'=>e=.returned (.bool (rightB N Q G M T S))∧Below w.heap.size w w':=by
 rw [← rightC_eq]
 exact rightC_any N Q G M T S w
def roomTo (Q:Int) : Nat→Bool
 | 0=>false
 | k+1=>roomTo Q k || (Q == 2 ^ (k+1))
theorem roomTo_six (Q:Int) : roomTo Q 6=(Q == 2 || Q == 4 || Q == 8 || Q == 16 || Q == 32 || Q == 64):=by
 simp [roomTo]
def rightR (N Q G M T S:Int) : Bool :=
 roomTo Q 6 && decide (1≤N) && decide (N≤8) && decide (1≤G) && decide (G≤256) && decide (N < M) && decide (M≤16) && decide (2≤T) && decide (T≤200) && decide (0≤S) && decide (S≤1000)
theorem rightR_eq (N Q G M T S:Int) : rightR N Q G M T S=rightB N Q G M T S:=by
 unfold rightR rightB
 rw [roomTo_six]
 generalize (Q == 2 || Q == 4 || Q == 8 || Q == 16 || Q == 32 || Q == 64)=x
 rw [Bool.eq_iff_iff]
 cases x <;> simp [wi]
 omega
set_option maxHeartbeats 1600000 in
theorem rightR_any (N Q G M T S:Int) (w:World) :
  Calls Tryz.prog 107 #[.agg #[.int .i64 N,.int .i64 Q,.int .i64 G,.int .i64 M,.int .i64 T,.int .i64 S]] w fun e w'=>e=.returned (.bool (rightR N Q G M T S))∧Below w.heap.size w w':=by
 go_enter Tryz.func107,Tryz.ntmps107
 go_wp2
 go_loop [3,4] (fun r i=>∃ k:Nat,k≤6∧(k=0∧i=.int .i64 2∨k=1∧i=.int .i64 4∨k=2∧i=.int .i64 8∨k=3∧i=.int .i64 16∨k=4∧i=.int .i64 32∨k=5∧i=.int .i64 64∨k=6∧i=.int .i64 128)∧r=.bool (roomTo Q k)) (fun _ i=>(128 - intOf i).toNat)
 case atStart=>exact ⟨0,by omega,by simp,rfl⟩
 case round =>
  obtain ⟨k,hk,h,rfl⟩:=hrel
  rcases h with ⟨rfl,rfl⟩ | ⟨rfl,rfl⟩ | ⟨rfl,rfl⟩ | ⟨rfl,rfl⟩ | ⟨rfl,rfl⟩ | ⟨rfl,rfl⟩ | ⟨rfl,rfl⟩
  all_goals clear hk
  case inl =>
   go_wp2
   all_goals
    refine ⟨⟨1,by omega,by simp,?_⟩,by simp [intOf]⟩
    show _=Value.bool (roomTo Q 0 || (Q == 2))
    simp [*]
  case inr.inl =>
   go_wp2
   all_goals
    refine ⟨⟨2,by omega,by simp,?_⟩,by simp [intOf]⟩
    show _=Value.bool (roomTo Q 1 || (Q == 4))
    simp [*]
  case inr.inr.inl =>
   go_wp2
   all_goals
    refine ⟨⟨3,by omega,by simp,?_⟩,by simp [intOf]⟩
    show _=Value.bool (roomTo Q 2 || (Q == 8))
    simp [*]
  case inr.inr.inr.inl =>
   go_wp2
   all_goals
    refine ⟨⟨4,by omega,by simp,?_⟩,by simp [intOf]⟩
    show _=Value.bool (roomTo Q 3 || (Q == 16))
    simp [*]
  case inr.inr.inr.inr.inl =>
   go_wp2
   all_goals
    refine ⟨⟨5,by omega,by simp,?_⟩,by simp [intOf]⟩
    show _=Value.bool (roomTo Q 4 || (Q == 32))
    simp [*]
  case inr.inr.inr.inr.inr.inl =>
   go_wp2
   all_goals
    refine ⟨⟨6,by omega,by simp,?_⟩,by simp [intOf]⟩
    show _=Value.bool (roomTo Q 5 || (Q == 64))
    simp [*]
  case inr.inr.inr.inr.inr.inr =>
   go_wp2
   all_goals
    go_ret
    refine ⟨?_,(Below.refl _ _).alloc (Nat.le_refl _) _⟩
    simp [rightR, *]
    try omega
theorem rightRef_any (N Q G M T S:Int) (w:World) :
  Calls Tryz.prog 107 #[.agg #[.int .i64 N,.int .i64 Q,.int .i64 G,.int .i64 M,.int .i64 T,.int .i64 S]] w fun e w'=>e=.returned (.bool (rightB N Q G M T S))∧Below w.heap.size w w':=by
 rw [← rightR_eq]
 exact rightR_any N Q G M T S w
end Go.Proofs.YtkmccgombmogmaaGreat
namespace Go.Proofs.YtkmccgombmogmaaGreat
open Go.RowKit
set_option linter.unusedVariables false
set_option linter.unusedSimpArgs false
def hdW (x:Int) : Int:=x / 4294967296
def tlW (x:Int) : Int:=x % 4294967296
def szW (x:Int) : Int:=(tlW x - hdW x) % 4294967296
def packW (h t:Int) : Int:=h * 4294967296+t
def mvW (x d:Int) : Int:=packW (hdW x) ((tlW x+d) % 4294967296)
def U64 (x:Int) : Prop:=0≤x∧x < 18446744073709551616
theorem hdW_bd {x:Int} (h:U64 x) : 0≤hdW x∧hdW x < 4294967296:=by obtain ⟨h1,h2⟩:=h; unfold hdW; omega
theorem tlW_bd (x:Int) : 0≤tlW x∧tlW x < 4294967296:=by unfold tlW; omega
theorem wrap32 (n:Int) : IntKind.u32.wrap n=n % 4294967296:=by simp [IntKind.wrap,IntKind.bits,IntKind.signed]
theorem wTail (x:Int) (h:U64 x) (w:World) : Calls Tryz.prog 74 #[.int .u64 x] w fun e w'=>e=.returned (.int .u32 (tlW x))∧w=w':=by
 go_enter Tryz.func74,Tryz.ntmps74
 go_wp2
 go_ret
 exact ⟨by simp [tlW,wrap32],rfl⟩
theorem wHead (x:Int) (h:U64 x) (w:World) : Calls Tryz.prog 73 #[.int .u64 x] w fun e w'=>e=.returned (.int .u32 (hdW x))∧w=w':=by
 obtain ⟨h1,h2⟩:=h
 go_enter Tryz.func73,Tryz.ntmps73
 go_wp2
 go_ret
 exact ⟨by simp [hdW,wrap32],rfl⟩
theorem bits_or (a b:Int) (ha:0≤a∧a < 4294967296) (hb:0≤b∧b < 4294967296) : bits .or .u64 (a * 4294967296) b=a * 4294967296+b:=by
 obtain ⟨a,rfl⟩:=Int.eq_ofNat_of_zero_le ha.1
 obtain ⟨b,rfl⟩:=Int.eq_ofNat_of_zero_le hb.1
 have h1:a < 4294967296:=by omega
 have h2:b < 4294967296:=by omega
 have e1:((a:Int) * 4294967296 % 18446744073709551616).toNat=2 ^ 32 * a:=by omega
 have e2:((b:Int) % 18446744073709551616).toNat=b:=by omega
 have e3:(2 ^ 32 * a ||| b)=2 ^ 32 * a+b:=(Nat.two_pow_add_eq_or_of_lt (i:=32) (by omega) a).symm
 have e4:(BitVec.ofInt 64 ((a:Int) * 4294967296) ||| BitVec.ofInt 64 (b:Int)).toNat=2 ^ 32 * a+b:=by
  simp only [BitVec.toNat_or,BitVec.toNat_ofInt]
  rw [show ((2 ^ 64:Nat) : Int)=18446744073709551616 by rfl,e1,e2,e3]
 show IntKind.u64.wrap ((BitVec.ofInt 64 ((a:Int) * 4294967296) ||| BitVec.ofInt 64 (b:Int)).toNat:Int)=_
 rw [e4]
 simp [IntKind.wrap,IntKind.bits,IntKind.signed]
 omega
theorem wPack (a b:Int) (ha:0≤a∧a < 4294967296) (hb:0≤b∧b < 4294967296) (w:World) : Calls Tryz.prog 114 #[.int .u32 a,.int .u32 b] w fun e w'=>e=.returned (.int .u64 (packW a b))∧w=w':=by
 go_enter Tryz.func114,Tryz.ntmps114
 go_wp2
 go_ret
 exact ⟨by simp [packW,bits_or a b ha hb],rfl⟩
theorem szW_bd (x:Int) : 0≤szW x∧szW x < 4294967296:=by unfold szW; omega
theorem wLen (x:Int) (h:U64 x) (w:World) : Calls Tryz.prog 42 #[.int .u64 x] w fun e w'=>e=.returned (.int .u32 (szW x))∧w=w':=by
 go_enter Tryz.func42,Tryz.ntmps42
 go_wp2_with (first | (go_at_call 74; refine (wTail x h _).mono ?_; rintro e w' ⟨rfl,rfl⟩) | (go_at_call 73; refine (wHead x h _).mono ?_; rintro e w' ⟨rfl,rfl⟩))
 go_ret
 exact ⟨by simp [szW,wrap32],rfl⟩
theorem wGrow (x n:Int) (h:U64 x) (w:World) : Calls Tryz.prog 113 #[.int .u64 x,.int .u32 n] w fun e w'=>e=.returned (.int .u64 (mvW x n))∧w=w':=by
 go_enter Tryz.func113,Tryz.ntmps113
 go_wp2_with (first | (go_at_call 74; refine (wTail x h _).mono ?_; rintro e w' ⟨rfl,rfl⟩) | (go_at_call 73; refine (wHead x h _).mono ?_; rintro e w' ⟨rfl,rfl⟩) | (go_at_call 114; refine (wPack (hdW x) ((tlW x+n) % 4294967296) (hdW_bd h) (by omega) _).mono ?_; rintro e w' ⟨rfl,rfl⟩))
 go_ret
 exact ⟨rfl,rfl⟩
theorem wDrop (x n:Int) (h:U64 x) (w:World) : Calls Tryz.prog 96 #[.int .u64 x,.int .u32 n] w fun e w'=>e=.returned (.int .u64 (mvW x (-n)))∧w=w':=by
 go_enter Tryz.func96,Tryz.ntmps96
 go_wp2_with (first | (go_at_call 74; refine (wTail x h _).mono ?_; rintro e w' ⟨rfl,rfl⟩) | (go_at_call 73; refine (wHead x h _).mono ?_; rintro e w' ⟨rfl,rfl⟩) | (go_at_call 114; refine (wPack (hdW x) ((tlW x - n) % 4294967296) (hdW_bd h) (by omega) _).mono ?_; rintro e w' ⟨rfl,rfl⟩))
 go_ret
 exact ⟨rfl,rfl⟩
theorem rTail (x:Int) (h:U64 x) (w:World) : Calls Tryz.prog 79 #[.int .u64 x] w fun e w'=>e=.returned (.int .u32 (tlW x))∧w=w':=by
 obtain ⟨h1,h2⟩:=h
 go_enter Tryz.func79,Tryz.ntmps79
 go_wp2
 go_ret
 exact ⟨by simp [tlW,wrap32],rfl⟩
theorem rHead (x:Int) (h:U64 x) (w:World) : Calls Tryz.prog 87 #[.int .u64 x] w fun e w'=>e=.returned (.int .u32 (hdW x))∧w=w':=by
 obtain ⟨h1,h2⟩:=h
 go_enter Tryz.func87,Tryz.ntmps87
 go_wp2
 go_ret
 exact ⟨by simp [hdW,wrap32],rfl⟩
theorem rPack (a b:Int) (ha:0≤a∧a < 4294967296) (hb:0≤b∧b < 4294967296) (w:World) : Calls Tryz.prog 86 #[.int .u32 a,.int .u32 b] w fun e w'=>e=.returned (.int .u64 (packW a b))∧w=w':=by
 go_enter Tryz.func86,Tryz.ntmps86
 go_wp2
 go_ret
 exact ⟨by simp [packW],rfl⟩
theorem rSize (x:Int) (h:U64 x) (w:World) : Calls Tryz.prog 82 #[.int .u64 x] w fun e w'=>e=.returned (.int .u32 (szW x))∧w=w':=by
 go_enter Tryz.func82,Tryz.ntmps82
 go_wp2_with (first | (go_at_call 79; refine (rTail x h _).mono ?_; rintro e w' ⟨rfl,rfl⟩) | (go_at_call 87; refine (rHead x h _).mono ?_; rintro e w' ⟨rfl,rfl⟩))
 go_ret
 exact ⟨by simp [szW,wrap32],rfl⟩
end Go.Proofs.YtkmccgombmogmaaGreat
namespace Go.Proofs.YtkmccgombmogmaaGreat
open Go.RowKit
set_option linter.unusedVariables false
set_option linter.unusedSimpArgs false
def gnW (x d:Int) : Int:=packW ((hdW x+d) % 4294967296) (tlW x)
theorem wGain (x n:Int) (h:U64 x) (w:World) : Calls Tryz.prog 115 #[.int .u64 x,.int .u32 n] w fun e w'=>e=.returned (.int .u64 (gnW x n))∧w=w':=by
 go_enter Tryz.func115,Tryz.ntmps115
 go_wp2_with (first | (go_at_call 74; refine (wTail x h _).mono ?_; rintro e w' ⟨rfl,rfl⟩) | (go_at_call 73; refine (wHead x h _).mono ?_; rintro e w' ⟨rfl,rfl⟩) | (go_at_call 114; refine (wPack ((hdW x+n) % 4294967296) (tlW x) (by omega) (tlW_bd x) _).mono ?_; rintro e w' ⟨rfl,rfl⟩))
 go_ret
 exact ⟨rfl,rfl⟩
def oldN (n:Int) : Int:=n - n / 2
theorem wOlder (n:Int) (h:0≤n∧n < 4294967296) (w:World) : Calls Tryz.prog 117 #[.int .u32 n] w fun e w'=>e=.returned (.int .u32 (oldN n))∧w=w':=by
 have e1:n.tdiv 2=n / 2:=Int.tdiv_eq_ediv_of_nonneg h.1
 have e2:IntKind.u32.wrap (n / 2)=n / 2:=by rw [wrap32]; omega
 have e3:IntKind.u32.wrap (n - n / 2)=n - n / 2:=by rw [wrap32]; omega
 go_enter Tryz.func117,Tryz.ntmps117
 go_wp2
 go_ret
 refine ⟨?_,rfl⟩
 simp [oldN,e1,e2,e3]
theorem gnW_u {x:Int} (h:U64 x) (d:Int) : U64 (gnW x d):=by
 have:=tlW_bd x
 unfold gnW packW U64
 omega
end Go.Proofs.YtkmccgombmogmaaGreat
namespace Go.Proofs.YtkmccgombmogmaaGreat
open Go.RowKit
set_option linter.unusedVariables false
set_option linter.unusedSimpArgs false
structure Cf where
 n:Int
 q:Int
 g:Int
 m:Int
 t:Int
 s:Int
abbrev Cf.v (c:Cf) : Value:=.agg #[.int .i64 c.n,.int .i64 c.q,.int .i64 c.g,.int .i64 c.m,.int .i64 c.t,.int .i64 c.s]
def Cf.ok (c:Cf) : Bool:=rightB c.n c.q c.g c.m c.t c.s
structure Cfg where
 n:Nat
 q:Nat
 g:Int
 m:Int
 t:Int
 s:Int
 h:rightB n q g m t s=true
abbrev Cfg.v (c:Cfg) : Value:=.agg #[.int .i64 (c.n:Int),.int .i64 (c.q:Int),.int .i64 c.g,.int .i64 c.m,.int .i64 c.t,.int .i64 c.s]
theorem right_parts {n q g m t s:Int} (h:rightB n q g m t s=true) : (1≤n∧n≤8)∧(q=2∨q=4∨q=8∨q=16∨q=32∨q=64)∧(1≤g∧g≤256)∧(n+1≤m∧m≤16)∧(2≤t∧t≤200)∧(0≤s∧s≤1000):=by
 simp [rightB,wi] at h
 omega
theorem Cf.cfg {c:Cf} (h:c.ok=true) : ∃ d:Cfg,c=⟨d.n,d.q,d.g,d.m,d.t,d.s⟩:=by
 have hp:=right_parts h
 obtain ⟨n,q,g,m,t,s⟩:=c
 obtain ⟨n,rfl⟩:=Int.eq_ofNat_of_zero_le (show 0≤n by simp at hp; omega)
 obtain ⟨q,rfl⟩:=Int.eq_ofNat_of_zero_le (show 0≤q by simp at hp; omega)
 exact ⟨⟨n,q,g,m,t,s,h⟩,rfl⟩
theorem Cfg.nb (c:Cfg) : 1≤c.n∧c.n≤8:=by have:=(right_parts c.h).1; omega
theorem Cfg.qb (c:Cfg) : 2≤c.q∧c.q≤64:=by have:=(right_parts c.h).2.1; omega
def Cfg.off (c:Cfg) (p:Nat) : Nat:=p * (6+c.q)
theorem Cfg.off_le (c:Cfg) {p:Nat} (h:p < c.n) : c.off p+(6+c.q)≤c.off c.n:=by
 unfold Cfg.off
 have:=Nat.mul_le_mul_right (6+c.q) (show p+1≤c.n from h)
 rw [Nat.succ_mul] at this
 exact this
theorem Cfg.off_max (c:Cfg) : c.off c.n≤560:=by
 unfold Cfg.off
 have h1:=c.nb.2
 have h2:=c.qb.2
 exact Nat.le_trans (Nat.mul_le_mul h1 (show 6+c.q≤70 by omega)) (by decide)
def Cfg.word (c:Cfg) (p:Nat) : Nat:=4+c.off p
def Cfg.slotI (c:Cfg) (i:Int) : Nat:=(i % (c.q:Int)).toNat
theorem Cfg.slotI_lt (c:Cfg) (i:Int) : c.slotI i < c.q:=by
 have:=c.qb.1
 have h1:=Int.emod_lt_of_pos i (show (0:Int) < (c.q:Int) by omega)
 unfold Cfg.slotI
 have h2:=Int.emod_nonneg i (show (c.q:Int) ≠ 0 by omega)
 omega
def Cfg.slot (c:Cfg) (p:Nat) (i:Int) : Nat:=4+c.off p+(6+c.slotI i)
def Cfg.cells (c:Cfg) : Nat:=4+c.off c.n
theorem Cfg.z0 (c:Cfg) : (1≤c.n∧c.n≤8)∧(2≤c.q∧c.q≤64)∧c.off c.n≤560:=⟨c.nb,c.qb,c.off_max⟩
theorem Cfg.z (c:Cfg) {p:Nat} (hp:p < c.n) : (1≤c.n∧c.n≤8)∧(2≤c.q∧c.q≤64)∧c.off c.n≤560∧c.off p+(6+c.q)≤c.off c.n∧c.word p=4+c.off p:=⟨c.nb,c.qb,c.off_max,c.off_le hp,rfl⟩
theorem off_mul (c:Cfg) {p:Nat} (h:p < c.n) : IntKind.i64.wrap ((p:Int) * ((6+c.q:Nat) : Int))=((c.off p:Nat) : Int):=by
 have h1:=c.off_le h
 have h2:=c.off_max
 have e:(p:Int) * ((6+c.q:Nat) : Int)=((c.off p:Nat) : Int):=by unfold Cfg.off; omega
 rw [e,wrap_ok (by omega) (by omega)]
theorem off_all (c:Cfg) : IntKind.i64.wrap ((c.n:Int) * ((6+c.q:Nat) : Int))=((c.off c.n:Nat) : Int):=by
 have h2:=c.off_max
 have e:(c.n:Int) * ((6+c.q:Nat) : Int)=((c.off c.n:Nat) : Int):=by unfold Cfg.off; omega
 rw [e,wrap_ok (by omega) (by omega)]
theorem slot_rem (c:Cfg) {i:Int} (h:0≤i) : i.tmod (c.q:Int)=((c.slotI i:Nat) : Int):=by
 have h2:=Int.emod_nonneg i (show (c.q:Int) ≠ 0 by have:=c.qb; omega)
 rw [Int.tmod_eq_emod_of_nonneg h]
 unfold Cfg.slotI
 omega
theorem Cfg.right (c:Cfg) (w:World) : Calls Tryz.prog 21 #[c.v] w fun e w'=>e=.returned (.bool true)∧Below w.heap.size w w':=by
 have:=right_any (c.n:Int) c.q c.g c.m c.t c.s w
 rw [c.h] at this
 exact this
theorem Cfg.rightR (c:Cfg) (w:World) : Calls Tryz.prog 107 #[c.v] w fun e w'=>e=.returned (.bool true)∧Below w.heap.size w w':=by
 have:=rightRef_any (c.n:Int) c.q c.g c.m c.t c.s w
 rw [c.h] at this
 exact this
theorem Cf.wrong {c:Cf} (h:c.ok=false) (w:World) : Calls Tryz.prog 21 #[c.v] w fun e w'=>e=.returned (.bool false)∧Below w.heap.size w w':=by
 have:=right_any c.n c.q c.g c.m c.t c.s w
 unfold Cf.ok at h
 rw [h] at this
 exact this
end Go.Proofs.YtkmccgombmogmaaGreat
