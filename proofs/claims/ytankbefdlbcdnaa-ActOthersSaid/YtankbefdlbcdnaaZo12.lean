/- Part of a proof: see the last text. -/
import Derived.Test.YtankbefdlbcdnaaZo11
import Derived.Maps.Range
import Derived.Maps.Views
namespace Go.Ev
open Go.RowKit
set_option linter.unusedVariables false
set_option linter.unusedSimpArgs false
set_option linter.unusedSectionVars false
theorem gk_range {op:Op} {t:TypeId} (h:gkey op=some [13,t]) : ∃ x,op=.range t x:=by
 unfold gkey at h
 split at h <;> first | (cases h; done) | skip
 all_goals first | (cases h; exact ⟨_,rfl⟩) | (simp at h)
theorem gk_next {op:Op} (h:gkey op=some [14,0]) : ∃ x,op=.next x false:=by
 unfold gkey at h
 split at h <;> first | (cases h; done) | skip
 all_goals first | (simp at h; done) | skip
 rename_i x b
 cases b
 ·exact ⟨_,rfl⟩
 ·simp at h
theorem gk_entry {op:Op}  (h:gkey op=some [15]) : ∃ x,op=.entry x:=by
 unfold gkey at h
 split at h <;> first | (cases h; done) | skip
 all_goals first | (cases h; exact ⟨_,rfl⟩) | (simp at h)
theorem gk_lookup {op:Op} {t:TypeId} {b:Bool} {n:Nat} (hn:n=cond b 1 0) (h:gkey op=some [5,t,n]) : ∃ x y,op=.lookup t x y b:=by
 subst hn
 unfold gkey at h
 split at h <;> first | (cases h; done) | skip
 all_goals first | (simp at h; done) | skip
 rename_i t' x y ok
 cases ok <;> cases b <;> simp at h <;> subst h <;> exact ⟨_,_,rfl⟩
theorem gk_mapUpdate {op:Op} {t:TypeId} (h:gkey op=some [6,t]) : ∃ x y z,op=.mapUpdate t x y z:=by
 unfold gkey at h
 split at h <;> first | (cases h; done) | skip
 all_goals first | (cases h; exact ⟨_,_,_,rfl⟩) | (simp at h)
theorem gk_mapEntry {op:Op} {t:TypeId} (h:gkey op=some [22,t]) : ∃ x y,op=.mapEntry t x y:=by
 unfold gkey at h
 split at h <;> first | (cases h; done) | skip
 all_goals first | (cases h; exact ⟨_,_,rfl⟩) | (simp at h)
theorem gk_entryStore {op:Op} {t:TypeId} (h:gkey op=some [23,t]) : ∃ x y z,op=.entryStore t x y z:=by
 unfold gkey at h
 split at h <;> first | (cases h; done) | skip
 all_goals first | (cases h; exact ⟨_,_,_,rfl⟩) | (simp at h)
theorem gk_build1 {op:Op} {t:TypeId} (h:gkey op=some [24,t]) : ∃ x,op=.buildSlice t 1 #[(0,x)]:=by
 unfold gkey at h
 split at h <;> first | (cases h; done) | skip
 all_goals first | (cases h; exact ⟨_,rfl⟩) | (simp at h)
theorem gk_delete {op:Op} {t u:TypeId} (h:gkey op=some [12,t,u]) : ∃ x y,op=.call { callee:=.builtin .delete,args:=#[x,y],argTypes:=#[t,u] }:=by
 unfold gkey at h
 split at h <;> first | (cases h; done) | skip
 all_goals first | (cases h; exact ⟨_,_,rfl⟩) | (simp at h)
theorem gk_min {op:Op} {t u:TypeId} (h:gkey op=some [16,t,u]) : ∃ x y,op=.call { callee:=.builtin .min,args:=#[x,y],argTypes:=#[t,u] }:=by
 unfold gkey at h
 split at h <;> first | (cases h; done) | skip
 all_goals first | (cases h; exact ⟨_,_,rfl⟩) | (simp at h)
theorem gk_max {op:Op} {t u:TypeId} (h:gkey op=some [17,t,u]) : ∃ x y,op=.call { callee:=.builtin .max,args:=#[x,y],argTypes:=#[t,u] }:=by
 unfold gkey at h
 split at h <;> first | (cases h; done) | skip
 all_goals first | (cases h; exact ⟨_,_,rfl⟩) | (simp at h)
theorem gk_nilCheck {op:Op}  (h:gkey op=some [9]) : ∃ x,op=.nilCheck x:=by
 unfold gkey at h
 split at h <;> first | (cases h; done) | skip
 all_goals first | (cases h; exact ⟨_,rfl⟩) | (simp at h)
theorem gk_fieldAddr {op:Op} {t:TypeId} {f:Nat} (h:gkey op=some [7,t,f]) : ∃ x,op=.fieldAddr t x f:=by
 unfold gkey at h
 split at h <;> first | (cases h; done) | skip
 all_goals first | (cases h; exact ⟨_,rfl⟩) | (simp at h)
theorem ops3 {ι:Ren} [Sig] {x y z:Value} {l:List Value} (h:LRel ι [x,y,z] l) : ∃ x' y' z',l=[x',y',z']∧VRel ι x x'∧VRel ι y y'∧VRel ι z z':=by
 match l,h with
 | [],h=>exact absurd h.1 (by simp)
 | [_],h=>exact absurd h.1 (by simp)
 | [_,_],h=>exact absurd h.1 (by simp)
 | [x',y',z'],h=>exact ⟨x',y',z',rfl,h.2 0 x x' rfl rfl,h.2 1 y y' rfl rfl,h.2 2 z z' rfl rfl⟩
 | _::_::_::_::_,h=>exact absurd h.1 (by simp)
variable (k:Kn) {P:Program} {g:Nat} {d0 ng:Option Nat} {r:Value}
theorem GTrue.range {t:TypeId} {x:Value} (h:letI:Sig:=k.sig; ∀ ι F w d x',Ask k g d0 ng ι F w d→VRel ι x x'→VStep P (Instr.range t x') ι d F w r ng) : GTrue k P ⟨[13,t],[x],none,g,d0,r,ng⟩:=by
 letI:Sig:=k.sig
 intro o hk ev ι F w d hv _ h1 h2 h3 h4
 obtain ⟨a,ho⟩:=gk_range hk
 rw [ho] at hv
 obtain ⟨x',e,hx⟩:=ops1 hv
 simp [Op.operands] at e
 subst e
 obtain ⟨v',w',r1,r2⟩:=h ι F w d _ ⟨h1,h2,h3,h4⟩ hx
 refine ⟨.value v',v',w',?_,.inl rfl,r2⟩
 unfold execOp
 rw [ho]
 simp only
 rw [Sem.run_bind,r1]
 rfl
theorem GTrue.next  {x:Value} (h:letI:Sig:=k.sig; ∀ ι F w d x' ty,Ask k g d0 ng ι F w d→VRel ι x x'→VStep P (Instr.next x' false ty) ι d F w r ng) : GTrue k P ⟨[14,0],[x],none,g,d0,r,ng⟩:=by
 letI:Sig:=k.sig
 intro o hk ev ι F w d hv _ h1 h2 h3 h4
 obtain ⟨a,ho⟩:=gk_next hk
 rw [ho] at hv
 obtain ⟨x',e,hx⟩:=ops1 hv
 simp [Op.operands] at e
 subst e
 obtain ⟨v',w',r1,r2⟩:=h ι F w d _ o.type ⟨h1,h2,h3,h4⟩ hx
 refine ⟨.value v',v',w',?_,.inl rfl,r2⟩
 unfold execOp
 rw [ho]
 simp only
 rw [Sem.run_bind,r1]
 rfl
theorem GTrue.entry  {x:Value} (h:letI:Sig:=k.sig; ∀ ι F w d x',Ask k g d0 ng ι F w d→VRel ι x x'→VStep P (Instr.entry x') ι d F w r ng) : GTrue k P ⟨[15],[x],none,g,d0,r,ng⟩:=by
 letI:Sig:=k.sig
 intro o hk ev ι F w d hv _ h1 h2 h3 h4
 obtain ⟨a,ho⟩:=gk_entry hk
 rw [ho] at hv
 obtain ⟨x',e,hx⟩:=ops1 hv
 simp [Op.operands] at e
 subst e
 obtain ⟨v',w',r1,r2⟩:=h ι F w d _ ⟨h1,h2,h3,h4⟩ hx
 refine ⟨.value v',v',w',?_,.inl rfl,r2⟩
 unfold execOp
 rw [ho]
 simp only
 rw [Sem.run_bind,r1]
 rfl
theorem GTrue.fieldAddr {t:TypeId} {f:Nat} {x:Value} (h:letI:Sig:=k.sig; ∀ ι F w d x',Ask k g d0 ng ι F w d→VRel ι x x'→VStep P (Instr.fieldAt t x' f) ι d F w r ng) : GTrue k P ⟨[7,t,f],[x],none,g,d0,r,ng⟩:=by
 letI:Sig:=k.sig
 intro o hk ev ι F w d hv _ h1 h2 h3 h4
 obtain ⟨a,ho⟩:=gk_fieldAddr hk
 rw [ho] at hv
 obtain ⟨x',e,hx⟩:=ops1 hv
 simp [Op.operands] at e
 subst e
 obtain ⟨v',w',r1,r2⟩:=h ι F w d _ ⟨h1,h2,h3,h4⟩ hx
 refine ⟨.value v',v',w',?_,.inl rfl,r2⟩
 unfold execOp
 rw [ho]
 simp only
 rw [Sem.run_bind,r1]
 rfl
theorem GTrue.lookup {t:TypeId} {b:Bool} {n:Nat} (hn:n=cond b 1 0) {x y:Value} (h:letI:Sig:=k.sig; ∀ ι F w d x' y',Ask k g d0 ng ι F w d→VRel ι x x'→VRel ι y y'→VStep P (Instr.lookup t x' y' b) ι d F w r ng) : GTrue k P ⟨[5,t,n],[x,y],none,g,d0,r,ng⟩:=by
 letI:Sig:=k.sig
 intro o hk ev ι F w d hv _ h1 h2 h3 h4
 obtain ⟨a,b,ho⟩:=gk_lookup hn hk
 rw [ho] at hv
 obtain ⟨x',y',e,hx,hy⟩:=ops2 hv
 simp [Op.operands] at e
 obtain ⟨rfl,rfl⟩:=e
 obtain ⟨v',w',r1,r2⟩:=h ι F w d _ _ ⟨h1,h2,h3,h4⟩ hx hy
 refine ⟨.value v',v',w',?_,.inl rfl,r2⟩
 unfold execOp
 rw [ho]
 simp only
 rw [Sem.run_bind,r1]
 rfl
theorem GTrue.mapUpdate {t:TypeId} {x y z:Value} (h:letI:Sig:=k.sig; ∀ ι F w d x' y' z',Ask k g d0 ng ι F w d→VRel ι x x'→VRel ι y y'→VRel ι z z'→UStep P (Instr.mapUpdate t x' y' z') ι d F w ng) : GTrue k P ⟨[6,t],[x,y,z],none,g,d0,undef,ng⟩:=by
 letI:Sig:=k.sig
 intro o hk ev ι F w d hv _ h1 h2 h3 h4
 obtain ⟨a,b,c,ho⟩:=gk_mapUpdate hk
 rw [ho] at hv
 obtain ⟨x',y',z',e,hx,hy,hz⟩:=ops3 hv
 simp [Op.operands] at e
 obtain ⟨rfl,rfl,rfl⟩:=e
 obtain ⟨w',r1,r2⟩:=h ι F w d _ _ _ ⟨h1,h2,h3,h4⟩ hx hy hz
 refine ⟨.skip,undef,w',?_,.inr ⟨rfl,rfl⟩,r2⟩
 unfold execOp
 rw [ho]
 simp only
 rw [Sem.run_bind,r1]
 rfl
theorem GTrue.mapEntry {t:TypeId} {x y:Value} (h:letI:Sig:=k.sig; ∀ ι F w d x' y',Ask k g d0 ng ι F w d→VRel ι x x'→VRel ι y y'→VStep P (Instr.mapEntry t x' y') ι d F w r ng) : GTrue k P ⟨[22,t],[x,y],none,g,d0,r,ng⟩:=by
 letI:Sig:=k.sig
 intro o hk ev ι F w d hv _ h1 h2 h3 h4
 obtain ⟨a,b,ho⟩:=gk_mapEntry hk
 rw [ho] at hv
 obtain ⟨x',y',e,hx,hy⟩:=ops2 hv
 simp [Op.operands] at e
 obtain ⟨rfl,rfl⟩:=e
 obtain ⟨v',w',r1,r2⟩:=h ι F w d _ _ ⟨h1,h2,h3,h4⟩ hx hy
 refine ⟨.value v',v',w',?_,.inl rfl,r2⟩
 unfold execOp
 rw [ho]
 simp only
 rw [Sem.run_bind,r1]
 rfl
theorem GTrue.entryStore {t:TypeId} {x y z:Value} (h:letI:Sig:=k.sig; ∀ ι F w d x' y' z',Ask k g d0 ng ι F w d→VRel ι x x'→VRel ι y y'→VRel ι z z'→UStep P (Instr.entryStore t x' y' z') ι d F w ng) : GTrue k P ⟨[23,t],[x,y,z],none,g,d0,undef,ng⟩:=by
 letI:Sig:=k.sig
 intro o hk ev ι F w d hv _ h1 h2 h3 h4
 obtain ⟨a,b,c,ho⟩:=gk_entryStore hk
 rw [ho] at hv
 obtain ⟨x',y',z',e,hx,hy,hz⟩:=ops3 hv
 simp [Op.operands] at e
 obtain ⟨rfl,rfl,rfl⟩:=e
 obtain ⟨w',r1,r2⟩:=h ι F w d _ _ _ ⟨h1,h2,h3,h4⟩ hx hy hz
 refine ⟨.skip,undef,w',?_,.inr ⟨rfl,rfl⟩,r2⟩
 unfold execOp
 rw [ho]
 simp only
 rw [Sem.run_bind,r1]
 rfl
theorem GTrue.build1 {t:TypeId} {x:Value} (h:letI:Sig:=k.sig; ∀ ι F w d x',Ask k g d0 ng ι F w d→VRel ι x x'→VStep P (Instr.buildSlice t 1 #[(0,x')]) ι d F w r ng) : GTrue k P ⟨[24,t],[x],none,g,d0,r,ng⟩:=by
 letI:Sig:=k.sig
 intro o hk ev ι F w d hv _ h1 h2 h3 h4
 obtain ⟨a,ho⟩:=gk_build1 hk
 rw [ho] at hv
 obtain ⟨x',e,hx⟩:=ops1 hv
 simp [Op.operands] at e
 subst e
 obtain ⟨v',w',r1,r2⟩:=h ι F w d _ ⟨h1,h2,h3,h4⟩ hx
 refine ⟨.value v',v',w',?_,.inl rfl,r2⟩
 unfold execOp
 rw [ho]
 simp only
 rw [Sem.run_bind]
 simp [r1]
theorem GTrue.delete {t u:TypeId} {x y:Value} (h:letI:Sig:=k.sig; ∀ ι F w d x' y' ty,Ask k g d0 ng ι F w d→VRel ι x x'→VRel ι y y'→VStep P (Builtin.delete_ #[t,u] ty #[x',y']) ι d F w r ng) : GTrue k P ⟨[12,t,u],[x,y],none,g,d0,r,ng⟩:=by
  letI:Sig:=k.sig
  intro o hk ev ι F w d hv _ h1 h2 h3 h4
  obtain ⟨a,b,ho⟩:=gk_delete hk
  obtain ⟨cs,he⟩:=exec_builtin (ev:=ev) ho rfl
  rw [ho] at hv
  obtain ⟨x',y',e,hx,hy⟩:=ops2 hv
  simp [Op.operands,Call.operands] at e
  obtain ⟨rfl,rfl⟩:=e
  obtain ⟨v',w',r1,r2⟩:=h ι F w d _ _ o.type ⟨h1,h2,h3,h4⟩ hx hy
  refine ⟨.value v',v',w',?_,.inl rfl,r2⟩
  rw [he]
  have hb:builtin .delete #[t,u] o.type cs #[ev a,ev b]=(do pure (Next.value (← Builtin.delete_ #[t,u] o.type #[ev a,ev b]))):=rfl
  simp only [List.map_toArray,List.map_cons,List.map_nil]
  rw [hb]
  rw [Sem.run_bind,r1]
  rfl
theorem GTrue.min {t u:TypeId} {x y:Value} (h:letI:Sig:=k.sig; ∀ ι F w d x' y' ty,Ask k g d0 ng ι F w d→VRel ι x x'→VRel ι y y'→VStep P (Builtin.min_ #[t,u] ty #[x',y']) ι d F w r ng) : GTrue k P ⟨[16,t,u],[x,y],none,g,d0,r,ng⟩:=by
  letI:Sig:=k.sig
  intro o hk ev ι F w d hv _ h1 h2 h3 h4
  obtain ⟨a,b,ho⟩:=gk_min hk
  obtain ⟨cs,he⟩:=exec_builtin (ev:=ev) ho rfl
  rw [ho] at hv
  obtain ⟨x',y',e,hx,hy⟩:=ops2 hv
  simp [Op.operands,Call.operands] at e
  obtain ⟨rfl,rfl⟩:=e
  obtain ⟨v',w',r1,r2⟩:=h ι F w d _ _ o.type ⟨h1,h2,h3,h4⟩ hx hy
  refine ⟨.value v',v',w',?_,.inl rfl,r2⟩
  rw [he]
  have hb:builtin .min #[t,u] o.type cs #[ev a,ev b]=(do pure (Next.value (← Builtin.min_ #[t,u] o.type #[ev a,ev b]))):=rfl
  simp only [List.map_toArray,List.map_cons,List.map_nil]
  rw [hb]
  rw [Sem.run_bind,r1]
  rfl
theorem GTrue.max {t u:TypeId} {x y:Value} (h:letI:Sig:=k.sig; ∀ ι F w d x' y' ty,Ask k g d0 ng ι F w d→VRel ι x x'→VRel ι y y'→VStep P (Builtin.max_ #[t,u] ty #[x',y']) ι d F w r ng) : GTrue k P ⟨[17,t,u],[x,y],none,g,d0,r,ng⟩:=by
  letI:Sig:=k.sig
  intro o hk ev ι F w d hv _ h1 h2 h3 h4
  obtain ⟨a,b,ho⟩:=gk_max hk
  obtain ⟨cs,he⟩:=exec_builtin (ev:=ev) ho rfl
  rw [ho] at hv
  obtain ⟨x',y',e,hx,hy⟩:=ops2 hv
  simp [Op.operands,Call.operands] at e
  obtain ⟨rfl,rfl⟩:=e
  obtain ⟨v',w',r1,r2⟩:=h ι F w d _ _ o.type ⟨h1,h2,h3,h4⟩ hx hy
  refine ⟨.value v',v',w',?_,.inl rfl,r2⟩
  rw [he]
  have hb:builtin .max #[t,u] o.type cs #[ev a,ev b]=(do pure (Next.value (← Builtin.max_ #[t,u] o.type #[ev a,ev b]))):=rfl
  simp only [List.map_toArray,List.map_cons,List.map_nil]
  rw [hb]
  rw [Sem.run_bind,r1]
  rfl
end Go.Ev
namespace Go.Ev
open Go.RowKit Go.Maps Go.WideShapes
open Go.WideElems (Fit rd rg pl rd_key rd_val rg_of other_key)
set_option linter.unusedVariables false
set_option linter.unusedSimpArgs false
set_option linter.unusedSectionVars false
section parts
variable {k:Kn} {P:Program} {g g':Nat} {d0:Option Nat} {r:Value} {l:List Asr} {i:Nat} {a a':Asr} {ι:Ren} {F:Nat→Prop} {w w':World} {d:Nat}
theorem star_ask {ng:Option Nat} (hg:k.gs[g]? = some (star l)) (hi:l[i]? = some a) (q:Ask k g d0 ng ι F w d) : ∃ Fs f,StarAt l Fs ι F w∧Fs[i]? = some f∧a.p ι f w:=by
 obtain ⟨b,q1,q2⟩:=q.st
 rw [hg] at q1
 cases q1
 obtain ⟨Fs,q2⟩:=q2
 have hlt:i < Fs.length:=by rw [q2.len]; exact (List.getElem?_eq_some_iff.1 hi).1
 exact ⟨Fs,Fs[i],q2,List.getElem?_eq_getElem hlt,q2.holds i a _ hi (List.getElem?_eq_getElem hlt)⟩
theorem one_end (hg':k.gs[g']? = some (star (l.set i a'))) {Fs:List (Nat→Prop)} {f f':Nat→Prop} (hS:StarAt l Fs ι F w) (lt:∀ x,F x→x < w.heap.size) (hi:Fs[i]? = some f) (hd:ι d=none) (c:Nat) {v':Value} (ha:a'.p (ι.upd d c) f' w') (ht:Turn f w w')
  (hs:∀ x,f' x→x < w'.heap.size∧(f x∨w.heap.size≤x)) (hv:letI:Sig:=k.sig; VRel (ι.upd d c) r v') : letI:Sig:=k.sig; GEnd ι d F w r (some g') v' w':=by
 letI:Sig:=k.sig
 obtain ⟨F',h1,h2,h3⟩:=hS.one lt hi (Ren.upd_le (b:=c) hd) a' f' ha ht hs
 exact ⟨c,F',hv,⟨_,hg',h1⟩,h2,h3⟩
theorem ask_fresh (q:Ask k g d0 (some g') ι F w d) : ι d=none:=by
 rcases q.fresh with h | h
 ·exact h
 ·cases h
end parts
inductive Lv where
 | st (v:Value)
 | dy (d:Nat)
def Lv.is (ι:Ren) (v:Value) : Lv→Prop
 | .st v0=>v=v0
 | .dy d=>∃ c,ι d=some c∧dec c=v
theorem Lv.mono {ι κ:Ren} (h:RLe ι κ) {v:Value} {l:Lv} (hl:l.is ι v) : l.is κ v:=by
 cases l with
 | st v0=>exact hl
 | dy d=>obtain ⟨c,h1,h2⟩:=hl; exact ⟨c,h _ _ h1,h2⟩
structure IntMap (P:Program) (t kT e:TypeId) : Prop where
 ht:P.underlying t=some (.map kT e)
 hk:P.underlying kT=some (.int .i64)
 he:P.underlying e=some (.int .i64)
 hz:∀ w,(zeroValue e).run P w=.ok (.int .i64 0) w
def wfI (i:Int) : Prop:=(Lit.int .i64 i).wf=true
def Reads (D:DataW Unit) (f:Int→Option Int) : Prop:=∀ i,wfI i→Maps.has D (.int .i64 i)=(f i).isSome∧D.atKey (.int .i64 i) (.lit (.int .i64 0))=.lit (.int .i64 ((f i).getD 0))
def upd (f:Int→Option Int) (i:Int) (x:Option Int) : Int→Option Int:=fun j=>if j=i then x else f j
theorem lit_ne {i j:Int} (h:j ≠ i) : (Lit.int .i64 j) ≠ (Lit.int .i64 i):=fun e=>by cases e; exact h rfl
theorem Reads.put {D:DataW Unit} {f:Int→Option Int} (h:Reads D f) (hm:IsMap D) {i x:Int} : Reads (D.put (.int .i64 i) (.lit (.int .i64 x))) (upd f i (some x)):=by
 intro j hj
 by_cases e:j=i
 ·subst e
  rw [has_put_same hm (by trivial),atKey_put_same hm (by trivial)]
  simp [upd]
 ·rw [has_put_other (lit_ne e),atKey_put_other (lit_ne e)]
  simpa [upd,e] using h j hj
theorem Reads.del {D:DataW Unit} {f:Int→Option Int} (h:Reads D f) {i:Int} : Reads (D.del (.int .i64 i)) (upd f i none):=by
 intro j hj
 by_cases e:j=i
 ·subst e
  rw [has_del_same,atKey_del_same]
  simp [upd]
 ·rw [has_del_other (lit_ne e),atKey_del_other (lit_ne e)]
  simpa [upd,e] using h j hj
section
variable (P:Program) (kT e:TypeId)
def MapIs (b n:Nat) (f:Int→Option Int) (w:World) : Prop:=∃ D:DataW Unit,w.ownsMap P kT (plainElem P e) b n D∧Reads D f
theorem MapIs.keep {b n:Nat} {f:Int→Option Int} {w w':World} (h:MapIs P kT e b n f w) (hk:w'.heap[b]? = w.heap[b]?) : MapIs P kT e b n f w':=by
 obtain ⟨D,⟨es,clock,h1,h2⟩,h3⟩:=h
 exact ⟨D,⟨es,clock,by rw [hk]; exact h1,h2⟩,h3⟩
def mapA (b n:Nat) (f:Int→Option Int) : Asr where
 p:=fun _ F w=>(∀ j,F j↔j=b)∧MapIs P kT e b n f w
 keep:=fun ι F w w' hk ⟨h1,h2⟩=>⟨h1,h2.keep P kT e (hk b ((h1 b).2 rfl))⟩
 mono:=fun _ _ _ _ _ h=>h
def RngIs (b r n cnt:Nat) (f:Int→Option Int) (left:Int→Bool) (w:World) : Prop :=
 ∃ (D:DataW Unit) (lf:Lit→Bool),w.ranges P kT (plainElem P e) b r n D lf cnt∧Reads D f∧(∀ i,wfI i→lf (.int .i64 i)=left i)∧∀ i,wfI i→left i=true→(f i).isSome=true
theorem RngIs.keep {b r n cnt:Nat} {f:Int→Option Int} {left:Int→Bool} {w w':World} (h:RngIs P kT e b r n cnt f left w) (hb:w'.heap[b]? = w.heap[b]?) (hr:w'.heap[r]? = w.heap[r]?) : RngIs P kT e b r n cnt f left w':=by
 obtain ⟨D,lf,⟨es,clock,since,seen,c0,h1,h2,h3,h4,h5,h6⟩,h7⟩:=h
 exact ⟨D,lf,⟨es,clock,since,seen,c0,by rw [hb]; exact h1,h2,h3,h4,by rw [hr]; exact h5,h6⟩,h7⟩
def ptrV (r:Nat) : Value:=.pointer (some ⟨r,0,none⟩)
def rngA (b:Nat) (rv:Lv) (n cnt:Nat) (f:Int→Option Int) (left:Int→Bool) : Asr where
 p:=fun ι F w=>∃ r,rv.is ι (ptrV r)∧(∀ j,F j↔j=b∨j=r)∧RngIs P kT e b r n cnt f left w
 keep:=fun ι F w w' hk ⟨r,h0,h1,h2⟩=>⟨r,h0,h1,h2.keep P kT e (hk b ((h1 b).2 (.inl rfl))) (hk r ((h1 r).2 (.inr rfl)))⟩
 mono:=fun ι κ F w hle ⟨r,h0,h1⟩=>⟨r,Lv.mono hle h0,h1⟩
def CurIs (b r n cnt:Nat) (f:Int→Option Int) (left:Int→Bool) (i:Int) (w:World) : Prop :=
 wfI i∧(f i).isSome=true∧RngIs P kT e b r n cnt f left w∧∀ w2:World,w2.heap[b]? = w.heap[b]?→w2.heap[r]? = w.heap[r]?→(Instr.entry (ptrV r)).run P w2=.ok (.tuple #[.int .i64 i,.int .i64 ((f i).getD 0)]) w2
theorem CurIs.keep {b r n cnt:Nat} {f:Int→Option Int} {left:Int→Bool} {i:Int} {w w':World} (h:CurIs P kT e b r n cnt f left i w) (hb:w'.heap[b]? = w.heap[b]?) (hr:w'.heap[r]? = w.heap[r]?) : CurIs P kT e b r n cnt f left i w':=by
 obtain ⟨h0,h1,h2,h3⟩:=h
 exact ⟨h0,h1,h2.keep P kT e hb hr,fun w2 k1 k2=>h3 w2 (k1.trans hb) (k2.trans hr)⟩
def curA (b r n cnt:Nat) (f:Int→Option Int) (left:Int→Bool) (i:Int) : Asr where
 p:=fun ι F w=>(∀ j,F j↔j=b∨j=r)∧CurIs P kT e b r n cnt f left i w
 keep:=fun ι F w w' hk ⟨h1,h2⟩=>⟨h1,h2.keep P kT e (hk b ((h1 b).2 (.inl rfl))) (hk r ((h1 r).2 (.inr rfl)))⟩
 mono:=fun ι κ F w hle h=>h
def lessI (left:Int→Bool) (i:Int) : Int→Bool:=fun j=>left j && !(decide (j=i))
def nextA (b r n cnt:Nat) (f:Int→Option Int) (left:Int→Bool) : Asr where
 p:=fun ι F w=>(∀ j,F j↔j=b∨j=r)∧∃ i cnt',cnt' < cnt∧left i=true∧CurIs P kT e b r n cnt' f (lessI left i) i w
 keep:=fun ι F w w' hk ⟨h1,i,c,h2,h3,h4⟩=>⟨h1,i,c,h2,h3,h4.keep P kT e (hk b ((h1 b).2 (.inl rfl))) (hk r ((h1 r).2 (.inr rfl)))⟩
 mono:=fun ι κ F w hle h=>h
end
section rows
variable {k:Kn} {P:Program} {g g':Nat} {d0:Option Nat} {l:List Asr} {ci:Nat} {t kT e:TypeId} {b n sM sK sV:Nat} {f:Int→Option Int} {i x:Int} (M:IntMap P t kT e)
include M
theorem M_keyed:Keyed P kT:=int_keyed M.hk
theorem M_key (hi:wfI i) : keyOf P kT (.int .i64 i)=some (.int .i64 i):=keyOf_int_mk M.hk hi
theorem M_zero:plainElem (H:=Unit) P e (.int .i64 0)=some (.lit (.int .i64 0),[]):=plainElem_int M.he (by decide)
theorem M_val {y:Value} {f:Int→Option Int} {D:DataW Unit} {ps:List MemPlace} (hD:Reads D f) (hi:wfI i) (h:plainElem (H:=Unit) P e y=some (D.atKey (.int .i64 i) (.lit (.int .i64 0)),ps)) : y=.int .i64 ((f i).getD 0):=by
 obtain ⟨c,rfl,hc,_⟩:=plainElem_int_inv M.he h
 rw [(hD i hi).2] at hc
 simp only [Prod.mk.injEq,DataW.lit.injEq,Lit.int.injEq,true_and] at hc
 rw [hc.1]
theorem vsymK {ι:Ren} {m:Nat} {x':Value} (h:letI:Sig:=k.sig; VRel ι (sy m) x') : x'=k.val m:=by
 letI:Sig:=k.sig
 cases h with
 | sym n m' _ h=>exact h.symm
theorem rsymK {ι:Ren} {m:Nat} {x':Value} (h:k.val m=x') : letI:Sig:=k.sig; VRel ι (sy m) x':=by
 letI:Sig:=k.sig
 exact .sym m 0 x' h
theorem rtup2 {ι:Ren} {a b a' b':Value} (h:letI:Sig:=k.sig; VRel ι a a') (h':letI:Sig:=k.sig; VRel ι b b') : letI:Sig:=k.sig; VRel ι (.tuple #[a,b]) (.tuple #[a',b']):=by
 letI:Sig:=k.sig
 refine .tuple _ _ rfl (fun i v v' h1 h2=>?_)
 match i with
 | 0=>simp at h1 h2; subst h1 h2; exact h
 | 1=>simp at h1 h2; subst h1 h2; exact h'
 | i+2=>simp at h1
theorem map_look_yes (hg:k.gs[g]? = some (star l)) (hi:l[ci]? = some (mapA P kT e b n f)) (hM:k.val sM=.map (some b)) (hK:k.val sK=.int .i64 i) (hw:wfI i) (hx:f i=some x) (hV:k.val sV=.int .i64 x) : GTrue k P ⟨[5,t,1],[sy sM,sy sK],none,g,none,.tuple #[sy sV,.bool true],none⟩:=by
 refine GTrue.lookup k (b:=true) rfl ?_
 letI:Sig:=k.sig
 intro ι F w d x' y' q hx' hy
 obtain ⟨Fs,ff,hS,hf,h1,D,h2,h3⟩:=star_ask hg hi q
 rw [vsymK M hx',vsymK M hy,hM,hK]
 obtain ⟨v,ps,r1,r2⟩:=h2.look_ok (M_keyed M) M.ht (M.hz w) (M_zero M) (M_key M hw)
 rw [M_val M h3 hw r2,(h3 i hw).1,hx] at r1
 exact ⟨_,w,r1,rtup2 M (rsymK M hV) (.bool true),Below.refl _ _⟩
theorem map_look_no (hg:k.gs[g]? = some (star l)) (hi:l[ci]? = some (mapA P kT e b n f)) (hM:k.val sM=.map (some b)) (hK:k.val sK=.int .i64 i) (hw:wfI i) (hx:f i=none) : GTrue k P ⟨[5,t,1],[sy sM,sy sK],none,g,none,.tuple #[.int .i64 0,.bool false],none⟩:=by
 refine GTrue.lookup k (b:=true) rfl ?_
 letI:Sig:=k.sig
 intro ι F w d x' y' q hx' hy
 obtain ⟨Fs,ff,hS,hf,h1,D,h2,h3⟩:=star_ask hg hi q
 rw [vsymK M hx',vsymK M hy,hM,hK]
 obtain ⟨v,ps,r1,r2⟩:=h2.look_ok (M_keyed M) M.ht (M.hz w) (M_zero M) (M_key M hw)
 rw [M_val M h3 hw r2,(h3 i hw).1,hx] at r1
 exact ⟨_,w,r1,rtup2 M (.int _ _) (.bool false),Below.refl _ _⟩
theorem turn_of_map {w w':World} (h:w.mapTurned w' b) {ff:Nat→Prop} (hf:∀ j,ff j↔j=b) : Turn ff w w':=by
 have hg:=h.grown
 exact ⟨hg.os,hg.tape,hg.output,hg.size,fun j hj hn=>hg.block j hj (fun e=>hn ((hf j).2 (by cases e; rfl)))⟩
theorem map_put {v':Value} (hg:k.gs[g]? = some (star l)) (hi:l[ci]? = some (mapA P kT e b n f)) (hg':k.gs[g']? = some (star (l.set ci (mapA P kT e b (n+1) (upd f i (some x)))))) (hM:k.val sM=.map (some b)) (hK:k.val sK=.int .i64 i) (hw:wfI i) (hn:n < maxLen) (hV:∀ ι y,(letI:Sig:=k.sig; VRel ι v' y)→y=.int .i64 x) (hx:wfI x) : GTrue k P ⟨[6,t],[sy sM,sy sK,v'],none,g,none,undef,some g'⟩:=by
 refine GTrue.mapUpdate k ?_
 letI:Sig:=k.sig
 intro ι F w d x' y' z' q hx' hy hz
 obtain ⟨Fs,ff,hS,hf,h1,D,h2,h3⟩:=star_ask hg hi q
 rw [vsymK M hx',vsymK M hy,hM,hK,hV _ _ hz]
 obtain ⟨w',r1,r2,r3⟩:=h2.store (M_keyed M) M.ht hn (M_key M hw) (plainElem_int M.he hx)
 refine ⟨w',r1,one_end hg' hS q.lt hf (ask_fresh q) 0 (f':=ff) ⟨h1,_,r2,h3.put h2.isMap⟩ (turn_of_map M r3 h1) (fun j hj=>⟨?_,.inl hj⟩) (undef_rel _)⟩
 rw [(h1 j).1 hj]
 exact r2.lt
theorem map_del {u:TypeId} (hu:u=kT) (hg:k.gs[g]? = some (star l)) (hi:l[ci]? = some (mapA P kT e b n f)) (hg':k.gs[g']? = some (star (l.set ci (mapA P kT e b n (upd f i none))))) (hM:k.val sM=.map (some b)) (hK:k.val sK=.int .i64 i) (hw:wfI i) : GTrue k P ⟨[12,t,u],[sy sM,sy sK],none,g,none,.tuple #[],some g'⟩:=by
 subst hu
 refine GTrue.delete k ?_
 letI:Sig:=k.sig
 intro ι F w d x' y' ty q hx' hy
 obtain ⟨Fs,ff,hS,hf,h1,D,h2,h3⟩:=star_ask hg hi q
 rw [vsymK M hx',vsymK M hy,hM,hK]
 obtain ⟨w',r1,r2,r3⟩:=h2.drop (M_keyed M) M.ht (M_key M hw) ty
 refine ⟨_,w',r1,one_end hg' hS q.lt hf (ask_fresh q) 0 (f':=ff) ⟨h1,_,r2,h3.del⟩ (turn_of_map M r3 h1) (fun j hj=>⟨?_,.inl hj⟩) (.tuple _ _ rfl (fun i v v' h=>by simp at h))⟩
 rw [(h1 j).1 hj]
 exact r2.lt
end rows
end Go.Ev
namespace Go.Ev
open Go.RowKit
set_option linter.unusedVariables false
set_option linter.unusedSimpArgs false
set_option linter.unusedSectionVars false
def oldX (w0:World) (X:Nat→Prop) : Asr where
 p:=fun _ F w=>(∀ j,F j↔j < w0.heap.size∧¬ X j)∧∀ j,j < w0.heap.size→¬ X j→w.heap[j]? = w0.heap[j]?
 keep:=fun ι F w w' hk ⟨h1,h3⟩=>⟨h1,fun j hj hx=>(hk j ((h1 j).2 ⟨hj,hx⟩)).trans (h3 j hj hx)⟩
 mono:=fun _ _ _ _ _ h=>h
abbrev oldA (w0:World) : Asr:=oldX w0 (fun _=>False)
def OffX (X:Nat→Prop) : Value→Prop
 | .slice (some ⟨b,_,_⟩) n _=>0 < n→¬ X b
 | _=>True
theorem offNone (v:Value) : OffX (fun _=>False) v:=by
 unfold OffX
 split
 ·exact fun _ h=>h
 ·trivial
def SlR (sz:Nat) (v:Value) (n:Nat) (xs:List Value) (w0:World) : Prop :=
 xs.length=n * sz∧((n=0∧∃ a c,v=.slice a 0 c)∨∃ b off c,v=.slice (some ⟨b,off,none⟩) n c∧(b < w0.heap.size∧n≤c)∧∀ j,j < n * sz→w0.cell? ⟨b,off+j,none⟩=xs[j]?)
def ptrR (v:Value) (m:Nat) : Value :=
 match v with
 | .slice (some ⟨b,off,_⟩) _ _=>.pointer (some ⟨b,off+m,none⟩)
 | _=>.pointer none
theorem ptrR_leaf (v:Value) (m:Nat) : leafV (ptrR v m)=true:=by
 unfold ptrR
 split <;> rfl
theorem SlR.leaf {sz n:Nat} {v:Value} {xs:List Value} {w0:World} (h:SlR sz v n xs w0) : leafV v=true:=by
 obtain ⟨_,⟨_,a,c,rfl⟩ | ⟨b,off,c,rfl,_⟩⟩:=h <;> rfl
theorem old_cell {w w0:World} {X:Nat→Prop} {b o:Nat} (hb:b < w0.heap.size) (hx:¬ X b) (h:∀ j,j < w0.heap.size→¬ X j→w.heap[j]? = w0.heap[j]?) : w.cell? ⟨b,o,none⟩=w0.cell? ⟨b,o,none⟩:=by
 simp only [World.cell?,h b hb hx]
section rows
variable {k:Kn} {P:Program} {g:Nat} {l:List Asr} {ci:Nat} {w0:World} {X:Nat→Prop} {t e:TypeId} {sL sI sP sQ sV n sz m:Nat} {v:Value} {xs:List Value}
theorem vsymR {ι:Ren} {m:Nat} {x':Value} (h:letI:Sig:=k.sig; VRel ι (sy m) x') : x'=k.val m:=by
 letI:Sig:=k.sig
 cases h with
 | sym n m' _ h=>exact h.symm
theorem rsymR {ι:Ren} {m:Nat} {x':Value} (h:k.val m=x') : letI:Sig:=k.sig; VRel ι (sy m) x':=by
 letI:Sig:=k.sig
 exact .sym m 0 x' h
theorem ro_len (hg:k.gs[g]? = some (star l)) (hi:l[ci]? = some (oldX w0 X)) (hs:SlR sz v n xs w0) (ht:P.underlying t=some (.slice e)) (hL:k.val sL=v) (hV:k.val sV=.int .i64 (n:Int)) : GTrue k P ⟨[10,t],[sy sL],none,g,none,sy sV,none⟩:=by
 refine GTrue.len k ?_
 letI:Sig:=k.sig
 intro ι F w d x' ty q hx
 rw [vsymR hx,hL]
 have:(Builtin.len_ #[t] ty #[v]).run P w=.ok (.int .i64 n) w:=by
  obtain ⟨h1,⟨rfl,a,c,rfl⟩ | ⟨b,off,c,rfl,_⟩⟩:=hs <;> simp [Builtin.len_,run_underlying ht,goInt]
 exact ⟨_,w,this,rsymR hV,Below.refl _ _⟩
theorem ro_index {kd:IntKind} {j:Nat} {i:TypeInfo} (hg:k.gs[g]? = some (star l)) (hi:l[ci]? = some (oldX w0 X)) (hs:SlR sz v n xs w0) (ht:P.underlying t=some (.slice e)) (hinf:P.info? e=some i) (hsz:i.size=sz) (hL:k.val sL=v) (hI:k.val sI=.int kd (j:Int)) (hj:j < n) (hP:k.val sP=ptrR v (j * sz)) : GTrue k P ⟨[3,t],[sy sL,sy sI],none,g,none,sy sP,none⟩:=by
 refine GTrue.index k ?_
 letI:Sig:=k.sig
 intro ι F w d x' y' q hx hy
 rw [vsymR hx,vsymR hy,hL,hI]
 obtain ⟨h1,⟨rfl,_⟩ | ⟨b,off,c,rfl,⟨hb,_⟩,hc⟩⟩:=hs
 ·omega
 ·refine ⟨.pointer (some ⟨b,off+j * sz,none⟩),w,?_,rsymR hP,Below.refl _ _⟩
  have hc:(0:Int)≤(j:Int)∧(j:Int) < (n:Int):=⟨by omega,by omega⟩
  simp [Instr.indexAt,run_underlying ht,hc,sizeOf,typeInfo,hinf,hsz,addMk,asIntOf]
  intro h
  omega
def LoadOne (P:Program) (t:TypeId) : Prop:=∀ b o x (w:World),w.cell? ⟨b,o,none⟩=some x→(Instr.loadAt t (.pointer (some ⟨b,o,none⟩))).run P w=.ok x w
def LoadAgg (P:Program) (t:TypeId) (sz:Nat) : Prop:=∀ b o (cs:List Value) (w:World),cs.length=sz→(∀ j,j < sz→w.cell? ⟨b,o+j,none⟩=cs[j]?)→(Instr.loadAt t (.pointer (some ⟨b,o,none⟩))).run P w=.ok (.agg cs.toArray) w
theorem ro_agg {j:Nat} {cs abs:List Value} (hg:k.gs[g]? = some (star l)) (hi:l[ci]? = some (oldX w0 X)) (hs:SlR sz v n xs w0) (hL:LoadAgg P t sz) (hj:j < n) (hcs:cs=(xs.drop (j * sz)).take sz) (hP:k.val sP=ptrR v (j * sz)) (hV:∀ ι,(letI:Sig:=k.sig; LRel ι abs cs)) (hX:OffX X v:=by first | assumption | exact Go.Ev.offNone _) : GTrue k P ⟨[1,t],[sy sP],none,g,none,.agg abs.toArray,none⟩:=by
 refine GTrue.load k ?_
 letI:Sig:=k.sig
 intro ι F w d x' q hx
 obtain ⟨Fs,ff,hS,hf,h1,h3⟩:=star_ask hg hi q
 rw [vsymR hx,hP]
 obtain ⟨e1,⟨rfl,_⟩ | ⟨b,off,c,rfl,⟨hb,_⟩,hc⟩⟩:=hs
 ·omega
 ·have hle:j * sz+sz≤n * sz:=by
   have:=Nat.mul_le_mul_right sz (show j+1≤n by omega)
   rw [Nat.add_mul,Nat.one_mul] at this
   exact this
  have hlen:cs.length=sz:=by
   rw [hcs,List.length_take,List.length_drop]
   omega
  refine ⟨.agg cs.toArray,w,hL b (off+j * sz) cs w hlen (fun i hi=>?_),?_,Below.refl _ _⟩
  ·rw [Nat.add_assoc,old_cell hb (hX (by omega)) h3,hc _ (by omega),hcs,List.getElem?_take,if_pos hi,List.getElem?_drop]
  ·have:=hV ι
   exact .agg _ _ (by simpa using this.1) (fun i v v' a b=>this.2 i v v' (by simpa using a) (by simpa using b))
end rows
def OldW (w0:World) (X:Nat→Prop) (w:World) : Prop:=∀ j,j < w0.heap.size→¬ X j→w.heap[j]? = w0.heap[j]?
theorem SlR.old {sz n:Nat} {v:Value} {xs:List Value} {w0 w:World} {X:Nat→Prop} (h:SlR sz v n xs w0) (ho:OldW w0 X w) (hX:OffX X v:=by first | assumption | exact Go.Ev.offNone _) : SlR sz v n xs w:=by
 obtain ⟨h1,h2 | ⟨b,off,c,e,⟨hb,hcap⟩,hc⟩⟩:=h
 ·exact ⟨h1,.inl h2⟩
 ·subst e
  rcases Nat.eq_zero_or_pos n with h0 | h0
  ·subst h0
   exact ⟨h1,.inl ⟨rfl,_,_,rfl⟩⟩
  have hX:=hX h0
  have hlt:b < w.heap.size:=by
   have e1:=ho b hb hX
   rw [Array.getElem?_eq_getElem hb] at e1
   exact (Array.getElem?_eq_some_iff.1 e1).1
  exact ⟨h1,.inr ⟨b,off,c,rfl,⟨hlt,hcap⟩,fun j hj=>by rw [old_cell hb hX ho]; exact hc j hj⟩⟩
def IsV (k:Kn) (x v:Value) : Prop:=∀ ι x',(letI:Sig:=k.sig; VRel ι x x')→x'=v
theorem isSym {k:Kn} {m:Nat} {v:Value} (h:k.val m=v) : IsV k (sy m) v:=fun ι x' hx=>by rw [vsymR hx,h]
theorem isInt {k:Kn} {kd:IntKind} {m:Int} : IsV k (.int kd m) (.int kd m):=fun ι x' hx=>by
 letI:Sig:=k.sig
 cases hx with
 | int=>rfl
theorem row_min {k:Kn} {P:Program} {g:Nat} {t u:TypeId} {x y:Value} {sV:Nat} {kd:IntKind} {a b:Int} (hx:IsV k x (.int kd a)) (hy:IsV k y (.int kd b)) (hV:k.val sV=.int kd (min a b)) : GTrue k P ⟨[16,t,u],[x,y],none,g,none,sy sV,none⟩:=by
 refine GTrue.min k ?_
 letI:Sig:=k.sig
 intro ι F w d x' y' ty q h1 h2
 rw [hx _ _ h1,hy _ _ h2]
 refine ⟨_,w,?_,rsymR hV,Below.refl _ _⟩
 simp [Builtin.min_,Builtin.min2]
 try (by_cases h:a≤b <;> simp [h,Int.min_def] <;> omega)
theorem row_max {k:Kn} {P:Program} {g:Nat} {t u:TypeId} {x y:Value} {sV:Nat} {kd:IntKind} {a b:Int} (hx:IsV k x (.int kd a)) (hy:IsV k y (.int kd b)) (hV:k.val sV=.int kd (max a b)) : GTrue k P ⟨[17,t,u],[x,y],none,g,none,sy sV,none⟩:=by
 refine GTrue.max k ?_
 letI:Sig:=k.sig
 intro ι F w d x' y' ty q h1 h2
 rw [hx _ _ h1,hy _ _ h2]
 refine ⟨_,w,?_,rsymR hV,Below.refl _ _⟩
 simp [Builtin.max_,Builtin.max2]
 try (by_cases h:a≤b <;> simp [h,Int.max_def] <;> omega)
def Flat (a:Asr) : Prop:=∀ ι κ F w,a.p ι F w→a.p κ F w
theorem flat_star {l:List Asr} (h:∀ a ∈ l,Flat a) : Flat (star l):=fun ι κ F w ⟨Fs,q⟩=>⟨Fs,q.len,fun i a f h1 h2=>h a (List.mem_of_getElem? h1) ι κ f w (q.holds i a f h1 h2),q.apart,q.all⟩
structure Same (W w:World) : Prop where
 os:w.os=W.os
 tape:w.tape=W.tape
 output:w.output=W.output
 size:W.heap.size≤w.heap.size
theorem Same.refl (W:World) : Same W W:=⟨rfl,rfl,rfl,Nat.le_refl _⟩
theorem Same.trans {a b c:World} (h:Same a b) (k:Same b c) : Same a c:=⟨k.os.trans h.os,k.tape.trans h.tape,k.output.trans h.output,Nat.le_trans h.size k.size⟩
theorem Turn.same {F:Nat→Prop} {w w':World} (h:Turn F w w') : Same w w':=⟨h.os,h.tape,h.output,h.size⟩
structure Now (l:List Asr) (F:Nat→Prop) (w:World) : Prop where
 st:(star l).p (fun _=>none) F w
 lt:∀ j,F j→j < w.heap.size
theorem Now.gr {k:Kn} {g:Nat} {l:List Asr} {F:Nat→Prop} {w:World} (h:Now l F w) (hl:∀ a ∈ l,Flat a) (hg:k.gs[g]? = some (star l)) (ι:Ren) : letI:Sig:=k.sig; Sig.GR g ι F w:=⟨_,hg,flat_star hl _ _ F w h.st⟩
theorem Left.now {k:Kn} {g:Nat} {l:List Asr} {rn:List (Nat×Nat)} {bl:List Blk} {F:Nat→Prop} {w w1:World} {κ:Ren} (h:letI:Sig:=k.sig; Left rn bl g F w κ w1) (hl:∀ a ∈ l,Flat a) (hg:k.gs[g]? = some (star l)) : ∃ F',Now l F' w1∧Same w w1:=by
 letI:Sig:=k.sig
 obtain ⟨F',⟨a,q1,q2⟩,q3,q4⟩:=h.gh
 rw [hg] at q1
 cases q1
 exact ⟨F',⟨flat_star hl _ _ F' w1 q2,fun j hj=>(q3 j hj).1⟩,h.turn.same⟩
theorem Now.part {l:List Asr} {F:Nat→Prop} {w:World} (h:Now l F w) {i:Nat} {a:Asr} (hi:l[i]? = some a) : ∃ f,a.p (fun _=>none) f w:=by
 obtain ⟨Fs,q⟩:=h.st
 have hlt:i < Fs.length:=by rw [q.len]; exact (List.getElem?_eq_some_iff.1 hi).1
 exact ⟨_,q.holds i a _ hi (List.getElem?_eq_getElem hlt)⟩
theorem Now.below {l:List Asr} {F:Nat→Prop} {w W:World} (h:Now l F w) {i:Nat} (hi:l[i]? = some (oldA W)) (hs:Same W w) : Below W.heap.size W w:=by
 obtain ⟨f,h1,h3⟩:=h.part hi
 exact ⟨hs.os,hs.tape,hs.output,hs.size,fun j hj=>h3 j hj (fun h=>h)⟩
theorem now_nil (w:World) : Now [] (fun _=>False) w :=
 ⟨⟨[],rfl,(fun i a f h=>by cases h),(fun i j f f' _ h=>by cases h),fun x=>⟨fun h=>h.elim,fun ⟨i,f,h,_⟩=>by cases h⟩⟩,fun j h=>h.elim⟩
theorem now_cons {a:Asr} {l:List Asr} {Fa F:Nat→Prop} {w:World} (ha:a.p (fun _=>none) Fa w) (hl:Now l F w) (hlt:∀ j,Fa j→j < w.heap.size) (hd:∀ j,Fa j→¬ F j) : Now (a::l) (fun j=>Fa j∨F j) w:=by
 obtain ⟨⟨Fs,h1,h2,h3,h4⟩,h5⟩:=hl
 refine ⟨⟨Fa::Fs,by simp [h1],fun i b f k1 k2=>?_,fun i j f f' hij k1 k2 x hx hx'=>?_,fun x=>⟨fun h=>?_,fun ⟨i,f,k1,k2⟩=>?_⟩⟩,fun j hj=>hj.elim (hlt j) (h5 j)⟩
 ·cases i with
  | zero=>cases k1; cases k2; exact ha
  | succ i=>exact h2 i b f (by simpa using k1) (by simpa using k2)
 ·cases i with
  | zero =>
   cases j with
   | zero=>exact hij rfl
   | succ j =>
    cases k1
    exact hd x hx ((h4 x).2 ⟨j,f',by simpa using k2,hx'⟩)
  | succ i =>
   cases j with
   | zero =>
    cases k2
    exact hd x hx' ((h4 x).2 ⟨i,f,by simpa using k1,hx⟩)
   | succ j=>exact h3 i j f f' (fun e=>hij (by rw [e])) (by simpa using k1) (by simpa using k2) x hx hx'
 ·rcases h with h | h
  ·exact ⟨0,Fa,rfl,h⟩
  ·obtain ⟨i,f,k1,k2⟩:=(h4 x).1 h
   exact ⟨i+1,f,by simpa using k1,k2⟩
 ·cases i with
  | zero=>cases k1; exact .inl k2
  | succ i=>exact .inr ((h4 x).2 ⟨i,f,by simpa using k1,k2⟩)
theorem now_uncons {a:Asr} {l:List Asr} {F:Nat→Prop} {w:World} (h:Now (a::l) F w) : ∃ Fa Fl,a.p (fun _=>none) Fa w∧Now l Fl w∧(∀ j,Fa j→¬ Fl j)∧∀ j,F j↔Fa j∨Fl j:=by
 obtain ⟨⟨Fs,h1,h2,h3,h4⟩,h5⟩:=h
 match Fs,h1 with
 | Fa::Fs,h1 =>
  refine ⟨Fa,fun j=>∃ (i:Nat) (f:Nat→Prop),Fs[i]? = some f∧f j,h2 0 a Fa rfl rfl,⟨⟨Fs,by simpa using h1,fun i b f k1 k2=>h2 (i+1) b f (by simpa using k1) (by simpa using k2),fun i j f f' hij k1 k2=>h3 (i+1) (j+1) f f' (by omega) (by simpa using k1) (by simpa using k2),fun x=>Iff.rfl⟩,fun j ⟨i,f,k1,k2⟩=>h5 j ((h4 j).2 ⟨i+1,f,by simpa using k1,k2⟩)⟩,fun j hj ⟨i,f,k1,k2⟩=>h3 0 (i+1) Fa f (by omega) rfl (by simpa using k1) j hj k2,fun j=>⟨fun hj=>?_,fun hj=>?_⟩⟩
  ·obtain ⟨i,f,k1,k2⟩:=(h4 j).1 hj
   cases i with
   | zero=>cases k1; exact .inl k2
   | succ i=>exact .inr ⟨i,f,by simpa using k1,k2⟩
  ·rcases hj with hj | ⟨i,f,k1,k2⟩
   ·exact (h4 j).2 ⟨0,Fa,rfl,hj⟩
   ·exact (h4 j).2 ⟨i+1,f,by simpa using k1,k2⟩
theorem Now.of {l:List Asr} {F:Nat→Prop} {w:World} {κ:Ren} (hl:∀ a ∈ l,Flat a) (h:(star l).p κ F w) (hlt:∀ j,F j→j < w.heap.size) : Now l F w:=⟨flat_star hl _ _ F w h,hlt⟩
theorem lrelNil {k:Kn} {ι:Ren} : letI:Sig:=k.sig; LRel ι [] []:=⟨rfl,fun i v v' h=>by simp at h⟩
theorem lrelCons {k:Kn} {ι:Ren} {x x':Value} {l l':List Value} (h:letI:Sig:=k.sig; VRel ι x x') (h':letI:Sig:=k.sig; LRel ι l l') : letI:Sig:=k.sig; LRel ι (x::l) (x'::l'):=by
 letI:Sig:=k.sig
 refine ⟨by simp [h'.1],fun i v v' h1 h2=>?_⟩
 match i with
 | 0=>simp at h1 h2; subst h1 h2; exact h
 | i+1=>exact h'.2 i v v' (by simpa using h1) (by simpa using h2)
theorem boolV' {k:Kn} {ι:Ren} {b:Bool} : letI:Sig:=k.sig; VRel ι (.bool b) (.bool b):=by
 letI:Sig:=k.sig
 exact .bool b
theorem start_size {args:Array Value} {N:Nat} (h:args.size≤N) : (args++Array.replicate (N - args.size) undef).size=N:=by
 simp
 omega
theorem start_get {args:Array Value} {N i:Nat} {v:Value} (h:args[i]? = some v) : (args++Array.replicate (N - args.size) undef).getD i undef=v:=by
 have hi:=(Array.getElem?_eq_some_iff.1 h).1
 rw [Array.getD_eq_getD_getElem?,Array.getElem?_append_left hi,h]
 rfl
end Go.Ev
namespace Go.Ev
open Go.RowKit
set_option linter.unusedVariables false
set_option linter.unusedSimpArgs false
set_option linter.unusedSectionVars false
structure Ctx where
 W:World
 X:Nat→Prop
def frz (κ:Ren) (a:Asr) : Asr where
 p:=fun _ F w=>a.p κ F w
 keep:=fun _ F w w' hk h=>a.keep κ F w w' hk h
 mono:=fun _ _ _ _ _ h=>h
def blkA (b:Nat) (cs:List Value) (T:TypeId) : Asr where
 p:=fun _ F w=>(∀ j,F j↔j=b)∧w.heap[b]? = some (.cells cs.toArray T (0,0))
 keep:=fun _ F w w' hk ⟨h1,h2⟩=>⟨h1,(hk b ((h1 b).2 rfl)).trans h2⟩
 mono:=fun _ _ _ _ _ h=>h
def atD (d:Nat) (a:Value→Asr) : Asr where
 p:=fun ι F w=>∃ c,ι d=some c∧(a (dec c)).p ι F w
 keep:=fun ι F w w' hk ⟨c,h1,h2⟩=>⟨c,h1,(a (dec c)).keep ι F w w' hk h2⟩
 mono:=fun ι κ F w hle ⟨c,h1,h2⟩=>⟨c,hle _ _ h1,(a (dec c)).mono ι κ F w hle h2⟩
def nilA:Asr where
 p:=fun _ F _=>∀ j,¬ F j
 keep:=fun _ _ _ _ _ h=>h
 mono:=fun _ _ _ _ _ h=>h
theorem now_same {l:List Asr} {F G:Nat→Prop} {w:World} (h:Now l F w) (e:∀ j,F j↔G j) : Now l G w:=by
 rw [← show F=G from funext fun j=>propext (e j)]
 exact h
theorem now_append:∀ {l m:List Asr} {F G:Nat→Prop} {w:World},Now l F w→Now m G w→(∀ j,F j→¬ G j)→Now (l++m) (fun j=>F j∨G j) w:=by
 intro l
 induction l with
 | nil =>
  intro m F G w h1 h2 hd
  refine now_same h2 (fun j=>⟨.inr,fun h=>h.elim (fun h=>?_) id⟩)
  obtain ⟨⟨Fs,e1,e2,e3,e4⟩,_⟩:=h1
  obtain ⟨i,f,k1,k2⟩:=(e4 j).1 h
  have:Fs=[]:=List.eq_nil_of_length_eq_zero e1
  rw [this] at k1
  cases k1
 | cons a l ih =>
  intro m F G w h1 h2 hd
  obtain ⟨Fa,Fl,k1,k2,k3,k4⟩:=now_uncons h1
  refine now_same (now_cons k1 (ih k2 h2 (fun j hj=>hd j ((k4 j).2 (.inr hj)))) (fun j hj=>h1.lt j ((k4 j).2 (.inl hj))) (fun j hj hh=>hh.elim (k3 j hj) (hd j ((k4 j).2 (.inl hj))))) (fun j=>?_)
  rw [k4 j]
  exact ⟨fun h=>h.elim (fun h=>.inl (.inl h)) (fun h=>h.elim (fun h=>.inl (.inr h)) .inr),fun h=>h.elim (fun h=>h.elim .inl (fun h=>.inr (.inl h))) (fun h=>.inr (.inr h))⟩
theorem now_split:∀ {l m:List Asr} {F:Nat→Prop} {w:World},Now (l++m) F w→∃ F1 F2,Now l F1 w∧Now m F2 w∧(∀ j,F1 j→¬ F2 j)∧∀ j,F j↔F1 j∨F2 j:=by
 intro l
 induction l with
 | nil=>intro m F w h; exact ⟨fun _=>False,F,now_nil w,h,fun _ h=>h.elim,fun j=>⟨.inr,fun h=>h.elim False.elim id⟩⟩
 | cons a l ih =>
  intro m F w h
  obtain ⟨Fa,Fl,k1,k2,k3,k4⟩:=now_uncons h
  obtain ⟨F1,F2,e1,e2,e3,e4⟩:=ih k2
  refine ⟨fun j=>Fa j∨F1 j,F2,now_cons k1 e1 (fun j hj=>h.lt j ((k4 j).2 (.inl hj))) (fun j hj hh=>k3 j hj ((e4 j).2 (.inl hh))),e2,fun j hj hh=>hj.elim (fun hj=>k3 j hj ((e4 j).2 (.inr hh))) (fun hj=>e3 j hj hh),fun j=>?_⟩
  rw [k4 j,e4 j]
  exact ⟨fun h=>h.elim (fun h=>.inl (.inl h)) (fun h=>h.elim (fun h=>.inl (.inr h)) .inr),fun h=>h.elim (fun h=>h.elim .inl (fun h=>.inr (.inl h))) (fun h=>.inr (.inr h))⟩
theorem now_keep {l:List Asr} {F:Nat→Prop} {w w':World} (h:Now l F w) (hk:∀ j,F j→w'.heap[j]? = w.heap[j]?) (hs:w.heap.size≤w'.heap.size) : Now l F w' :=
 ⟨(star l).keep _ F w w' hk h.st,fun j hj=>Nat.lt_of_lt_of_le (h.lt j hj) hs⟩
theorem now_map {l m:List Asr} {F:Nat→Prop} {w:World} (h:Now l F w) (hl:m.length=l.length) (hm:∀ (i:Nat) a b f,l[i]? = some a→m[i]? = some b→a.p (fun _=>none) f w→b.p (fun _=>none) f w) : Now m F w:=by
 obtain ⟨⟨Fs,q⟩,lt⟩:=h
 refine ⟨⟨Fs,by rw [q.len,hl],fun i b f h1 h2=>?_,q.apart,q.all⟩,lt⟩
 have hi:i < l.length:=by rw [← hl]; exact (List.getElem?_eq_some_iff.1 h1).1
 exact hm i l[i] b f (List.getElem?_eq_getElem hi) h1 (q.holds i _ f (List.getElem?_eq_getElem hi) h2)
theorem now_frz {l:List Asr} {κ:Ren} {F:Nat→Prop} {w:World} (h:(star l).p κ F w) (lt:∀ j,F j→j < w.heap.size) : Now (l.map (frz κ)) F w:=by
 obtain ⟨Fs,q⟩:=h
 refine ⟨⟨Fs,by rw [q.len,List.length_map],fun i b f h1 h2=>?_,q.apart,q.all⟩,lt⟩
 rw [List.getElem?_map] at h1
 cases hi:l[i]? with
 | none=>rw [hi] at h1; cases h1
 | some a =>
  rw [hi] at h1
  cases h1
  exact q.holds i a f hi h2
noncomputable def memB (i:Nat) : List Nat→Bool
 | []=>false
 | j::l=>Nat.beq i j || memB i l
theorem memB_mem {i:Nat} : ∀ {l:List Nat},memB i l=false→i ∉ l
 | [],_,h=>by cases h
 | j::l,h,hm=>by
  have h':(Nat.beq i j || memB i l)=false:=h
  rw [Bool.or_eq_false_iff] at h'
  rcases List.mem_cons.1 hm with e | hm
  ·subst e
   rw [Nat.beq_refl] at h'
   cases h'.1
  ·exact memB_mem h'.2 hm
noncomputable def selB (n:Nat) : List Nat→Bool
 | []=>true
 | i::l=>Nat.blt i n && (!(memB i l) && selB n l)
theorem selB_ok {n:Nat} : ∀ {l:List Nat},selB n l=true→(∀ i ∈ l,i < n)∧l.Nodup
 | [],_=>⟨(fun i h=>by cases h),List.nodup_nil⟩
 | i::l,h=>by
  have h':(Nat.blt i n && (!(memB i l) && selB n l))=true:=h
  simp only [Bool.and_eq_true,Bool.not_eq_true'] at h'
  obtain ⟨k1,k2⟩:=selB_ok h'.2.2
  refine ⟨fun j hj=>?_,List.nodup_cons.2 ⟨memB_mem h'.2.1,k2⟩⟩
  rcases List.mem_cons.1 hj with rfl | hj
  ·exact Nat.le_of_ble_eq_true h'.1
  ·exact k1 j hj
def sel (l:List Asr) (idx:List Nat) : List Asr:=idx.map fun i=>l.getD i nilA
theorem now_sel {l:List Asr} {F:Nat→Prop} {w:World} (h:Now l F w) (idx:List Nat) (hi:selB l.length idx=true) : ∃ F',Now (sel l idx) F' w∧∀ j,F' j→F j:=by
 obtain ⟨h1,h2⟩:=selB_ok hi
 obtain ⟨⟨Fs,q⟩,lt⟩:=h
 have key:∀ (i:Nat) f,(idx.map fun i=>Fs.getD i (fun _=>False))[i]? = some f→∃ k,idx[i]? = some k∧Fs[k]? = some f:=by
  intro i f hf
  rw [List.getElem?_map] at hf
  cases hk:idx[i]? with
  | none=>rw [hk] at hf; cases hf
  | some k =>
   rw [hk] at hf
   have hlt:k < Fs.length:=by rw [q.len]; exact h1 k (List.mem_of_getElem? hk)
   refine ⟨k,rfl,?_⟩
   rw [List.getElem?_eq_getElem hlt]
   have:Fs.getD k (fun _=>False)=f:=Option.some.inj hf
   rw [List.getD_eq_getElem?_getD,List.getElem?_eq_getElem hlt] at this
   exact congrArg some this
 refine ⟨fun x=>∃ (i:Nat) (f:Nat→Prop),(idx.map fun i=>Fs.getD i (fun _=>False))[i]? = some f∧f x,⟨⟨idx.map fun i=>Fs.getD i (fun _=>False),by simp [sel],fun i a f k1 k2=>?_,fun i j f f' hij k1 k2 x hx hx'=>?_,fun x=>Iff.rfl⟩,?_⟩,?_⟩
 ·obtain ⟨k,e1,e2⟩:=key i f k2
  unfold sel at k1
  rw [List.getElem?_map,e1] at k1
  have hlt:k < l.length:=h1 k (List.mem_of_getElem? e1)
  have:l.getD k nilA=a:=Option.some.inj k1
  rw [List.getD_eq_getElem?_getD,List.getElem?_eq_getElem hlt] at this
  exact q.holds k a f (by rw [List.getElem?_eq_getElem hlt]; exact congrArg some this) e2
 ·obtain ⟨k,e1,e2⟩:=key i f k1
  obtain ⟨k',e1',e2'⟩:=key j f' k2
  refine q.apart k k' f f' (fun e=>hij ?_) e2 e2' x hx hx'
  subst e
  exact (List.getElem?_inj (List.getElem?_eq_some_iff.1 e1).1 h2).1 (e1.trans e1'.symm)
 ·rintro j ⟨i,f,k1,k2⟩
  obtain ⟨k,e1,e2⟩:=key i f k1
  exact lt j ((q.all j).2 ⟨k,f,e2,k2⟩)
 ·rintro j ⟨i,f,k1,k2⟩
  obtain ⟨k,e1,e2⟩:=key i f k1
  exact (q.all j).2 ⟨k,f,e2,k2⟩
structure Hold (c:Ctx) (l:List Asr) (w:World) : Prop where
 ex:∃ F,Now l F w∧Turn c.X c.W w∧∀ j,F j→c.X j∨c.W.heap.size≤j
theorem Hold.start {l:List Asr} {F:Nat→Prop} {w:World} (h:Now l F w) : Hold ⟨w,F⟩ l w:=⟨⟨F,h,⟨rfl,rfl,rfl,Nat.le_refl _,fun _ _ _=>rfl⟩,fun _ h=>.inl h⟩⟩
theorem Hold.sel {c:Ctx} {l:List Asr} {w:World} (h:Hold c l w) (idx:List Nat) (hi:selB l.length idx=true) : Hold c (Ev.sel l idx) w:=by
 obtain ⟨F,h1,h2,h3⟩:=h.ex
 obtain ⟨F',k1,k2⟩:=now_sel h1 idx hi
 exact ⟨⟨F',k1,h2,fun j hj=>h3 j (k2 j hj)⟩⟩
theorem Hold.old {c:Ctx} {l:List Asr} {w:World} (h:Hold c l w) : OldW c.W c.X w:=by
 obtain ⟨F,h1,h2,h3⟩:=h.ex
 exact fun j hj hx=>h2.block j hj hx
theorem Hold.same {c:Ctx} {l:List Asr} {w:World} (h:Hold c l w) : Same c.W w:=by
 obtain ⟨F,h1,h2,h3⟩:=h.ex
 exact h2.same
theorem Hold.head {c:Ctx} {a b:Asr} {l:List Asr} {w:World} (h:Hold c (a::l) w) (hab:∀ f,a.p (fun _=>none) f w→b.p (fun _=>none) f w) : Hold c (b::l) w:=by
 obtain ⟨F,h1,h2,h3⟩:=h.ex
 obtain ⟨Fa,Fl,k1,k2,k3,k4⟩:=now_uncons h1
 exact ⟨⟨F,now_same (now_cons (hab Fa k1) k2 (fun j hj=>h1.lt j ((k4 j).2 (.inl hj))) k3) (fun j=>(k4 j).symm),h2,h3⟩⟩
theorem Hold.headE {c:Ctx} {a:Asr} {l:List Asr} {w:World} {β:Type} {b:β→Asr} {p:β→Prop} (h:Hold c (a::l) w) (hab:∀ f,a.p (fun _=>none) f w→∃ x,p x∧(b x).p (fun _=>none) f w) : ∃ x,p x∧Hold c (b x::l) w:=by
 obtain ⟨F,h1,h2,h3⟩:=h.ex
 obtain ⟨Fa,Fl,k1,k2,k3,k4⟩:=now_uncons h1
 obtain ⟨x,hx,k1'⟩:=hab Fa k1
 exact ⟨x,hx,⟨⟨F,now_same (now_cons k1' k2 (fun j hj=>h1.lt j ((k4 j).2 (.inl hj))) k3) (fun j=>(k4 j).symm),h2,h3⟩⟩⟩
theorem Hold.first {c:Ctx} {a:Asr} {l:List Asr} {w:World} (h:Hold c (a::l) w) : ∃ f,a.p (fun _=>none) f w:=by
 obtain ⟨F,h1,h2,h3⟩:=h.ex
 obtain ⟨Fa,Fl,k1,k2,k3,k4⟩:=now_uncons h1
 exact ⟨Fa,k1⟩
theorem Hold.into {c:Ctx} {l m:List Asr} {F:Nat→Prop} {w w':World} (h:Hold ⟨w,F⟩ m w') (hc:Turn c.X c.W w) (hF:∀ j,F j→c.X j∨c.W.heap.size≤j) : Hold c m w':=by
 obtain ⟨G,h1,h2,h3⟩:=h.ex
 refine ⟨⟨G,h1,⟨h2.os.trans hc.os,h2.tape.trans hc.tape,h2.output.trans hc.output,Nat.le_trans hc.size h2.size,fun j hj hn=>?_⟩,fun j hj=>?_⟩⟩
 ·refine (h2.block j (Nat.lt_of_lt_of_le hj hc.size) (fun hf=>?_)).trans (hc.block j hj hn)
  rcases hF j hf with h | h
  ·exact hn h
  ·omega
 ·rcases h3 j hj with h | h
  ·exact hF j h
  ·exact .inr (Nat.le_trans hc.size h)
theorem Hold.below {c:Ctx} {l:List Asr} {w:World} (h:Hold c l w) (hX:∀ j,¬ c.X j) : Below c.W.heap.size c.W w:=by
 obtain ⟨F,h1,h2,h3⟩:=h.ex
 exact ⟨h2.os,h2.tape,h2.output,h2.size,fun j hj=>h2.block j hj (hX j)⟩
def concB [Sig] (κ:Ren) : Value→Value
 | .map (some id)=>.map (some ((κ id).getD 0))
 | .slice (some ⟨id,off,none⟩) n c=>.slice (some ⟨(κ id).getD 0,off,none⟩) n c
 | v=>conc κ v
def concF [Sig] : Nat→Ren→Value→Value
 | 0,κ,v=>concB κ v
 | n+1,κ,v=>match v with
  | .agg f=>.agg (f.toList.map (concF n κ)).toArray
  | .tuple f=>.tuple (f.toList.map (concF n κ)).toArray
  | .iface t v=>.iface t (concF n κ v)
  | .func fn f c=>.func fn (f.toList.map (concF n κ)).toArray (c.toList.map (concF n κ)).toArray
  | v=>concB κ v
def isYield:Fn→Bool
 | .yield _=>true
 | _=>false
def knB:Value→Bool
 | .map (some _)=>true
 | .slice (some ⟨id,_,none⟩) _ _=>!(gro id)
 | v=>knV v
def knF:Nat→Value→Bool
 | 0,v=>knB v
 | n+1,v=>match v with
  | .agg f=>f.toList.all (knF n)
  | .tuple f=>f.toList.all (knF n)
  | .iface _ v=>knF n v
  | .func fn f c=>!(isYield fn) && (f.toList.all (knF n) && c.toList.all (knF n))
  | v=>knB v
def knJ (rn:List (Nat×Nat)) : Value→Bool
 | .map (some id)=>(renOf rn id).isSome
 | .pointer (some ⟨id,_,none⟩)=>(renOf rn id).isSome
 | .pointer none | .slice none 0 0 | .map none | .nilFunc | .nilIface=>true
 | v=>symV v
def knI (rn:List (Nat×Nat)) : Nat→Value→Bool
 | 0,v=>knJ rn v
 | n+1,v=>match v with
  | .agg f=>f.toList.all (knI rn n)
  | .tuple f=>f.toList.all (knI rn n)
  | .iface _ v=>knI rn n v
  | .func fn f c=>!(isYield fn) && (f.toList.all (knI rn n) && c.toList.all (knI rn n))
  | v=>knJ rn v
theorem concB_eq {κ:Ren} [Sig] {v v':Value} (h:VRel κ v v') (hk:knB v=true) : v'=concB κ v:=by
 cases h with
 | map id b h=>simp [concB,h]
 | slice id off b n c c' h h0 h1 h2 h3 =>
  have hg:gro id=false:=by simpa [knB] using hk
  rw [← h0 hg]
  simp [concB,h]
 | sliceE id off b h h0=>simp [concB,h]
 | ptr id off b h=>exact conc_eq (.ptr id off b h) hk
 | ptr0=>rfl
 | slice0=>rfl
 | map0=>rfl
 | nilFunc=>rfl
 | nilIface=>rfl
 | sym n m _ h=>exact conc_eq (κ:=κ) (.sym n m _ h) hk
 | dyn id c _ h h'=>exact conc_eq (.dyn id c _ h h') hk
 | dyn3 id c j _ h h'=>exact conc_eq (.dyn3 id c j _ h h') hk
 | bool=>rfl
 | int=>rfl
 | float=>rfl
 | string=>rfl
 | _=>first | cases hk | (simp [knB,knV,symV] at hk)
theorem arr_of {κ:Ren} [Sig] {n:Nat} {f f':Array Value} (hf:f.size=f'.size) (h:∀ (i:Nat) (v v':Value),f[i]? = some v→f'[i]? = some v'→VRel κ v v') (hk:f.toList.all (knF n)=true) (ih:∀ v v',VRel κ v v'→knF n v=true→v'=concF n κ v) : f'=(f.toList.map (concF n κ)).toArray:=by
 rw [List.all_eq_true] at hk
 apply Array.ext (by simp [hf])
 intro i h1 h2
 have h3:i < f.size:=by rw [hf]; exact h1
 rw [ih f[i] f'[i] (h i _ _ (Array.getElem?_eq_getElem h3) (Array.getElem?_eq_getElem h1)) (hk _ (by simp))]
 simp
theorem concF_eq {κ:Ren} [Sig] : ∀ (n:Nat) {v v':Value},VRel κ v v'→knF n v=true→v'=concF n κ v:=by
 intro n
 induction n with
 | zero=>exact fun h hk=>concB_eq h hk
 | succ n ih =>
  intro v v' h hk
  cases v with
  | agg f=>cases h with | agg _ f' hf h=>exact congrArg Value.agg (arr_of hf h hk (fun v v'=>ih))
  | tuple f=>cases h with | tuple _ f' hf h=>exact congrArg Value.tuple (arr_of hf h hk (fun v v'=>ih))
  | iface t v=>cases h with | iface _ _ v' h=>exact congrArg (Value.iface t) (ih h hk)
  | func fn f c =>
   have hk':(!(isYield fn) && (f.toList.all (knF n) && c.toList.all (knF n)))=true:=hk
   simp only [Bool.and_eq_true] at hk'
   cases h with
   | func _ _ f' _ c' hy hf hc h h' =>
    rw [arr_of hf h hk'.2.1 (fun v v'=>ih),arr_of hc h' hk'.2.2 (fun v v'=>ih)]
    rfl
   | yield=>exact absurd hk'.1 (by simp [isYield])
  | _=>exact concB_eq h hk
theorem ren_get {rn:List (Nat×Nat)} {id:Nat} (h:(renOf rn id).isSome=true) : renOf rn id=some ((renOf rn id).getD 0):=by
 cases hr:renOf rn id with
 | none=>rw [hr] at h; cases h
 | some b=>rfl
theorem concJ {rn:List (Nat×Nat)} [Sig] {v:Value} (hk:knJ rn v=true) : VRel (renOf rn) v (concB (renOf rn) v):=by
 unfold knJ at hk
 split at hk
 ·exact .map _ _ (ren_get hk)
 ·exact .ptr _ _ _ (ren_get hk)
 ·exact .ptr0
 ·exact .slice0
 ·exact .map0
 ·exact .nilFunc
 ·exact .nilIface
 ·unfold symV at hk
  split at hk <;> first | exact .bool _ | exact .int _ _ | exact .float _ _ | exact .string _ | exact .sym _ _ _ rfl | contradiction | cases hk
theorem arr_to {rn:List (Nat×Nat)} [Sig] {n:Nat} {f:Array Value} (hk:f.toList.all (knI rn n)=true) (ih:∀ v,knI rn n v=true→VRel (renOf rn) v (concF n (renOf rn) v)) : f.size=(f.toList.map (concF n (renOf rn))).toArray.size∧∀ (i:Nat) (v v':Value),f[i]? = some v→(f.toList.map (concF n (renOf rn))).toArray[i]? = some v'→VRel (renOf rn) v v':=by
 rw [List.all_eq_true] at hk
 refine ⟨by simp,fun i v v' h1 h2=>?_⟩
 simp [h1] at h2
 subst h2
 exact ih v (hk v (by obtain ⟨h3,rfl⟩:=Array.getElem?_eq_some_iff.1 h1; simp))
theorem concF_to {rn:List (Nat×Nat)} [Sig] : ∀ (n:Nat) (v:Value),knI rn n v=true→VRel (renOf rn) v (concF n (renOf rn) v):=by
 intro n
 induction n with
 | zero=>exact fun v hk=>concJ hk
 | succ n ih =>
  intro v hk
  cases v with
  | agg f=>obtain ⟨h1,h2⟩:=arr_to hk ih; exact .agg _ _ h1 h2
  | tuple f=>obtain ⟨h1,h2⟩:=arr_to hk ih; exact .tuple _ _ h1 h2
  | iface t v=>exact .iface _ _ _ (ih _ hk)
  | func fn f c =>
   have hk':(!(isYield fn) && (f.toList.all (knI rn n) && c.toList.all (knI rn n)))=true:=hk
   simp only [Bool.and_eq_true] at hk'
   obtain ⟨h1,h2⟩:=arr_to hk'.2.1 ih
   obtain ⟨h3,h4⟩:=arr_to hk'.2.2 ih
   exact .func fn _ _ _ _ (fun l e=>by rw [e] at hk'; simp [isYield] at hk') h1 h3 h2 h4
  | _=>exact concJ hk
end Go.Ev
