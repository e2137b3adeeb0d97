/- The evaluator, part thirteen: code and calls are sound, given that regions are. -/
import Derived.Test.YtjcibnfaijdgnaaEvL
import Derived.LoopN
import Derived.Scope
namespace Go.Ev
open Go.RowKit
set_option linter.unusedVariables false
set_option linter.unusedSimpArgs false
set_option linter.unusedSectionVars false
variable [Sig]

theorem yielded_rel {ι : Ren} {a A : Act} (h : ActRel ι a A) (ops : Array Oper) (j : Nat) : yielded ops A.tmps j = yielded ops a.tmps j := by
  unfold yielded
  cases (ops[j]?).bind (·.dst) with
  | none => rfl
  | some t =>
    dsimp only [Option.bind]
    rcases h.tmps.get t with ⟨e1, e2⟩ | ⟨v, v', e1, e2, hv⟩
    · rw [e1, e2]
    · rw [e1, e2]
      cases hv with
      | sym n m _ hh =>
        have hl := Sig.leaf n
        rw [hh] at hl
        cases v' <;> first | rfl | cases hl
      | dyn id c _ h hh =>
        have hl := dec_leaf c
        rw [hh] at hl
        cases v' <;> first | rfl | cases hl
      | junk n _ hl => cases v' <;> first | rfl | cases hl
      | _ => rfl
theorem wanted_rel {ι : Ren} {a A : Act} (h : ActRel ι a A) (ops : Array Oper) (o : Oper) : Region.wanted o (yielded ops A.tmps) = Region.wanted o (yielded ops a.tmps) := by
  have : yielded ops A.tmps = yielded ops a.tmps := funext (yielded_rel h ops)
  rw [this]

theorem sim_asAddr {P : Program} {base : Nat → Prop} {ι : Ren} {v v' : Value} (h : VRel ι v v') :
    Sim P base (fun κ a a' => ∃ id off b, a = ⟨id, off, none⟩ ∧ a' = ⟨b, off, none⟩ ∧ κ id = some b) ι (Go.asAddr v) (Go.asAddr v') := by
  cases h with
  | ptr id off b h => exact Sim.ret ⟨id, off, b, rfl, rfl, h⟩
  | ptr0 =>
    show Sim P base _ ι (Go.runtimePanic .nilDeref) _
    exact Sim.panics
  | _ => exact Sim.halt

theorem tmp_rel {ι : Ren} {f f' : Array Value} (h : ARel ι f f') (t : Nat) : VRel ι (f.getD t undef) (f'.getD t undef) := by
  rw [Array.getD_eq_getD_getElem?, Array.getD_eq_getD_getElem?]
  rcases h.get t with ⟨e1, e2⟩ | ⟨v, v', e1, e2, hv⟩
  · rw [e1, e2]; exact undef_rel ι
  · rw [e1, e2]; exact hv

theorem sim_results {P : Program} {base : Nat → Prop} {ι : Ren} {f f' : Array Value} (fn : Func) (h : ARel ι f f') : Sim P base VV ι (results fn f) (results fn f') := by
  unfold results
  refine Sim.bnd (R := ARel) ?_ (fun κ vs vs' hle hv => ?_)
  · rw [Array.mapM_eq_mapM_toList, Array.mapM_eq_mapM_toList]
    refine Sim.bnd (R := LRel) ?_ (fun κ l l' _ hl => Sim.ret ⟨by simpa using hl.1, fun i v v' a b => hl.2 i v v' (by simpa using a) (by simpa using b)⟩)
    generalize fn.results.toList = rs
    induction rs generalizing ι with
    | nil => exact Sim.ret ⟨rfl, fun i v v' h => by simp at h⟩
    | cons r rs ih =>
      rw [List.mapM_cons, List.mapM_cons]
      refine Sim.bnd (R := VV) ?_ (fun κ v v' hle hv => ?_)
      · cases r with
        | tmp t => exact Sim.ret (tmp_rel h t)
        | cell a t =>
          refine Sim.bnd (sim_asAddr (tmp_rel h a)) (fun κ x x' _ hx => ?_)
          obtain ⟨id, off, b, rfl, rfl, hb⟩ := hx
          exact sim_loadVar t hb
      · refine Sim.bnd (ih (h.mono hle)) (fun κ2 l l' hle2 hl => Sim.ret ⟨by simp [hl.1], fun i x x' a b => ?_⟩)
        match i with
        | 0 => simp at a b; subst a b; exact hv.mono hle2
        | i + 1 => exact hl.2 i x x' (by simpa using a) (by simpa using b)
  · refine Sim.ret ?_
    by_cases h1 : vs.size = 1
    · have h1' : vs'.size = 1 := by rw [← hv.1]; exact h1
      rw [dif_pos h1, dif_pos h1']
      exact hv.2 0 _ _ (Array.getElem?_eq_getElem (by omega)) (Array.getElem?_eq_getElem (by omega))
    · have h1' : ¬ vs'.size = 1 := by rw [← hv.1]; exact h1
      rw [dif_neg h1, dif_neg h1']
      exact .tuple _ _ hv.1 hv.2

/-- A step that leaves the world as it is, if it comes to an end. -/
def Still {α : Type} (P : Program) (m : Sem α) : Prop := ∀ w v w1, m.run P w = .ok v w1 → w1 = w
theorem Still.ret {α : Type} {P : Program} (a : α) : Still P (Pure.pure a : Sem α) := by
  intro w v w1 h
  cases h
  rfl
theorem Still.bnd {α β : Type} {P : Program} {m : Sem α} {f : α → Sem β} (h : Still P m) (hf : ∀ a, Still P (f a)) : Still P (m >>= f) := by
  intro w v w1 hr
  rw [Sem.run_bind] at hr
  cases hm : m.run P w with
  | ok a w2 =>
    rw [hm] at hr
    rw [hf a w2 v w1 hr, h w a w2 hm]
  | halt x w2 => rw [hm] at hr; cases hr
theorem Still.halt {α : Type} {P : Program} {x : Halt} : Still P (Sem.halt x : Sem α) := by
  intro w v w1 h
  cases h
theorem still_load {P : Program} (a : Addr) : Still P (Go.load a) := by
  intro w v w1 h
  unfold Go.load at h
  simp only [Sem.run] at h
  split at h
  · cases h; rfl
  · split at h
    · cases h; rfl
    · cases h
theorem still_typeInfo {P : Program} (t : TypeId) : Still P (Go.typeInfo t) := by
  intro w v w1 h
  unfold Go.typeInfo at h
  have h' : (match P.info? t with | some i => (Pure.pure i : Sem TypeInfo) | none => Go.stuck "no such type").run P w = .ok v w1 := h
  split at h'
  · cases h'; rfl
  · cases h'
theorem still_underlying {P : Program} (t : TypeId) : Still P (Go.underlying t) := by
  intro w v w1 h
  unfold Go.underlying at h
  have h' : (match P.underlying t with | some i => (Pure.pure i : Sem TypeDesc) | none => Go.stuck "no such type").run P w = .ok v w1 := h
  split at h'
  · cases h'; rfl
  · cases h'
theorem still_loadCells {P : Program} (a : Addr) : ∀ (n i : Nat) (acc : Array Value), Still P (Go.loadCellsFrom a i n acc) := by
  intro n
  induction n with
  | zero => intro i acc; exact Still.ret _
  | succ n ih => intro i acc; exact Still.bnd (still_load _) (fun v => ih _ _)
theorem still_loadVar {P : Program} (t : TypeId) (a : Addr) : Still P (Go.loadVar t a) := by
  unfold Go.loadVar Go.isAgg
  refine Still.bnd (Still.bnd (still_underlying t) (fun d => ?_)) (fun b => ?_)
  · split <;> exact Still.ret _
  · split
    · exact Still.bnd (Still.bnd (still_typeInfo t) (fun i => Still.ret _)) (fun n => Still.bnd (still_loadCells _ _ _ _) (fun c => Still.ret _))
    · exact still_load a
theorem still_asAddr {P : Program} (v : Value) : Still P (Go.asAddr v) := by
  cases v with
  | pointer a =>
    cases a with
    | some a => exact Still.ret _
    | none =>
      intro w v w1 h
      cases h
  | _ => exact Still.halt
/-- Looking at results makes nothing and changes nothing. -/
theorem results_still {P : Program} (fn : Func) (f : Array Value) : Still P (results fn f) := by
  unfold results
  refine Still.bnd ?_ (fun vs => Still.ret _)
  rw [Array.mapM_eq_mapM_toList]
  refine Still.bnd ?_ (fun l => Still.ret _)
  generalize fn.results.toList = rs
  induction rs with
  | nil => exact Still.ret _
  | cons r rs ih =>
    rw [List.mapM_cons]
    refine Still.bnd ?_ (fun v => Still.bnd ih (fun l => Still.ret _))
    cases r with
    | tmp t => exact Still.ret _
    | cell a t => exact Still.bnd (still_asAddr _) (fun x => still_loadVar t x)

end Go.Ev
