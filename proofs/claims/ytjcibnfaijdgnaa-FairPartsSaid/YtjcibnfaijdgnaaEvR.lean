/- The evaluator, part eighteen: one operation is local. -/
import Derived.Test.YtjcibnfaijdgnaaEvQ
namespace Go.Ev
open Go.RowKit
set_option linter.unusedVariables false
set_option linter.unusedSimpArgs false
set_option linter.unusedSectionVars false
variable [Sig]

theorem Local.iteP {α : Type} (c : Prop) [Decidable c] {f : St → Option (α × St)} (hf : Local f) : Local (fun s => if c then f s else Option.none) := by
  by_cases h : c
  · exact Local.congr (fun s => by rw [if_pos h]) hf
  · exact Local.congr (fun s => by rw [if_neg h]) Local.none

theorem optMap_local {β : Type} {f : St → Option St} (hf : Local (fun s => (f s).map fun s1 => ((), s1))) (v : β) : Local (fun s => (f s).map fun s1 => (v, s1)) := by
  refine Local.congr (fun s => ?_) (Local.map hf (fun _ => v))
  cases f s <;> rfl

theorem aFlat_local (P : Program) (a : Act) (o : Oper) : Local (aFlat P a o) := by
  unfold aFlat
  refine Local.iteP _ ?_
  cases hq : qrun P (execOp a.eval o) with
  | none => exact Local.congr (fun s => by simp [hq]) Local.none
  | some n =>
    cases n with
    | value v => exact Local.congr (fun s => by simp [hq]) (Local.iteP (flatN 5 v = true) (Local.pure (Next.value v)))
    | _ => exact Local.congr (fun s => by simp [hq]) Local.none

theorem aFlat_cases (P : Program) (a : Act) (o : Oper) : (∃ n, ∀ s, aFlat P a o s = some (n, s)) ∨ ∀ s, aFlat P a o s = none := by
  unfold aFlat
  split
  · cases hq : qrun P (execOp a.eval o) with
    | none => exact .inr (fun s => rfl)
    | some n =>
      cases n with
      | value v =>
        by_cases hv : flatN 5 v = true
        · exact .inl ⟨.value v, fun s => by simp [hv]⟩
        · exact .inr (fun s => by simp [hv])
      | _ => exact .inr (fun s => rfl)
  · exact .inr (fun s => rfl)
theorem aFlat_or {P : Program} {a : Act} {o : Oper} {g : St → Option (Next × St)} (hg : Local g) : Local (fun s => match aFlat P a o s with | some r => some r | none => g s) := by
  rcases aFlat_cases P a o with ⟨n, h⟩ | h
  · exact Local.congr (fun s => by simp only [h s]) (Local.pure n)
  · exact Local.congr (fun s => by simp only [h s]) hg

theorem aCall_local (P : Program) (a : Act) (c : Call) (ty : TypeId) : Local (aCall P a c ty) := by
  unfold aCall
  refine Local.iteP _ ?_
  cases hc : c.callee with
  | value f =>
    dsimp only
    split
    · exact Local.iteP _ (Local.pure _)
    · exact Local.iteP _ (arun_local P _)
    · exact Local.none
  | invoke r name =>
    dsimp only
    split
    · split
      · exact Local.iteP _ (Local.pure _)
      · exact Local.none
    · exact Local.none
  | builtin b =>
    dsimp only
    split
    · exact sv_local (arun_local P _)
    · exact Local.iteP _ (sv_local (arun_local P _))
    · split
      · exact sv_local (arun_local P _)
      · exact sv_local (aAppend_local P _ _ _ _)
    · exact sv_local (arun_local P _)
    · exact optMap_local (aDelete_local P _ _ _) _
    · exact Local.none

theorem slice_local (P : Program) (m : Sem Value) : Local (fun s => match arun P m s with | some (v, s1) => if resOk v = true then some (Next.value v, s1) else none | none => none) := by
  refine Local.congr (fun s => ?_) (Local.bind (arun_local P m) (fun v => Local.iteP (resOk v = true) (Local.pure (Next.value v))))
  cases arun P m s with
  | none => rfl
  | some x => rfl
theorem opt_local {α β : Type} (c : Option α) (f : α → β) : Local (fun s => c.map fun r => (f r, s)) := by
  cases c with
  | none => exact Local.none
  | some a => exact Local.pure (f a)
theorem sCnv_local (P : Program) (t u : TypeId) (x : Value) : Local (sCnv P t u x) := by
  unfold sCnv
  split
  · exact opt_local _ _
  · exact Local.none
theorem aexec_local (P : Program) (a : Act) (o : Oper) : Local (aexec P a o) := by
  unfold aexec
  split
  all_goals first
    | exact Local.iteP _ (Local.pure _)
    | exact Local.none
    | exact aFlat_local P a o
    | exact Local.iteP _ (sv_local (arun_local P _))
    | exact Local.iteP _ (su_local (arun_local P _))
    | exact sv_local (arun_local P _)
    | exact Local.iteP _ (sv_local (aLookup_local P _ _ _ _))
    | exact Local.iteP _ (optMap_local (aUpdate_local P _ _ _ _) _)
    | exact Local.iteP _ (sv_local (aEntry_local P _ _ _))
    | exact Local.iteP _ (optMap_local (aStamp_local _ _ _) _)
    | exact aFlat_or (aCall_local P a _ _)
    | skip
  · refine Local.iteP _ ?_
    split
    · exact Local.pure _
    · exact Local.none
  · refine Local.iteP _ ?_
    split
    · exact Local.pure _
    · exact Local.pure _
    · exact Local.pure _
    · exact Local.none
  · refine aFlat_or (Local.iteP _ ?_)
    split
    · split
      · exact Local.pure _
      · exact Local.pure _
      · exact Local.none
    · exact opt_local _ _
  · exact aFlat_or (Local.iteP _ (opt_local _ _))
  · exact aFlat_or (Local.iteP _ (sCnv_local P _ _ _))
  · refine Local.iteP _ ?_
    exact slice_local P _
end Go.Ev
