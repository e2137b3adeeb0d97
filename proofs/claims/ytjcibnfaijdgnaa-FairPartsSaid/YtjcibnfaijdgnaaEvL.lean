/- The evaluator, part twelve: code and calls are sound. -/
import Derived.Test.YtjcibnfaijdgnaaEvK
namespace Go.Ev
open Go.RowKit
set_option linter.unusedVariables false
set_option linter.unusedSimpArgs false
set_option linter.unusedSectionVars false
variable [Sig]

theorem sv_next {P : Program} {m : Sem Value} {s s1 : St} {n : Next} (h : sv (arun P m s) = some (n, s1)) : s.next ≤ s1.next := by
  unfold sv at h
  rw [Option.map_eq_some_iff] at h
  obtain ⟨⟨v, s2⟩, h1, h2⟩ := h
  cases h2
  exact arun_next P _ _ _ _ h1
theorem su_next {P : Program} {m : Sem Unit} {s s1 : St} {n : Next} (h : su (arun P m s) = some (n, s1)) : s.next ≤ s1.next := by
  unfold su at h
  rw [Option.map_eq_some_iff] at h
  obtain ⟨⟨v, s2⟩, h1, h2⟩ := h
  cases h2
  exact arun_next P _ _ _ _ h1
theorem aFlat_next {P : Program} {a : Act} {o : Oper} {s s1 : St} {n : Next} (h : aFlat P a o s = some (n, s1)) : s.next ≤ s1.next := by
  unfold aFlat at h
  split at h
  · split at h
    · split at h
      · cases h; exact Nat.le_refl _
      · cases h
    · cases h
  · cases h
theorem aLookup_next {P : Program} {s s1 : St} {t : TypeId} {m k v : Value} {ok : Bool} (h : aLookup P s t m k ok = some (v, s1)) : s.next ≤ s1.next := by
  unfold aLookup at h
  split at h
  · split at h
    · rename_i es s2 hm
      have hs : s2.next = s.next := by
        split at hm
        · cases hm; rfl
        · split at hm
          · cases hm; rfl
          · cases hm
        · cases hm
      split at h
      · cases h; omega
      · split at h
        · split at h
          · split at h
            · cases h; omega
            · cases h
          · cases h
        · cases h
      · cases h
    · cases h
  · cases h
theorem aUpdate_next {P : Program} {s s1 : St} {t : TypeId} {m k v : Value} (h : aUpdate P s t m k v = some s1) : s.next ≤ s1.next := by
  unfold aUpdate at h
  split at h
  · split at h
    · split at h
      · split at h
        · split at h
          · cases h; exact Nat.le_refl _
          · cases h
        · cases h; exact Nat.le_refl _
        · cases h
      · cases h
    · cases h
  · cases h
theorem aEntry_next {P : Program} {s s1 : St} {t : TypeId} {m k v : Value} (h : aEntry P s t m k = some (v, s1)) : s.next ≤ s1.next := by
  unfold aEntry at h
  split at h
  · split at h
    · split at h
      · split at h
        · split at h
          · cases h; exact Nat.le_refl _
          · cases h
        · split at h
          · split at h
            · split at h
              · cases h; exact Nat.le_refl _
              · cases h
            · cases h
          · cases h
        · cases h
      · cases h
    · cases h
  · cases h
theorem aStamp_next {s s1 : St} {m st v : Value} (h : aStamp s m st v = some s1) : s.next ≤ s1.next := by
  unfold aStamp at h
  split at h
  · split at h
    · split at h
      · split at h
        · cases h; exact Nat.le_refl _
        · cases h
      · cases h
    · cases h
  · cases h
theorem aDelete_next {P : Program} {s s1 : St} {t : TypeId} {m k : Value} (h : aDelete P s t m k = some s1) : s.next ≤ s1.next := by
  unfold aDelete at h
  split at h
  · split at h
    · split at h
      · split at h
        · cases h; exact Nat.le_refl _
        · cases h; exact Nat.le_refl _
        · cases h
      · cases h
    · cases h
  · cases h
theorem aAppend_next {P : Program} {s s1 : St} {t u : TypeId} {d x v : Value} (h : aAppend P s t u d x = some (v, s1)) : s.next ≤ s1.next := by
  unfold aAppend at h
  split at h
  · split at h
    · split at h
      · split at h
        · cases h; exact Nat.le_refl _
        · split at h
          · split at h
            · dsimp only at h
              split at h
              · cases h; exact Nat.le_succ _
              · split at h
                · split at h
                  · split at h
                    · cases h; exact Nat.le_succ _
                    · cases h
                  · cases h
                · split at h
                  · cases h; exact Nat.le_succ _
                  · cases h
            · cases h
          · cases h
      · cases h
    · cases h
  · cases h
theorem aCall_next {P : Program} {a : Act} {c : Call} {ty : TypeId} {s s1 : St} {n : Next} (h : aCall P a c ty s = some (n, s1)) : s.next ≤ s1.next := by
  unfold aCall at h
  split at h
  · split at h
    · split at h
      · split at h
        · cases h; exact Nat.le_refl _
        · cases h
      · split at h
        · exact arun_next P _ _ _ _ h
        · cases h
      · cases h
    · split at h
      · split at h
        · split at h
          · cases h; exact Nat.le_refl _
          · cases h
        · cases h
      · cases h
    · split at h
      · exact sv_next h
      · split at h
        · exact sv_next h
        · cases h
      · split at h
        · exact sv_next h
        · unfold sv at h
          rw [Option.map_eq_some_iff] at h
          obtain ⟨⟨v, s2⟩, h1, h2⟩ := h
          cases h2
          exact aAppend_next h1
      · exact sv_next h
      · rw [Option.map_eq_some_iff] at h
        obtain ⟨s2, h1, h2⟩ := h
        cases h2
        exact aDelete_next h1
      · cases h
  · cases h
theorem aexec_next {P : Program} {a : Act} {o : Oper} {s s1 : St} {n : Next} (h : aexec P a o s = some (n, s1)) : s.next ≤ s1.next := by
  obtain ⟨dst, op, ty, pos, after, guard⟩ := o
  cases op with
  | move x =>
    simp only [aexec] at h
    split at h
    · cases h; exact Nat.le_refl _
    · cases h
  | assign x =>
    simp only [aexec] at h
    split at h
    · cases h; exact Nat.le_refl _
    · cases h
  | pick c x y =>
    simp only [aexec] at h
    split at h
    · split at h
      · cases h; exact Nat.le_refl _
      · cases h
    · cases h
  | store t x y =>
    simp only [aexec] at h
    split at h
    · exact su_next h
    · cases h
  | nilCheck x =>
    simp only [aexec] at h
    split at h
    · split at h
      · cases h; exact Nat.le_refl _
      · cases h; exact Nat.le_refl _
      · cases h; exact Nat.le_refl _
      · cases h
    · cases h
  | binOp op t x y yt =>
    simp only [aexec] at h
    split at h
    · rename_i r hf
      cases h
      exact aFlat_next hf
    · split at h
      · split at h
        · split at h
          · cases h; exact Nat.le_refl _
          · cases h; exact Nat.le_refl _
          · cases h
        · unfold sBin at h
          rw [Option.map_eq_some_iff] at h
          obtain ⟨r, hb, hh⟩ := h
          cases hh
          exact Nat.le_refl _
      · cases h
  | unOp op t x =>
    simp only [aexec] at h
    split at h
    · rename_i r hf
      cases h
      exact aFlat_next hf
    · split at h
      · unfold sUna at h
        rw [Option.map_eq_some_iff] at h
        obtain ⟨r, hb, hh⟩ := h
        cases hh
        exact Nat.le_refl _
      · cases h
  | convert t u x =>
    simp only [aexec] at h
    split at h
    · rename_i r hf
      cases h
      exact aFlat_next hf
    · split at h
      · unfold sCnv at h
        split at h
        · rw [Option.map_eq_some_iff] at h
          obtain ⟨r, hb, hh⟩ := h
          cases hh
          exact Nat.le_refl _
        · cases h
      · cases h
  | makeFunc fn first captured =>
    cases fn with
    | func f =>
      simp only [aexec] at h
      split at h
      · cases h; exact Nat.le_refl _
      · cases h
    | _ => simp [aexec] at h
  | makeMap t r =>
    cases r with
    | none =>
      simp only [aexec] at h
      exact sv_next h
    | some x =>
      simp only [aexec] at h
      split at h
      · exact sv_next h
      · cases h
  | slice t x lo hi mx =>
    simp only [aexec] at h
    split at h
    · split at h
      · rename_i v s2 hrun
        split at h
        · cases h; exact arun_next P _ _ _ _ hrun
        · cases h
      · cases h
    · cases h
  | lookup t m k ok =>
    simp only [aexec] at h
    split at h
    · unfold sv at h
      rw [Option.map_eq_some_iff] at h
      obtain ⟨⟨v, s2⟩, h1, h2⟩ := h
      cases h2
      exact aLookup_next h1
    · cases h
  | mapUpdate t m k v =>
    simp only [aexec] at h
    split at h
    · rw [Option.map_eq_some_iff] at h
      obtain ⟨s2, h1, h2⟩ := h
      cases h2
      exact aUpdate_next h1
    · cases h
  | insert t m k v =>
    simp only [aexec] at h
    split at h
    · rw [Option.map_eq_some_iff] at h
      obtain ⟨s2, h1, h2⟩ := h
      cases h2
      exact aUpdate_next h1
    · cases h
  | mapEntry t m k =>
    simp only [aexec] at h
    split at h
    · unfold sv at h
      rw [Option.map_eq_some_iff] at h
      obtain ⟨⟨v, s2⟩, h1, h2⟩ := h
      cases h2
      exact aEntry_next h1
    · cases h
  | entryStore t m st v =>
    simp only [aexec] at h
    split at h
    · rw [Option.map_eq_some_iff] at h
      obtain ⟨s2, h1, h2⟩ := h
      cases h2
      exact aStamp_next h1
    · cases h
  | call c =>
    simp only [aexec] at h
    split at h
    · rename_i r hf
      cases h
      exact aFlat_next hf
    · exact aCall_next h
  | alloc t =>
    simp only [aexec] at h
    split at h
    · exact sv_next h
    · cases h
  | box t x =>
    simp only [aexec] at h
    split at h
    · exact sv_next h
    · cases h
  | build t ps =>
    simp only [aexec] at h
    split at h
    · exact sv_next h
    · cases h
  | buildSlice t k ps =>
    simp only [aexec] at h
    split at h
    · exact sv_next h
    · cases h
  | load t x =>
    simp only [aexec] at h
    split at h
    · exact sv_next h
    · cases h
  | makeInterface t x =>
    simp only [aexec] at h
    split at h
    · exact sv_next h
    · cases h
  | makeSlice t l c =>
    simp only [aexec] at h
    split at h
    · exact sv_next h
    · cases h
  | fieldAddr t x f =>
    simp only [aexec] at h
    split at h
    · exact sv_next h
    · cases h
  | field t x f =>
    simp only [aexec] at h
    split at h
    · exact sv_next h
    · cases h
  | indexAddr t x i =>
    simp only [aexec] at h
    split at h
    · exact sv_next h
    · cases h
  | index t x i =>
    simp only [aexec] at h
    split at h
    · exact sv_next h
    · cases h
  | range t x =>
    simp only [aexec] at h
    split at h
    · exact sv_next h
    · cases h
  | next x str =>
    simp only [aexec] at h
    split at h
    · exact sv_next h
    · cases h
  | entry x =>
    simp only [aexec] at h
    split at h
    · exact sv_next h
    · cases h
  | typeAssert x t u ok =>
    simp only [aexec] at h
    split at h
    · exact sv_next h
    · cases h
  | extract x i =>
    simp only [aexec] at h
    split at h
    · exact sv_next h
    · cases h
  | _ => simp [aexec] at h

/-- The part of a run that a call's soundness says. -/
structure Goes (P : Program) (base : Nat → Prop) (ι κ : Ren) (s s1 : St) (w w1 : World) : Prop where
  rep : Rep P base κ s1.look w1
  ext : ∀ id, (id < 4 * s.next ∨ 4 * s1.next ≤ id) → κ id = ι id
  below : Out base w w1

def Fresh (ι : Ren) (s s1 : St) : Prop := ∀ id, 4 * s.next ≤ id → id < 4 * s1.next → ι id = none

theorem Goes.le {P : Program} {base : Nat → Prop} {ι κ : Ren} {s s1 : St} {w w1 : World} (h : Goes P base ι κ s s1 w w1) (hf : Fresh ι s s1) : RLe ι κ := by
  intro id b hb
  by_cases hx : id < 4 * s.next ∨ 4 * s1.next ≤ id
  · rw [h.ext id hx]; exact hb
  · rw [hf id (by omega) (by omega)] at hb; cases hb
theorem Goes.trans {P : Program} {base : Nat → Prop} {ι κ μ : Ren} {s s1 s2 : St} {w w1 w2 : World} (h : Goes P base ι κ s s1 w w1) (k : Goes P base κ μ s1 s2 w1 w2) (n1 : s.next ≤ s1.next) (n2 : s1.next ≤ s2.next) : Goes P base ι μ s s2 w w2 :=
  ⟨k.rep, fun id hx => by rw [k.ext id (by omega), h.ext id (by omega)], h.below.trans k.below⟩
theorem Goes.refl {P : Program} {base : Nat → Prop} {ι : Ren} {s : St} {w : World} (h : Rep P base ι s.look w) : Goes P base ι ι s s w w := ⟨h, fun _ _ => rfl, Out.refl _ _⟩
theorem Fresh.left {ι : Ren} {s s1 s2 : St} (h : Fresh ι s s2) (n : s1.next ≤ s2.next) : Fresh ι s s1 := fun id a b => h id a (by omega)
theorem Fresh.right {P : Program} {base : Nat → Prop} {ι κ : Ren} {s s1 s2 : St} {w w1 : World} (h : Fresh ι s s2) (g : Goes P base ι κ s s1 w w1) (n : s.next ≤ s1.next) : Fresh κ s1 s2 := fun id a b => by rw [g.ext id (by omega)]; exact h id (by omega) b

theorem put_rel {ι : Ren} {a A : Act} {v v' : Value} (h : ActRel ι a A) (hv : VRel ι v v') (d : Option Tmp) : ActRel ι (a.put d v) (A.put d v') := by
  cases d with
  | none => exact h
  | some d => exact ⟨getElem?_set_rel h.tmps hv d, h.dfs⟩
theorem ActRel.mono {ι κ : Ren} (hk : RLe ι κ) {a A : Act} (h : ActRel ι a A) : ActRel κ a A := ⟨h.tmps.mono hk, h.dfs.mono hk⟩

end Go.Ev
