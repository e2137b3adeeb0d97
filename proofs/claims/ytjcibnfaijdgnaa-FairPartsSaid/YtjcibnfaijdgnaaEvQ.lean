/- The evaluator, part seventeen: operations and calls are local. -/
import Derived.Test.YtjcibnfaijdgnaaEvP
namespace Go.Ev
open Go.RowKit
set_option linter.unusedVariables false
set_option linter.unusedSimpArgs false
set_option linter.unusedSectionVars false
variable [Sig]

theorem rdSrc_eq (sz : Nat) (x : Value) (s : St) (l : List Touch) : rdSrc sz x { s with log := l } = match srcCells s sz x with | some (c, l1) => some (c, { s with log := l1 ++ l }) | none => none := rfl

theorem appSteps_none (e : TypeId) (sz k : Nat) (dst src : Value) (s : St) : appSteps e sz k dst src none s =
    if 4 * s.next + 1 < lim then
      match srcCells s sz src, srcCells s sz dst with
      | some (news, l1), some (olds, l2) => some (.slice (some ⟨4 * s.next + 1, 0, none⟩) k k, { s.put (4 * s.next + 1) (some (.cells (olds ++ news) e (0, 0))) with next := s.next + 1, log := ⟨4 * s.next + 1, none, true⟩ :: (l1 ++ (l2 ++ s.log)) })
      | _, _ => none
    else none := by
  unfold appSteps rdSrc
  cases hd : srcCells s sz dst with
  | none =>
    cases hs : srcCells s sz src <;> simp
  | some x =>
    obtain ⟨olds, l2⟩ := x
    dsimp only
    unfold appMid
    rw [rdSrc_eq]
    cases hs : srcCells s sz src with
    | none => simp
    | some y =>
      obtain ⟨news, l1⟩ := y
      dsimp only [appEnd, appNew]
      rfl

theorem appSteps_some (e : TypeId) (sz k id : Nat) (dst src : Value) (s : St) : appSteps e sz k dst src (some id) s =
    if 4 * s.next + 1 < lim then
      match srcCells s sz src, srcCells s sz dst with
      | some (news, l1), some (olds, l2) =>
        (match s.look id with
          | some (.cells _ e0 _) => if e0 = e ∧ id < lim then some (.slice (some ⟨4 * s.next + 1, 0, none⟩) k k, { (s.put id none).put (4 * s.next + 1) (some (.cells (olds ++ news) e (0, 0))) with next := s.next + 1, log := ⟨4 * s.next + 1, none, true⟩ :: ⟨id, none, true⟩ :: (l1 ++ (l2 ++ s.log)) }) else none
          | _ => none)
      | _, _ => none
    else none := by
  unfold appSteps rdSrc
  cases hd : srcCells s sz dst with
  | none =>
    cases hs : srcCells s sz src <;> simp
  | some x =>
    obtain ⟨olds, l2⟩ := x
    dsimp only
    unfold appMid
    rw [rdSrc_eq]
    cases hs : srcCells s sz src with
    | none => simp
    | some y =>
      obtain ⟨news, l1⟩ := y
      dsimp only [appEnd, appDrop]
      have hlk : ({ s with log := l1 ++ (l2 ++ s.log) } : St).look id = s.look id := rfl
      rw [hlk]
      by_cases hlim : id < lim
      · rw [if_pos hlim]
        cases hl : s.look id with
        | none => simp [qDrop]
        | some o =>
          cases o with
          | cells c e0 f =>
            by_cases he : e0 = e
            · subst he
              simp only [qDrop, if_true, hlim, and_self, appNew]
              rfl
            · simp [qDrop, he]
          | _ => simp [qDrop]
      · rw [if_neg hlim]
        cases hl : s.look id with
        | none => simp
        | some o => cases o <;> simp [hlim]

theorem aAppend_local (P : Program) (t u : TypeId) (dst src : Value) : Local (fun s => aAppend P s t u dst src) := by
  cases hu : P.underlying t with
  | none => exact Local.congr (fun s => by simp [aAppend, hu]) Local.none
  | some d =>
    cases d with
    | slice e =>
      cases hm : srcLen src with
      | none => exact Local.congr (fun s => by simp [aAppend, hu, hm]) Local.none
      | some m =>
        cases dst with
        | slice ba n c =>
          cases hi : P.info? e with
          | none => exact Local.congr (fun s => by simp [aAppend, hu, hm, hi]) Local.none
          | some i =>
            cases hz : i.zero with
            | none => exact Local.congr (fun s => by simp [aAppend, hu, hm, hi, hz]) Local.none
            | some z =>
              by_cases hk : (∃ x, P.underlying u = some (.slice x)) ∨ P.underlying u = some .string
              case neg =>
                refine Local.congr (fun s => ?_) Local.none
                cases hU : P.underlying u with
                | none => simp only [aAppend, hu, hm, hi, hz, hU]
                | some d =>
                  cases d with
                  | slice x => exact absurd (Or.inl ⟨x, hU⟩) hk
                  | string => exact absurd (Or.inr hU) hk
                  | _ => simp only [aAppend, hu, hm, hi, hz, hU]
              case pos =>
                by_cases hm0 : m = 0
                · exact Local.congr (fun s => by rcases hk with ⟨x, hU⟩ | hU <;> simp only [aAppend, hu, hm, hi, hz, hU, hm0, if_true]) (Local.pure (Value.slice ba n c))
                · by_cases hst : (n + m) * i.bytes ≤ 140737488355328 ∧ n + m ≤ 1000000000 ∧ 0 < i.size ∧ z.cells.size = i.size ∧ (n = 0 ∨ ba.isSome = true)
                  · obtain ⟨c1, c2, c3, c4, c5⟩ := hst
                    have hcond : ∀ s : St, ((n + m) * i.bytes ≤ 140737488355328 ∧ n + m ≤ 1000000000 ∧ 4 * s.next + 1 < lim ∧ 0 < i.size ∧ z.cells.size = i.size ∧ (n = 0 ∨ ba.isSome = true)) ↔ 4 * s.next + 1 < lim := fun s => ⟨fun h => h.2.2.1, fun h => ⟨c1, c2, h, c3, c4, c5⟩⟩
                    cases ba with
                    | none =>
                      refine Local.congr (fun s => ?_) (appSteps_local e i.size (n + m) (.slice none n c) src none)
                      rw [appSteps_none]
                      rcases hk with ⟨x, hU⟩ | hU <;> simp only [aAppend, hu, hm, hi, hz, hU, hm0, if_false, hcond s]
                      all_goals (split <;> first | rfl | (rcases srcCells s i.size src with _ | ⟨_, _⟩ <;> rcases srcCells s i.size (.slice none n c) with _ | ⟨_, _⟩ <;> rfl))
                    | some a =>
                      obtain ⟨id, off, sp⟩ := a
                      cases hg : gro id with
                      | true =>
                        cases off with
                        | zero =>
                          refine Local.congr (fun s => ?_) (appSteps_local e i.size (n + m) (.slice (some ⟨id, 0, sp⟩) n c) src (some id))
                          rw [appSteps_some]
                          rcases hk with ⟨x, hU⟩ | hU <;> simp only [aAppend, hu, hm, hi, hz, hU, hm0, if_false, hcond s, hg, if_true]
                          all_goals (split <;> first | rfl | (rcases srcCells s i.size src with _ | ⟨_, _⟩ <;> rcases srcCells s i.size (.slice (some ⟨id, 0, sp⟩) n c) with _ | ⟨_, _⟩ <;> rcases s.look id with _ | o <;> first | rfl | (cases o <;> rfl)))
                        | succ off =>
                          refine Local.congr (fun s => ?_) Local.none
                          rcases hk with ⟨x, hU⟩ | hU <;> simp only [aAppend, hu, hm, hi, hz, hU, hm0, if_false, hcond s, hg, if_true]
                          all_goals split
                          all_goals first | rfl | (split <;> rfl)
                      | false =>
                        by_cases hc : c < n + m
                        · refine Local.congr (fun s => ?_) (appSteps_local e i.size (n + m) (.slice (some ⟨id, off, sp⟩) n c) src none)
                          rw [appSteps_none]
                          rcases hk with ⟨x, hU⟩ | hU <;> simp only [aAppend, hu, hm, hi, hz, hU, hm0, if_false, hcond s, hg, hc, if_true, Bool.false_eq_true]
                          all_goals (split <;> first | rfl | (rcases srcCells s i.size src with _ | ⟨_, _⟩ <;> rcases srcCells s i.size (.slice (some ⟨id, off, sp⟩) n c) with _ | ⟨_, _⟩ <;> rfl))
                        · refine Local.congr (fun s => ?_) Local.none
                          rcases hk with ⟨x, hU⟩ | hU <;> simp only [aAppend, hu, hm, hi, hz, hU, hm0, if_false, hcond s, hg, hc, Bool.false_eq_true]
                          all_goals split
                          all_goals first | rfl | (split <;> rfl)
                  · refine Local.congr (fun s => ?_) Local.none
                    rcases hk with ⟨x, hU⟩ | hU <;> simp only [aAppend, hu, hm, hi, hz, hU, hm0, if_false]
                    all_goals rw [if_neg (fun h => hst ⟨h.1, h.2.1, h.2.2.2⟩)]
        | _ => exact Local.congr (fun s => by simp [aAppend, hu, hm]) Local.none
    | _ => exact Local.congr (fun s => by simp [aAppend, hu]) Local.none
end Go.Ev
