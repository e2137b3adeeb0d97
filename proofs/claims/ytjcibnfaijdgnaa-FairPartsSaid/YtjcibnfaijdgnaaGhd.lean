/- What is known of operations on maps that are kept outside. -/
import Derived.Test.YtjcibnfaijdgnaaSep
namespace Go.Ev
open Go.RowKit
set_option linter.unusedVariables false
set_option linter.unusedSimpArgs false
set_option linter.unusedSectionVars false

theorem gk_range {op : Op} {t : TypeId} (h : gkey op = some [13, t]) : ∃ x, op = .range t x := by
  unfold gkey at h
  split at h <;> first | (cases h; done) | skip
  all_goals first | (cases h; exact ⟨_, rfl⟩) | (simp at h)
theorem gk_next {op : Op} (h : gkey op = some [14, 0]) : ∃ x, op = .next x false := by
  unfold gkey at h
  split at h <;> first | (cases h; done) | skip
  all_goals first | (simp at h; done) | skip
  rename_i x b
  cases b
  · exact ⟨_, rfl⟩
  · simp at h
theorem gk_entry {op : Op}  (h : gkey op = some [15]) : ∃ x, op = .entry x := by
  unfold gkey at h
  split at h <;> first | (cases h; done) | skip
  all_goals first | (cases h; exact ⟨_, rfl⟩) | (simp at h)
theorem gk_lookup {op : Op} {t : TypeId} {b : Bool} {n : Nat} (hn : n = cond b 1 0) (h : gkey op = some [5, t, n]) : ∃ x y, op = .lookup t x y b := by
  subst hn
  unfold gkey at h
  split at h <;> first | (cases h; done) | skip
  all_goals first | (simp at h; done) | skip
  rename_i t' x y ok
  cases ok <;> cases b <;> simp at h <;> subst h <;> exact ⟨_, _, rfl⟩
theorem gk_mapUpdate {op : Op} {t : TypeId} (h : gkey op = some [6, t]) : ∃ x y z, op = .mapUpdate t x y z := by
  unfold gkey at h
  split at h <;> first | (cases h; done) | skip
  all_goals first | (cases h; exact ⟨_, _, _, rfl⟩) | (simp at h)
theorem gk_delete {op : Op} {t u : TypeId} (h : gkey op = some [12, t, u]) : ∃ x y, op = .call { callee := .builtin .delete, args := #[x, y], argTypes := #[t, u] } := by
  unfold gkey at h
  split at h <;> first | (cases h; done) | skip
  all_goals first | (cases h; exact ⟨_, _, rfl⟩) | (simp at h)
theorem gk_min {op : Op} {t u : TypeId} (h : gkey op = some [16, t, u]) : ∃ x y, op = .call { callee := .builtin .min, args := #[x, y], argTypes := #[t, u] } := by
  unfold gkey at h
  split at h <;> first | (cases h; done) | skip
  all_goals first | (cases h; exact ⟨_, _, rfl⟩) | (simp at h)
theorem gk_max {op : Op} {t u : TypeId} (h : gkey op = some [17, t, u]) : ∃ x y, op = .call { callee := .builtin .max, args := #[x, y], argTypes := #[t, u] } := by
  unfold gkey at h
  split at h <;> first | (cases h; done) | skip
  all_goals first | (cases h; exact ⟨_, _, rfl⟩) | (simp at h)
theorem gk_nilCheck {op : Op}  (h : gkey op = some [9]) : ∃ x, op = .nilCheck x := by
  unfold gkey at h
  split at h <;> first | (cases h; done) | skip
  all_goals first | (cases h; exact ⟨_, rfl⟩) | (simp at h)
theorem gk_fieldAddr {op : Op} {t : TypeId} {f : Nat} (h : gkey op = some [7, t, f]) : ∃ x, op = .fieldAddr t x f := by
  unfold gkey at h
  split at h <;> first | (cases h; done) | skip
  all_goals first | (cases h; exact ⟨_, rfl⟩) | (simp at h)

theorem ops3 {ι : Ren} [Sig] {x y z : Value} {l : List Value} (h : LRel ι [x, y, z] l) : ∃ x' y' z', l = [x', y', z'] ∧ VRel ι x x' ∧ VRel ι y y' ∧ VRel ι z z' := by
  match l, h with
  | [], h => exact absurd h.1 (by simp)
  | [_], h => exact absurd h.1 (by simp)
  | [_, _], h => exact absurd h.1 (by simp)
  | [x', y', z'], h => exact ⟨x', y', z', rfl, h.2 0 x x' rfl rfl, h.2 1 y y' rfl rfl, h.2 2 z z' rfl rfl⟩
  | _ :: _ :: _ :: _ :: _, h => exact absurd h.1 (by simp)

variable (k : Kn) {P : Program} {g : Nat} {d0 ng : Option Nat} {r : Value}
theorem GTrue.range {t : TypeId} {x : Value} (h : letI : Sig := k.sig; ∀ ι F w d x', Ask k g d0 ng ι F w d → VRel ι x x' → VStep P (Instr.range t x') ι d F w r ng) : GTrue k P ⟨[13, t], [x], none, g, d0, r, ng⟩ := by
  letI : Sig := k.sig
  intro o hk ev ι F w d hv _ h1 h2 h3 h4
  obtain ⟨a, ho⟩ := gk_range hk
  rw [ho] at hv
  obtain ⟨x', e, hx⟩ := ops1 hv
  simp [Op.operands] at e
  subst e
  obtain ⟨v', w', r1, r2⟩ := h ι F w d _ ⟨h1, h2, h3, h4⟩ hx
  refine ⟨.value v', v', w', ?_, .inl rfl, r2⟩
  unfold execOp
  rw [ho]
  simp only
  rw [Sem.run_bind, r1]
  rfl
theorem GTrue.next  {x : Value} (h : letI : Sig := k.sig; ∀ ι F w d x' ty, Ask k g d0 ng ι F w d → VRel ι x x' → VStep P (Instr.next x' false ty) ι d F w r ng) : GTrue k P ⟨[14, 0], [x], none, g, d0, r, ng⟩ := by
  letI : Sig := k.sig
  intro o hk ev ι F w d hv _ h1 h2 h3 h4
  obtain ⟨a, ho⟩ := gk_next hk
  rw [ho] at hv
  obtain ⟨x', e, hx⟩ := ops1 hv
  simp [Op.operands] at e
  subst e
  obtain ⟨v', w', r1, r2⟩ := h ι F w d _ o.type ⟨h1, h2, h3, h4⟩ hx
  refine ⟨.value v', v', w', ?_, .inl rfl, r2⟩
  unfold execOp
  rw [ho]
  simp only
  rw [Sem.run_bind, r1]
  rfl
theorem GTrue.entry  {x : Value} (h : letI : Sig := k.sig; ∀ ι F w d x', Ask k g d0 ng ι F w d → VRel ι x x' → VStep P (Instr.entry x') ι d F w r ng) : GTrue k P ⟨[15], [x], none, g, d0, r, ng⟩ := by
  letI : Sig := k.sig
  intro o hk ev ι F w d hv _ h1 h2 h3 h4
  obtain ⟨a, ho⟩ := gk_entry hk
  rw [ho] at hv
  obtain ⟨x', e, hx⟩ := ops1 hv
  simp [Op.operands] at e
  subst e
  obtain ⟨v', w', r1, r2⟩ := h ι F w d _ ⟨h1, h2, h3, h4⟩ hx
  refine ⟨.value v', v', w', ?_, .inl rfl, r2⟩
  unfold execOp
  rw [ho]
  simp only
  rw [Sem.run_bind, r1]
  rfl
theorem GTrue.fieldAddr {t : TypeId} {f : Nat} {x : Value} (h : letI : Sig := k.sig; ∀ ι F w d x', Ask k g d0 ng ι F w d → VRel ι x x' → VStep P (Instr.fieldAt t x' f) ι d F w r ng) : GTrue k P ⟨[7, t, f], [x], none, g, d0, r, ng⟩ := by
  letI : Sig := k.sig
  intro o hk ev ι F w d hv _ h1 h2 h3 h4
  obtain ⟨a, ho⟩ := gk_fieldAddr hk
  rw [ho] at hv
  obtain ⟨x', e, hx⟩ := ops1 hv
  simp [Op.operands] at e
  subst e
  obtain ⟨v', w', r1, r2⟩ := h ι F w d _ ⟨h1, h2, h3, h4⟩ hx
  refine ⟨.value v', v', w', ?_, .inl rfl, r2⟩
  unfold execOp
  rw [ho]
  simp only
  rw [Sem.run_bind, r1]
  rfl
theorem GTrue.lookup {t : TypeId} {b : Bool} {n : Nat} (hn : n = cond b 1 0) {x y : Value} (h : letI : Sig := k.sig; ∀ ι F w d x' y', Ask k g d0 ng ι F w d → VRel ι x x' → VRel ι y y' → VStep P (Instr.lookup t x' y' b) ι d F w r ng) : GTrue k P ⟨[5, t, n], [x, y], none, g, d0, r, ng⟩ := by
  letI : Sig := k.sig
  intro o hk ev ι F w d hv _ h1 h2 h3 h4
  obtain ⟨a, b, ho⟩ := gk_lookup hn hk
  rw [ho] at hv
  obtain ⟨x', y', e, hx, hy⟩ := ops2 hv
  simp [Op.operands] at e
  obtain ⟨rfl, rfl⟩ := e
  obtain ⟨v', w', r1, r2⟩ := h ι F w d _ _ ⟨h1, h2, h3, h4⟩ hx hy
  refine ⟨.value v', v', w', ?_, .inl rfl, r2⟩
  unfold execOp
  rw [ho]
  simp only
  rw [Sem.run_bind, r1]
  rfl
theorem GTrue.mapUpdate {t : TypeId} {x y z : Value} (h : letI : Sig := k.sig; ∀ ι F w d x' y' z', Ask k g d0 ng ι F w d → VRel ι x x' → VRel ι y y' → VRel ι z z' → UStep P (Instr.mapUpdate t x' y' z') ι d F w ng) : GTrue k P ⟨[6, t], [x, y, z], none, g, d0, undef, ng⟩ := by
  letI : Sig := k.sig
  intro o hk ev ι F w d hv _ h1 h2 h3 h4
  obtain ⟨a, b, c, ho⟩ := gk_mapUpdate hk
  rw [ho] at hv
  obtain ⟨x', y', z', e, hx, hy, hz⟩ := ops3 hv
  simp [Op.operands] at e
  obtain ⟨rfl, rfl, rfl⟩ := e
  obtain ⟨w', r1, r2⟩ := h ι F w d _ _ _ ⟨h1, h2, h3, h4⟩ hx hy hz
  refine ⟨.skip, undef, w', ?_, .inr ⟨rfl, rfl⟩, r2⟩
  unfold execOp
  rw [ho]
  simp only
  rw [Sem.run_bind, r1]
  rfl
theorem GTrue.delete {t u : TypeId} {x y : Value} (h : letI : Sig := k.sig; ∀ ι F w d x' y' ty, Ask k g d0 ng ι F w d → VRel ι x x' → VRel ι y y' → VStep P (Builtin.delete_ #[t, u] ty #[x', y']) ι d F w r ng) : GTrue k P ⟨[12, t, u], [x, y], none, g, d0, r, ng⟩ := by
  letI : Sig := k.sig
  intro o hk ev ι F w d hv _ h1 h2 h3 h4
  obtain ⟨a, b, ho⟩ := gk_delete hk
  obtain ⟨cs, he⟩ := exec_builtin (ev := ev) ho rfl
  rw [ho] at hv
  obtain ⟨x', y', e, hx, hy⟩ := ops2 hv
  simp [Op.operands, Call.operands] at e
  obtain ⟨rfl, rfl⟩ := e
  obtain ⟨v', w', r1, r2⟩ := h ι F w d _ _ o.type ⟨h1, h2, h3, h4⟩ hx hy
  refine ⟨.value v', v', w', ?_, .inl rfl, r2⟩
  rw [he]
  have hb : builtin .delete #[t, u] o.type cs #[ev a, ev b] = (do pure (Next.value (← Builtin.delete_ #[t, u] o.type #[ev a, ev b]))) := rfl
  simp only [List.map_toArray, List.map_cons, List.map_nil]
  rw [hb]
  rw [Sem.run_bind, r1]
  rfl
theorem GTrue.min {t u : TypeId} {x y : Value} (h : letI : Sig := k.sig; ∀ ι F w d x' y' ty, Ask k g d0 ng ι F w d → VRel ι x x' → VRel ι y y' → VStep P (Builtin.min_ #[t, u] ty #[x', y']) ι d F w r ng) : GTrue k P ⟨[16, t, u], [x, y], none, g, d0, r, ng⟩ := by
  letI : Sig := k.sig
  intro o hk ev ι F w d hv _ h1 h2 h3 h4
  obtain ⟨a, b, ho⟩ := gk_min hk
  obtain ⟨cs, he⟩ := exec_builtin (ev := ev) ho rfl
  rw [ho] at hv
  obtain ⟨x', y', e, hx, hy⟩ := ops2 hv
  simp [Op.operands, Call.operands] at e
  obtain ⟨rfl, rfl⟩ := e
  obtain ⟨v', w', r1, r2⟩ := h ι F w d _ _ o.type ⟨h1, h2, h3, h4⟩ hx hy
  refine ⟨.value v', v', w', ?_, .inl rfl, r2⟩
  rw [he]
  have hb : builtin .min #[t, u] o.type cs #[ev a, ev b] = (do pure (Next.value (← Builtin.min_ #[t, u] o.type #[ev a, ev b]))) := rfl
  simp only [List.map_toArray, List.map_cons, List.map_nil]
  rw [hb]
  rw [Sem.run_bind, r1]
  rfl
theorem GTrue.max {t u : TypeId} {x y : Value} (h : letI : Sig := k.sig; ∀ ι F w d x' y' ty, Ask k g d0 ng ι F w d → VRel ι x x' → VRel ι y y' → VStep P (Builtin.max_ #[t, u] ty #[x', y']) ι d F w r ng) : GTrue k P ⟨[17, t, u], [x, y], none, g, d0, r, ng⟩ := by
  letI : Sig := k.sig
  intro o hk ev ι F w d hv _ h1 h2 h3 h4
  obtain ⟨a, b, ho⟩ := gk_max hk
  obtain ⟨cs, he⟩ := exec_builtin (ev := ev) ho rfl
  rw [ho] at hv
  obtain ⟨x', y', e, hx, hy⟩ := ops2 hv
  simp [Op.operands, Call.operands] at e
  obtain ⟨rfl, rfl⟩ := e
  obtain ⟨v', w', r1, r2⟩ := h ι F w d _ _ o.type ⟨h1, h2, h3, h4⟩ hx hy
  refine ⟨.value v', v', w', ?_, .inl rfl, r2⟩
  rw [he]
  have hb : builtin .max #[t, u] o.type cs #[ev a, ev b] = (do pure (Next.value (← Builtin.max_ #[t, u] o.type #[ev a, ev b]))) := rfl
  simp only [List.map_toArray, List.map_cons, List.map_nil]
  rw [hb]
  rw [Sem.run_bind, r1]
  rfl
end Go.Ev
