/- Rows by kinds of operations: what each must say, as a run of the model's step. -/
import Derived.Test.YtjcibnfaijdgnaaGhb
namespace Go.Ev
open Go.RowKit
set_option linter.unusedVariables false
set_option linter.unusedSimpArgs false
set_option linter.unusedSectionVars false

theorem gk_load {op : Op} {t : TypeId} (h : gkey op = some [1, t]) : ∃ x, op = .load t x := by
  unfold gkey at h
  split at h <;> first | (cases h; done) | skip
  all_goals first | (cases h; exact ⟨_, rfl⟩) | (simp at h)
theorem gk_store {op : Op} {t : TypeId} (h : gkey op = some [2, t]) : ∃ x y, op = .store t x y := by
  unfold gkey at h
  split at h <;> first | (cases h; done) | skip
  all_goals first | (cases h; exact ⟨_, _, rfl⟩) | (simp at h)
theorem gk_index {op : Op} {t : TypeId} (h : gkey op = some [3, t]) : ∃ x y, op = .indexAddr t x y := by
  unfold gkey at h
  split at h <;> first | (cases h; done) | skip
  all_goals first | (cases h; exact ⟨_, _, rfl⟩) | (simp at h)
theorem gk_slice_lo {op : Op} {t : TypeId} (h : gkey op = some [4, t, 1, 0, 0]) : ∃ x lo, op = .slice t x (some lo) none none := by
  unfold gkey at h
  split at h <;> first | (cases h; done) | skip
  all_goals first | (simp at h; done) | skip
  rename_i t' x lo hi mx
  cases lo <;> cases hi <;> cases mx <;> simp at h
  subst h
  exact ⟨_, _, rfl⟩
theorem gk_slice_hi {op : Op} {t : TypeId} (h : gkey op = some [4, t, 0, 1, 0]) : ∃ x hi, op = .slice t x none (some hi) none := by
  unfold gkey at h
  split at h <;> first | (cases h; done) | skip
  all_goals first | (simp at h; done) | skip
  rename_i t' x lo hi mx
  cases lo <;> cases hi <;> cases mx <;> simp at h
  subst h
  exact ⟨_, _, rfl⟩
theorem gk_len {op : Op} {t : TypeId} (h : gkey op = some [10, t]) : ∃ x, op = .call { callee := .builtin .len, args := #[x], argTypes := #[t] } := by
  unfold gkey at h
  split at h <;> first | (cases h; done) | skip
  all_goals first | (cases h; exact ⟨_, rfl⟩) | (simp at h)
theorem gk_append {op : Op} {t u : TypeId} (h : gkey op = some [11, t, u]) : ∃ x y, op = .call { callee := .builtin .append, args := #[x, y], argTypes := #[t, u] } := by
  unfold gkey at h
  split at h <;> first | (cases h; done) | skip
  all_goals first | (cases h; exact ⟨_, _, rfl⟩) | (simp at h)

section
variable [Sig]
/-- A step that gives a value. -/
def VStep (P : Program) (m : Sem Value) (ι : Ren) (d : Nat) (F : Nat → Prop) (w : World) (r : Value) (ng : Option Nat) : Prop := ∃ v' w', m.run P w = .ok v' w' ∧ GEnd ι d F w r ng v' w'
def UStep (P : Program) (m : Sem Unit) (ι : Ren) (d : Nat) (F : Nat → Prop) (w : World) (ng : Option Nat) : Prop := ∃ w', m.run P w = .ok () w' ∧ GEnd ι d F w undef ng undef w'
end

/-- What holds when a row is asked. -/
structure Ask (k : Kn) (g : Nat) (d0 : Option Nat) (ng : Option Nat) (ι : Ren) (F : Nat → Prop) (w : World) (d : Nat) : Prop where
  st : ∃ a, k.gs[g]? = some a ∧ a.p ι F w
  lt : ∀ j, F j → j < w.heap.size
  fresh : ι d = none ∨ ng = none
  name : ∀ y, d0 = some y → y = d

theorem ops1 {ι : Ren} [Sig] {x : Value} {l : List Value} (h : LRel ι [x] l) : ∃ x', l = [x'] ∧ VRel ι x x' := by
  match l, h with
  | [], h => exact absurd h.1 (by simp)
  | [x'], h => exact ⟨x', rfl, h.2 0 x x' rfl rfl⟩
  | _ :: _ :: _, h => exact absurd h.1 (by simp)
theorem ops2 {ι : Ren} [Sig] {x y : Value} {l : List Value} (h : LRel ι [x, y] l) : ∃ x' y', l = [x', y'] ∧ VRel ι x x' ∧ VRel ι y y' := by
  match l, h with
  | [], h => exact absurd h.1 (by simp)
  | [_], h => exact absurd h.1 (by simp)
  | [x', y'], h => exact ⟨x', y', rfl, h.2 0 x x' rfl rfl, h.2 1 y y' rfl rfl⟩
  | _ :: _ :: _ :: _, h => exact absurd h.1 (by simp)

variable (k : Kn) {P : Program} {g : Nat} {d0 ng : Option Nat} {r : Value}
theorem GTrue.load {t : TypeId} {x : Value} (h : letI : Sig := k.sig; ∀ ι F w d x', Ask k g d0 ng ι F w d → VRel ι x x' → VStep P (Instr.loadAt t x') ι d F w r ng) : GTrue k P ⟨[1, t], [x], none, g, d0, r, ng⟩ := by
  letI : Sig := k.sig
  intro o hk ev ι F w d hv _ h1 h2 h3 h4
  obtain ⟨a, ho⟩ := gk_load hk
  rw [ho] at hv
  obtain ⟨x', e, hx⟩ := ops1 hv
  simp [Op.operands] at e
  subst e
  obtain ⟨v', w', r1, r2⟩ := h ι F w d _ ⟨h1, h2, h3, h4⟩ hx
  refine ⟨.value v', v', w', ?_, .inl rfl, r2⟩
  unfold execOp
  rw [ho]
  simp only
  rw [Sem.run_bind, r1]
  rfl
theorem GTrue.store {t : TypeId} {x y : Value} (h : letI : Sig := k.sig; ∀ ι F w d x' y', Ask k g d0 ng ι F w d → VRel ι x x' → VRel ι y y' → UStep P (Instr.storeAt t x' y') ι d F w ng) : GTrue k P ⟨[2, t], [x, y], none, g, d0, undef, ng⟩ := by
  letI : Sig := k.sig
  intro o hk ev ι F w d hv _ h1 h2 h3 h4
  obtain ⟨a, b, ho⟩ := gk_store hk
  rw [ho] at hv
  obtain ⟨x', y', e, hx, hy⟩ := ops2 hv
  simp [Op.operands] at e
  obtain ⟨rfl, rfl⟩ := e
  obtain ⟨w', r1, r2⟩ := h ι F w d _ _ ⟨h1, h2, h3, h4⟩ hx hy
  refine ⟨.skip, undef, w', ?_, .inr ⟨rfl, rfl⟩, r2⟩
  unfold execOp
  rw [ho]
  simp only
  rw [Sem.run_bind, r1]
  rfl
theorem GTrue.index {t : TypeId} {x y : Value} (h : letI : Sig := k.sig; ∀ ι F w d x' y', Ask k g d0 ng ι F w d → VRel ι x x' → VRel ι y y' → VStep P (Instr.indexAt t x' y') ι d F w r ng) : GTrue k P ⟨[3, t], [x, y], none, g, d0, r, ng⟩ := by
  letI : Sig := k.sig
  intro o hk ev ι F w d hv _ h1 h2 h3 h4
  obtain ⟨a, b, ho⟩ := gk_index hk
  rw [ho] at hv
  obtain ⟨x', y', e, hx, hy⟩ := ops2 hv
  simp [Op.operands] at e
  obtain ⟨rfl, rfl⟩ := e
  obtain ⟨v', w', r1, r2⟩ := h ι F w d _ _ ⟨h1, h2, h3, h4⟩ hx hy
  refine ⟨.value v', v', w', ?_, .inl rfl, r2⟩
  unfold execOp
  rw [ho]
  simp only
  rw [Sem.run_bind, r1]
  rfl
theorem GTrue.sliceLo {t : TypeId} {x y : Value} (h : letI : Sig := k.sig; ∀ ι F w d x' y', Ask k g d0 ng ι F w d → VRel ι x x' → VRel ι y y' → VStep P (Instr.sliceAt t x' (some y') none none) ι d F w r ng) : GTrue k P ⟨[4, t, 1, 0, 0], [x, y], none, g, d0, r, ng⟩ := by
  letI : Sig := k.sig
  intro o hk ev ι F w d hv _ h1 h2 h3 h4
  obtain ⟨a, b, ho⟩ := gk_slice_lo hk
  rw [ho] at hv
  obtain ⟨x', y', e, hx, hy⟩ := ops2 hv
  simp [Op.operands] at e
  obtain ⟨rfl, rfl⟩ := e
  obtain ⟨v', w', r1, r2⟩ := h ι F w d _ _ ⟨h1, h2, h3, h4⟩ hx hy
  refine ⟨.value v', v', w', ?_, .inl rfl, r2⟩
  unfold execOp
  rw [ho]
  simp only [Option.map]
  rw [Sem.run_bind, r1]
  rfl
theorem GTrue.sliceHi {t : TypeId} {x y : Value} (h : letI : Sig := k.sig; ∀ ι F w d x' y', Ask k g d0 ng ι F w d → VRel ι x x' → VRel ι y y' → VStep P (Instr.sliceAt t x' none (some y') none) ι d F w r ng) : GTrue k P ⟨[4, t, 0, 1, 0], [x, y], none, g, d0, r, ng⟩ := by
  letI : Sig := k.sig
  intro o hk ev ι F w d hv _ h1 h2 h3 h4
  obtain ⟨a, b, ho⟩ := gk_slice_hi hk
  rw [ho] at hv
  obtain ⟨x', y', e, hx, hy⟩ := ops2 hv
  simp [Op.operands] at e
  obtain ⟨rfl, rfl⟩ := e
  obtain ⟨v', w', r1, r2⟩ := h ι F w d _ _ ⟨h1, h2, h3, h4⟩ hx hy
  refine ⟨.value v', v', w', ?_, .inl rfl, r2⟩
  unfold execOp
  rw [ho]
  simp only [Option.map]
  rw [Sem.run_bind, r1]
  rfl
theorem exec_builtin {ev : Operand → Value} {o : Oper} {c : Call} {b : Builtin} (ho : o.op = .call c) (hc : c.callee = .builtin b) : ∃ cs, execOp ev o = builtin b c.argTypes o.type cs (c.args.map ev) := by
  unfold execOp
  rw [ho]
  simp only
  unfold resolve
  rw [hc]
  exact ⟨_, rfl⟩
theorem GTrue.len {t : TypeId} {x : Value} (h : letI : Sig := k.sig; ∀ ι F w d x' ty, Ask k g d0 ng ι F w d → VRel ι x x' → VStep P (Builtin.len_ #[t] ty #[x']) ι d F w r ng) : GTrue k P ⟨[10, t], [x], none, g, d0, r, ng⟩ := by
  letI : Sig := k.sig
  intro o hk ev ι F w d hv _ h1 h2 h3 h4
  obtain ⟨a, ho⟩ := gk_len hk
  obtain ⟨cs, he⟩ := exec_builtin (ev := ev) ho rfl
  rw [ho] at hv
  obtain ⟨x', e, hx⟩ := ops1 hv
  simp [Op.operands, Call.operands] at e
  subst e
  obtain ⟨v', w', r1, r2⟩ := h ι F w d _ o.type ⟨h1, h2, h3, h4⟩ hx
  refine ⟨.value v', v', w', ?_, .inl rfl, r2⟩
  rw [he]
  have hb : builtin .len #[t] o.type cs #[ev a] = (do pure (Next.value (← Builtin.len_ #[t] o.type #[ev a]))) := rfl
  simp only [List.map_toArray, List.map_cons, List.map_nil]
  rw [hb]
  rw [Sem.run_bind, r1]
  rfl
theorem GTrue.append {t u : TypeId} {x : Value} {sz : Nat} {c : List Value} (h : letI : Sig := k.sig; ∀ ι F w d x' y' c' m ty, Ask k g d0 ng ι F w d → VRel ι x x' → LRel ι c c' → c.length = m * sz → c.all oneCell = true →
      (∀ w' : World, w'.heap = w.heap → (Builtin.firstCells sz m y').run P w' = .ok c'.toArray w') → (∀ w' : World, (Builtin.lenOf y').run P w' = .ok m w') → VStep P (Builtin.append_ #[t, u] ty #[x', y']) ι d F w r ng) : GTrue k P ⟨[11, t, u], [x], some (sz, 1, c), g, d0, r, ng⟩ := by
  letI : Sig := k.sig
  intro o hk ev ι F w d hv hs h1 h2 h3 h4
  obtain ⟨a, b, ho⟩ := gk_append hk
  obtain ⟨cs, he⟩ := exec_builtin (ev := ev) ho rfl
  rw [ho] at hv hs
  obtain ⟨x', e, hx⟩ := ops1 hv
  obtain ⟨y2, c', m, q1, q2, q3, q4, q5, q6⟩ := hs sz 1 c rfl
  simp [Op.operands, Call.operands] at e q1
  subst e
  subst q1
  obtain ⟨v', w', r1, r2⟩ := h ι F w d _ _ c'.toList m o.type ⟨h1, h2, h3, h4⟩ hx q2 q3 q4 (by simpa using q5) q6
  refine ⟨.value v', v', w', ?_, .inl rfl, r2⟩
  rw [he]
  have hb : builtin .append #[t, u] o.type cs #[ev a, ev b] = (do pure (Next.value (← Builtin.append_ #[t, u] o.type #[ev a, ev b]))) := rfl
  simp only [List.map_toArray, List.map_cons, List.map_nil]
  rw [hb]
  rw [Sem.run_bind, r1]
  rfl
end Go.Ev
