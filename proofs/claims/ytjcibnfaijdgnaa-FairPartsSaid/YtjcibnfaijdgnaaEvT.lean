/- The evaluator, part twenty: an operation looks at its operands alone. -/
import Derived.Test.YtjcibnfaijdgnaaEvS
namespace Go.Ev
open Go.RowKit
set_option linter.unusedVariables false
set_option linter.unusedSimpArgs false
set_option linter.unusedSectionVars false
variable [Sig]

theorem evs_congr {a b : Act} {xs : Array Operand} (h : ∀ x ∈ xs, a.eval x = b.eval x) : evs a xs = evs b xs := Array.map_congr_left h
theorem evp_congr {a b : Act} {ps : Array (Nat × Operand)} (h : ∀ x ∈ ps.map (·.2), a.eval x = b.eval x) : evp a ps = evp b ps :=
  Array.map_congr_left fun p hm => by
    obtain ⟨i, x⟩ := p
    simp only [h x (Array.mem_map.2 ⟨(i, x), hm, rfl⟩)]

theorem aFlat_congr {P : Program} {a b : Act} {o : Oper} (h : ∀ x ∈ o.op.operands, a.eval x = b.eval x) (s : St) : aFlat P a o s = aFlat P b o s := by
  unfold aFlat
  cases hf : flatOp o.op with
  | false => simp
  | true =>
    have hs : ∀ cs b, o.op ≠ .select cs b := by
      intro cs b e
      rw [e] at hf
      cases hf
    rw [execOp_congr o hs h]
    have ha : o.op.operands.toList.all (fun x => opdOk x && flatN 5 (a.eval x)) = o.op.operands.toList.all (fun x => opdOk x && flatN 5 (b.eval x)) := by
      rw [Bool.eq_iff_iff, List.all_eq_true, List.all_eq_true]
      constructor
      · intro hh x hx; rw [← h x (by simpa using hx)]; exact hh x hx
      · intro hh x hx; rw [h x (by simpa using hx)]; exact hh x hx
    rw [ha]

theorem aCall_congr {P : Program} {a b : Act} {c : Call} (ty : TypeId) (h : ∀ x ∈ c.operands, a.eval x = b.eval x) (s : St) : aCall P a c ty s = aCall P b c ty s := by
  have hargs : ∀ x ∈ c.args, a.eval x = b.eval x := fun x hx => h x (by simp [Call.operands, hx])
  have he : evs a c.args = evs b c.args := evs_congr hargs
  have hl : ∀ x ∈ c.args.toList, a.eval x = b.eval x := fun x hx => hargs x (by simpa using hx)
  unfold aCall
  cases hc : c.callee with
  | value f => have hf : a.eval f = b.eval f := h f (by simp [Call.operands, hc]); simp only [hf, he]
  | invoke r m => have hr : a.eval r = b.eval r := h r (by simp [Call.operands, hc]); simp only [hr, he]
  | builtin bi =>
    dsimp only
    generalize c.args.toList = l at hl
    generalize c.argTypes.toList = ts
    have e2 : ∀ x y, l = [x, y] → a.eval x = b.eval x ∧ a.eval y = b.eval y := by
      intro x y e
      rw [e] at hl
      exact ⟨hl x (by simp), hl y (by simp)⟩
    have e1 : ∀ x, l = [x] → a.eval x = b.eval x := by
      intro x e
      rw [e] at hl
      exact hl x (by simp)
    match l, ts with
    | [], ts => cases bi <;> rfl
    | [x], ts =>
      have e := e1 x rfl
      rcases ts with _ | ⟨t, _ | ⟨u, r⟩⟩ <;> cases bi <;> first | rfl | simp only [e]
    | [x, y], ts =>
      have e := (e2 x y rfl).1
      have e' := (e2 x y rfl).2
      rcases ts with _ | ⟨t, _ | ⟨u, _ | ⟨v, r⟩⟩⟩ <;> cases bi <;> first | rfl | simp only [e, e']
    | x :: y :: z :: r, ts => cases bi <;> rfl

theorem optMap_eval {a b : Act} {x : Option Operand} (h : ∀ y ∈ x.toList, a.eval y = b.eval y) : x.map a.eval = x.map b.eval := by
  cases x with
  | none => rfl
  | some y => simp only [Option.map_some, h y (by simp)]

theorem aexec_congr {P : Program} {a b : Act} (o : Oper) (h : ∀ x ∈ o.op.operands, a.eval x = b.eval x) (s : St) : aexec P a o s = aexec P b o s := by
  have hfl : aFlat P a o s = aFlat P b o s := aFlat_congr h s
  obtain ⟨dst, op, ty, pos, after, guard⟩ := o
  cases op <;> simp only [Op.operands] at h <;> simp only [aexec]
  case build t ps => rw [evp_congr (fun x hx => h x (by simpa using hx))]
  case buildSlice t n ps => rw [evp_congr (fun x hx => h x (by simpa using hx))]
  case makeFunc fn first captured =>
    cases fn with
    | func f =>
      simp only
      rw [evs_congr (xs := first) fun x hx => h x (by simp [hx]), evs_congr (xs := captured) fun x hx => h x (by simp [hx])]
    | _ => rfl
  case call c => rw [hfl, aCall_congr ty h s]
  case makeMap t r =>
    cases r with
    | none => rfl
    | some x => simp only [h x (by simp)]
  case slice t x lo hi mx =>
    have hx : a.eval x = b.eval x := h x (by simp)
    have hlo := optMap_eval (a := a) (b := b) (x := lo) (fun y hy => h y (by simp; simp at hy; simp [hy]))
    have hhi := optMap_eval (a := a) (b := b) (x := hi) (fun y hy => h y (by simp; simp at hy; simp [hy]))
    have hmx := optMap_eval (a := a) (b := b) (x := mx) (fun y hy => h y (by simp; simp at hy; simp [hy]))
    rw [hx, hlo, hhi, hmx]
  case binOp op t x y yt => rw [hfl, h x (by simp), h y (by simp)]
  case unOp op t x => rw [hfl, h x (by simp)]
  case convert t u x => rw [hfl, h x (by simp)]
  case move x => rw [h x (by simp)]
  case assign x => rw [h x (by simp)]
  case box t x => rw [h x (by simp)]
  case load t x => rw [h x (by simp)]
  case nilCheck x => rw [h x (by simp)]
  case makeInterface t x => rw [h x (by simp)]
  case fieldAddr t x f => rw [h x (by simp)]
  case field t x f => rw [h x (by simp)]
  case range t x => rw [h x (by simp)]
  case next x str => rw [h x (by simp)]
  case entry x => rw [h x (by simp)]
  case typeAssert x t u ok => rw [h x (by simp)]
  case extract x i => rw [h x (by simp)]
  case store t x y => rw [h x (by simp), h y (by simp)]
  case indexAddr t x i => rw [h x (by simp), h i (by simp)]
  case index t x i => rw [h x (by simp), h i (by simp)]
  case makeSlice t l c => rw [h l (by simp), h c (by simp)]
  case lookup t m k ok => rw [h m (by simp), h k (by simp)]
  case pick c x y => rw [h c (by simp), h x (by simp), h y (by simp)]
  case mapUpdate t m k v => rw [h m (by simp), h k (by simp), h v (by simp)]
  case insert t m k v => rw [h m (by simp), h k (by simp), h v (by simp)]
  case mapEntry t m k => rw [h m (by simp), h k (by simp)]
  case entryStore t m st v => rw [h m (by simp), h st (by simp), h v (by simp)]

theorem ares_congr {P : Program} {call : Caller} {a b : Act} (o : Oper) (h : ∀ x ∈ o.op.operands, a.eval x = b.eval x) (s : St) : ares P call a o s = ares P call b o s := by
  have e : gvals a o.op = gvals b o.op := by
    unfold gvals
    exact List.map_congr_left (fun x hx => h x (by simpa using hx))
  unfold ares agops
  rw [aexec_congr o h s, e]
end Go.Ev
