/- 'FairBounds' returns true, for every config, L and W, and leaves its arguments as they were. -/
import Derived.Test.YtjcibnfaijdgnaaBnd4
import Derived.Test.YtjcibnfaijdgnaaWorks30
import Derived.Test.YtjcibnfaijdgnaaLaw
namespace Go.Proofs.Ytjcibnfaijdgnaa
open Go.ChangeShapes Go.WideShapes Go.ChangeAt Go.RowKit Go.Deep
set_option linter.unusedVariables false

theorem own : ownKnob Try.prog.godebug = none := by kernel_rfl
theorem laidOut : laidOutB Try.prog = true := by kernel_rfl

/-- A config, by value. -/
theorem open_config {H : Type} {enc : TypeId × Value → H} {W : World} {base b0 : Nat} {spare : Nat → Bool} {held : Bool} {r : Reach} {v : Value} {d : DataW H} {p : List MemPlace}
    (hv : Value.okWide Try.prog W r b0 23 v) (h : DataW.Trod enc Try.prog W base spare held 23 v d p) :
    ∃ a b c e f g : Int, v = .agg #[.int .i64 a, .int .i64 b, .int .i64 c, .int .i64 e, .int .i64 f, .int .i64 g] ∧ (∀ n ∈ [a, b, c, e, f, g], (Lit.int .i64 n).wf = true) := by
  obtain ⟨cs, rfl, hsz, hf⟩ := open_cells Try.underlying23 (by kernel_rfl) (by kernel_rfl) hv h
  have hall : ∀ j, j < 6 → ∃ n : Int, cs[j]? = some (.int .i64 n) ∧ (Lit.int .i64 n).wf = true := by
    intro j hj
    have one : ∀ f : Field, f.type = 3 → (∃ n x y, cs[j]? = some x ∧ DataW.trod enc Try.prog W base spare held n f.type [x] = some y) → ∃ n : Int, cs[j]? = some (.int .i64 n) ∧ (Lit.int .i64 n).wf = true := by
      rintro f hft ⟨n, x, y, hx, ht⟩
      rw [hft] at ht
      obtain ⟨m, hm, _, hw⟩ := DataW.trod_int Try.underlying3 ht
      simp only [List.cons.injEq, and_true] at hm
      exact ⟨m, by rw [hx, hm], hw⟩
    match j, hj with
    | 0, _ => exact one _ rfl (hf 0 _ rfl)
    | 1, _ => exact one _ rfl (hf 1 _ rfl)
    | 2, _ => exact one _ rfl (hf 2 _ rfl)
    | 3, _ => exact one _ rfl (hf 3 _ rfl)
    | 4, _ => exact one _ rfl (hf 4 _ rfl)
    | 5, _ => exact one _ rfl (hf 5 _ rfl)
  obtain ⟨ns, h1, h2, rfl⟩ := agg_ints 6 hsz hall
  match ns, h1 with
  | [a, b, c, e, f, g], _ => exact ⟨a, b, c, e, f, g, rfl, h2⟩

theorem fairBounds_contract (H : Type) (enc : TypeId × Value → H) (W : World) (base : Nat) (args : Array Value) (ds gs : List (DataW H)) (before : List MemPlace)
    (hval : ∀ (j : Nat) t v, Try.f3.params[j]? = some t → args[j]? = some v → Value.okWide Try.prog W .any base t v)
    (hW : DataW.Whole enc Try.prog Try.f3.params.toList Rows.fairBoundsSpec.vars false W args.toList ds gs before) :
    Calls Try.prog 3 args W fun e W' => ∃ v, e = .returned v ∧ Rows.fairBoundsSpec.post enc Try.prog Try.f3 false true false false W args v W' := by
  have hW' := hW
  obtain ⟨p, q, hA0, hV, rfl, hfz, hnd⟩ := hW
  have hA : DataW.TrodAll enc Try.prog W 0 (fun _ => true) true Try.f3.params.toList args.toList ds p := hA0
  rw [Try.params3] at hA hval
  obtain ⟨v0, vs0, d0, ds0, p0, q0, hargs0, rfl, rfl, h0, r0⟩ := trodAll_cons hA
  obtain ⟨v1, vs1, d1, ds1, p1, q1, rfl, rfl, rfl, h1, r1⟩ := trodAll_cons r0
  obtain ⟨v2, vs2, d2, ds2, p2, q2, rfl, rfl, rfl, h2, r2⟩ := trodAll_cons r1
  obtain ⟨rfl, rfl, rfl⟩ := trodAll_nil r2
  obtain rfl : args = #[v0, v1, v2] := by cases args; simp_all
  obtain ⟨a, b, c, e, f, g, rfl, hw⟩ := open_config (hval 0 _ v0 rfl rfl) h0
  obtain ⟨l, rfl, rfl, rfl, wl⟩ := open_int Try.underlying3 (hval 1 _ v1 rfl rfl) h1
  obtain ⟨m, rfl, rfl, rfl, wm⟩ := open_int Try.underlying3 (hval 2 _ v2 rfl rfl) h2
  refine (fairBounds_walk (Lib.hid works_any) a b c e f g l m W (int_bd wl).2 (int_bd wm).2).mono fun x W' ⟨he, hb⟩ => ?_
  subst he
  exact ⟨_, rfl, law_post laidOut hW' rfl (by kernel_rfl) Try.underlying4 rfl (by
    rw [Try.params3]
    intro t ht
    simp only [List.mem_cons, List.not_mem_nil, or_false] at ht
    rcases ht with rfl | rfl | rfl <;> exact ⟨by kernel_rfl, of_decide_eq_true (by kernel_rfl)⟩) hb⟩

set_option maxRecDepth 100000 in
theorem fairBounds_lifted (os : Os) (started : os.Started) (H : Type) (enc : TypeId × Value → H) :
    ReturnsInHanded {} Try.checked os 3 .any (Rows.fairBoundsSpec.pre6 enc Try.prog Try.f3 Rows.fairBoundsRow.domain false) (Rows.fairBoundsSpec.post enc Try.prog Try.f3 false true false false) := by
  refine returnsInHanded_of_change (C := Try.checked) own started (by kernel_rfl) Try.func3
    (ChangeSpec.witness6 (enc := enc) (C := Try.checked) false ⟨#[], #[.agg #[.int .i64 0, .int .i64 0, .int .i64 0, .int .i64 0, .int .i64 0, .int .i64 0], .int .i64 0, .int .i64 0], []⟩ 8 (by kernel_rfl) (by kernel_rfl) (by kernel_rfl) (by kernel_rfl)) ?_
  intro W base args ds gs before hval hW _ _
  exact fairBounds_contract H enc W base args ds gs before hval hW

theorem fairBounds_holds : Rows.FairBoundsSaid :=
  OpenClaim.holds_of_wide 3 Try.f3 rfl rfl rfl rfl rfl rfl rfl ⟨rfl, rfl, rfl, rfl, rfl⟩ rfl rfl rfl rfl rfl (by kernel_rfl) Try.func3 (by kernel_rfl)
    (of_decide_eq_true (by kernel_rfl)) (by unfold Func.isWrapper; first | (rw [if_pos (by decide +kernel)]; kernel_rfl) | (rw [if_neg (by decide +kernel)]; exact ⟨rfl, rfl⟩))
    (fun os started H enc _ => fairBounds_lifted os started H enc)
end Go.Proofs.Ytjcibnfaijdgnaa
