/- 'WhereNone' returns true, for all its arguments, and leaves them as they were: by the evaluator. -/
import Derived.Test.YtimhpaijbbegaaaLaw
import Derived.Test.YtimhpaijbbegaaaFvD
import Derived.Test.YtimhpaijbbegaaaOpen
namespace Go.Proofs.Ytimhpaijbbegaaa
open Go.ChangeShapes Go.WideShapes Go.ChangeAt Go.RowKit Go.Deep
set_option linter.unusedVariables false
set_option maxRecDepth 100000

theorem mixed_ok : Try.prog.follows .mixedOrders = true := by kernel_rfl
theorem own : ownKnob Try.prog.godebug = none := by kernel_rfl
theorem laidOut : laidOutB Try.prog = true := by kernel_rfl

/-- A struct of numbers, by value. -/
theorem open_config {H : Type} {enc : TypeId × Value → H} {W : World} {base b0 : Nat} {spare : Nat → Bool} {held : Bool} {r : Reach} {v : Value} {d : DataW H} {p : List MemPlace}
    (hv : Value.okWide Try.prog W r b0 24 v) (h : DataW.Trod enc Try.prog W base spare held 24 v d p) : ∃ a0 : Int, ∃ a1 : Int, ∃ a2 : Int, ∃ a3 : Int, ∃ a4 : Int, ∃ a5 : Int, v = .agg #[.int .i64 a0, .int .i64 a1, .int .i64 a2, .int .i64 a3, .int .i64 a4, .int .i64 a5] := by
  obtain ⟨cs, rfl, hsz, hf⟩ := open_cells Try.underlying24 (by kernel_rfl) (by kernel_rfl) hv h
  obtain ⟨l⟩ := cs
  have hl : l.length = 6 := hsz
  match l, hl with
  | [c0, c1, c2, c3, c4, c5], _ =>
    obtain ⟨n0, y0, z0, hy0, hz0⟩ := hf 0 _ rfl
    cases hy0
    obtain ⟨m0, hm0, _, _⟩ := DataW.trod_int Try.underlying3 hz0
    cases hm0
    obtain ⟨n1, y1, z1, hy1, hz1⟩ := hf 1 _ rfl
    cases hy1
    obtain ⟨m1, hm1, _, _⟩ := DataW.trod_int Try.underlying3 hz1
    cases hm1
    obtain ⟨n2, y2, z2, hy2, hz2⟩ := hf 2 _ rfl
    cases hy2
    obtain ⟨m2, hm2, _, _⟩ := DataW.trod_int Try.underlying3 hz2
    cases hm2
    obtain ⟨n3, y3, z3, hy3, hz3⟩ := hf 3 _ rfl
    cases hy3
    obtain ⟨m3, hm3, _, _⟩ := DataW.trod_int Try.underlying3 hz3
    cases hm3
    obtain ⟨n4, y4, z4, hy4, hz4⟩ := hf 4 _ rfl
    cases hy4
    obtain ⟨m4, hm4, _, _⟩ := DataW.trod_int Try.underlying3 hz4
    cases hm4
    obtain ⟨n5, y5, z5, hy5, hz5⟩ := hf 5 _ rfl
    cases hy5
    obtain ⟨m5, hm5, _, _⟩ := DataW.trod_int Try.underlying3 hz5
    cases hm5
    exact ⟨m0, m1, m2, m3, m4, m5, rfl⟩

theorem whereNone_runs (x0 : Int) (x1 : Int) (x2 : Int) (x3 : Int) (x4 : Int) (x5 : Int) (x6 : Int) : Ev.withB Try.prog (fun B => Ev.isTrue (@Ev.fcallF Ev.noSig B (@Ev.fev Ev.noSig B 200) 4 [.int .i64 x0, .agg #[.int .i64 x1, .int .i64 x2, .int .i64 x3, .int .i64 x4, .int .i64 x5, .int .i64 x6]] Ev.s0)) = true := by kernel_rfl
theorem whereNone_any (x0 : Int) (x1 : Int) (x2 : Int) (x3 : Int) (x4 : Int) (x5 : Int) (x6 : Int) (w : World) : Calls Try.prog 4 #[.int .i64 x0, .agg #[.int .i64 x1, .int .i64 x2, .int .i64 x3, .int .i64 x4, .int .i64 x5, .int .i64 x6]] w fun e w' => e = .returned (.bool true) ∧ Below w.heap.size w w' :=
  @Ev.fast_bool Ev.noSig _ Try.codeOk (@Ev.noCal Ev.noSig _) mixed_ok 200 _ _ _ (whereNone_runs x0 x1 x2 x3 x4 x5 x6) (@flatArgs Ev.noSig _ rfl) w

theorem whereNone_contract (H : Type) (enc : TypeId × Value → H) (W : World) (base : Nat) (args : Array Value) (ds gs : List (DataW H)) (before : List MemPlace)
    (hval : ∀ (j : Nat) t v, Try.f4.params[j]? = some t → args[j]? = some v → Value.okWide Try.prog W .any base t v)
    (hW : DataW.Whole enc Try.prog Try.f4.params.toList Rows.whereNoneSpec.vars false W args.toList ds gs before) :
    Calls Try.prog 4 args W fun e W' => ∃ v, e = .returned v ∧ Rows.whereNoneSpec.post enc Try.prog Try.f4 false true false false W args v W' := by
  have hW' := hW
  obtain ⟨p, q, hA0, hV, rfl, hfz, hnd⟩ := hW
  have hA : DataW.TrodAll enc Try.prog W 0 (fun _ => true) true Try.f4.params.toList args.toList ds p := hA0
  rw [Try.params4] at hA hval
  obtain ⟨v0, vs0, d0, ds0, p0, q0, hargs0, rfl, rfl, h0, r0⟩ := trodAll_cons hA
  obtain ⟨v1, vs1, d1, ds1, p1, q1, rfl, rfl, rfl, h1, r1⟩ := trodAll_cons r0
  obtain ⟨rfl, rfl, rfl⟩ := trodAll_nil r1
  obtain rfl : args = #[v0, v1] := by cases args; simp_all
  obtain ⟨x0, rfl, rfl, rfl, _⟩ := open_int Try.underlying3 (hval 0 _ v0 rfl rfl) h0
  obtain ⟨x1, x2, x3, x4, x5, x6, rfl⟩ := open_config (hval 1 _ v1 rfl rfl) h1
  refine (whereNone_any x0 x1 x2 x3 x4 x5 x6  W).mono fun x W' ⟨he, hb⟩ => ?_
  subst he
  exact ⟨_, rfl, law_post laidOut hW' rfl (by kernel_rfl) Try.underlying4 rfl (by
    rw [Try.params4]
    intro t ht
    simp only [List.mem_cons, List.not_mem_nil, or_false] at ht
    rcases ht with rfl | rfl <;> exact ⟨by kernel_rfl, of_decide_eq_true (by kernel_rfl)⟩) hb⟩

set_option maxRecDepth 100000 in
theorem whereNone_lifted (os : Os) (started : os.Started) (H : Type) (enc : TypeId × Value → H) :
    ReturnsInHanded {} Try.checked os 4 .any (Rows.whereNoneSpec.pre6 enc Try.prog Try.f4 Rows.whereNoneRow.domain false) (Rows.whereNoneSpec.post enc Try.prog Try.f4 false true false false) := by
  refine returnsInHanded_of_change (C := Try.checked) own started (by kernel_rfl) Try.func4
    (ChangeSpec.witness6 (enc := enc) (C := Try.checked) false ⟨#[], #[.int .i64 0, .agg #[.int .i64 0, .int .i64 0, .int .i64 0, .int .i64 0, .int .i64 0, .int .i64 0]], []⟩ 8 (by kernel_rfl) (by kernel_rfl) (by kernel_rfl) (by kernel_rfl)) ?_
  intro W base args ds gs before hval hW _ _
  exact whereNone_contract H enc W base args ds gs before hval hW

theorem whereNone_holds : Rows.WhereNoneSaid :=
  OpenClaim.holds_of_wide 4 Try.f4 rfl rfl rfl rfl rfl rfl rfl ⟨rfl, rfl, rfl, rfl, rfl⟩ rfl rfl rfl rfl rfl (by kernel_rfl) Try.func4 (by kernel_rfl)
    (of_decide_eq_true (by kernel_rfl)) (by unfold Func.isWrapper; first | (rw [if_pos (by decide +kernel)]; kernel_rfl) | (rw [if_neg (by decide +kernel)]; exact ⟨rfl, rfl⟩))
    (fun os started H enc _ => whereNone_lifted os started H enc)
end Go.Proofs.Ytimhpaijbbegaaa
