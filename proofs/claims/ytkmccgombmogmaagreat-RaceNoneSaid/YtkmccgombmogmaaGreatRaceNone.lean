/- 'RaceNone' returns true, for all its arguments, and leaves them as they were: by the evaluator. -/
import Derived.Test.YtkmccgombmogmaaGreatLaw
import Derived.Test.YtkmccgombmogmaaGreatRaceRun
import Derived.Test.YtkmccgombmogmaaGreatOpen
namespace Go.Proofs.YtkmccgombmogmaaGreat
open Go.ChangeShapes Go.WideShapes Go.ChangeAt Go.RowKit Go.Deep
set_option linter.unusedVariables false
set_option maxRecDepth 100000

theorem own : ownKnob Tryz.prog.godebug = none := by kernel_rfl
theorem laidOut : laidOutB Tryz.prog = true := by kernel_rfl

/-- A struct of numbers, by value. -/
theorem open_call {H : Type} {enc : TypeId × Value → H} {W : World} {base b0 : Nat} {spare : Nat → Bool} {held : Bool} {r : Reach} {v : Value} {d : DataW H} {p : List MemPlace}
    (hv : Value.okWide Tryz.prog W r b0 26 v) (h : DataW.Trod enc Tryz.prog W base spare held 26 v d p) : ∃ a0 : Int, ∃ a1 : Int, ∃ a2 : Int, v = .agg #[.int .i64 a0, .int .i64 a1, .int .i64 a2] := by
  obtain ⟨cs, rfl, hsz, hf⟩ := open_cells Tryz.underlying26 (by kernel_rfl) (by kernel_rfl) hv h
  obtain ⟨l⟩ := cs
  have hl : l.length = 3 := hsz
  match l, hl with
  | [c0, c1, c2], _ =>
    obtain ⟨n0, y0, z0, hy0, hz0⟩ := hf 0 _ rfl
    cases hy0
    obtain ⟨m0, hm0, _, _⟩ := DataW.trod_int Tryz.underlying3 hz0
    cases hm0
    obtain ⟨n1, y1, z1, hy1, hz1⟩ := hf 1 _ rfl
    cases hy1
    obtain ⟨m1, hm1, _, _⟩ := DataW.trod_int Tryz.underlying3 hz1
    cases hm1
    obtain ⟨n2, y2, z2, hy2, hz2⟩ := hf 2 _ rfl
    cases hy2
    obtain ⟨m2, hm2, _, _⟩ := DataW.trod_int Tryz.underlying3 hz2
    cases hm2
    exact ⟨m0, m1, m2, rfl⟩

theorem raceNone_contract (H : Type) (enc : TypeId × Value → H) (W : World) (base : Nat) (args : Array Value) (ds gs : List (DataW H)) (before : List MemPlace)
    (hval : ∀ (j : Nat) t v, Tryz.f6.params[j]? = some t → args[j]? = some v → Value.okWide Tryz.prog W .any base t v)
    (hW : DataW.Whole enc Tryz.prog Tryz.f6.params.toList Rows.raceNoneSpec.vars false W args.toList ds gs before) :
    Calls Tryz.prog 6 args W fun e W' => ∃ v, e = .returned v ∧ Rows.raceNoneSpec.post enc Tryz.prog Tryz.f6 false true false false W args v W' := by
  have hW' := hW
  obtain ⟨p, q, hA0, hV, rfl, hfz, hnd⟩ := hW
  have hA : DataW.TrodAll enc Tryz.prog W 0 (fun _ => true) true Tryz.f6.params.toList args.toList ds p := hA0
  rw [Tryz.params6] at hA hval
  obtain ⟨v0, vs0, d0, ds0, p0, q0, hargs0, rfl, rfl, h0, r0⟩ := trodAll_cons hA
  obtain ⟨v1, vs1, d1, ds1, p1, q1, rfl, rfl, rfl, h1, r1⟩ := trodAll_cons r0
  obtain ⟨rfl, rfl, rfl⟩ := trodAll_nil r1
  obtain rfl : args = #[v0, v1] := by cases args; simp_all
  obtain ⟨x0, rfl, rfl, rfl, _⟩ := open_int Tryz.underlying3 (hval 0 _ v0 rfl rfl) h0
  obtain ⟨x1, x2, x3, rfl⟩ := open_call (hval 1 _ v1 rfl rfl) h1
  refine (raceNone_any x0 x1 x2 x3  W).mono fun x W' ⟨he, hb⟩ => ?_
  subst he
  exact ⟨_, rfl, law_post laidOut hW' rfl (by kernel_rfl) Tryz.underlying4 rfl (by
    rw [Tryz.params6]
    intro t ht
    simp only [List.mem_cons, List.not_mem_nil, or_false] at ht
    rcases ht with rfl | rfl <;> exact ⟨by kernel_rfl, of_decide_eq_true (by kernel_rfl)⟩) hb⟩

set_option maxRecDepth 100000 in
theorem raceNone_lifted (os : Os) (started : os.Started) (H : Type) (enc : TypeId × Value → H) :
    ReturnsInHanded {} Tryz.checked os 6 .any (Rows.raceNoneSpec.pre6 enc Tryz.prog Tryz.f6 Rows.raceNoneRow.domain false) (Rows.raceNoneSpec.post enc Tryz.prog Tryz.f6 false true false false) := by
  refine returnsInHanded_of_change (C := Tryz.checked) own started (by kernel_rfl) Tryz.func6
    (ChangeSpec.witness6 (enc := enc) (C := Tryz.checked) false ⟨#[], #[.int .i64 0, .agg #[.int .i64 0, .int .i64 0, .int .i64 0]], []⟩ 8 (by kernel_rfl) (by kernel_rfl) (by kernel_rfl) (by kernel_rfl)) ?_
  intro W base args ds gs before hval hW _ _
  exact raceNone_contract H enc W base args ds gs before hval hW

theorem raceNone_holds : Rows.RaceNoneSaid :=
  OpenClaim.holds_of_wide 6 Tryz.f6 rfl rfl rfl rfl rfl rfl rfl ⟨rfl, rfl, rfl, rfl, rfl⟩ rfl rfl rfl rfl rfl (by kernel_rfl) Tryz.func6 (by kernel_rfl)
    (of_decide_eq_true (by kernel_rfl)) (by unfold Func.isWrapper; first | (rw [if_pos (by decide +kernel)]; kernel_rfl) | (rw [if_neg (by decide +kernel)]; exact ⟨rfl, rfl⟩))
    (fun os started H enc _ => raceNone_lifted os started H enc)
end Go.Proofs.YtkmccgombmogmaaGreat
