/- 'ActBytes' returns true, for all its arguments, and leaves them as they were: by the evaluator. -/
import Derived.Test.YtankbefdlbcdnaaLaw
import Derived.Test.YtankbefdlbcdnaaBytes
import Derived.Test.YtankbefdlbcdnaaOpen
namespace Go.Proofs.Ytankbefdlbcdnaa
open Go.ChangeShapes Go.WideShapes Go.ChangeAt Go.RowKit Go.Deep
set_option linter.unusedVariables false
set_option maxRecDepth 100000

theorem own : ownKnob Try.prog.godebug = none := by kernel_rfl
theorem laidOut : laidOutB Try.prog = true := by kernel_rfl

/-- A struct of numbers, by value. -/
theorem open_act {H : Type} {enc : TypeId × Value → H} {W : World} {base b0 : Nat} {spare : Nat → Bool} {held : Bool} {r : Reach} {v : Value} {d : DataW H} {p : List MemPlace}
    (hv : Value.okWide Try.prog W r b0 45 v) (h : DataW.Trod enc Try.prog W base spare held 45 v d p) : ∃ a0 : Int, ∃ a1 : Int, v = .agg #[.int .i64 a0, .int .i64 a1] := by
  obtain ⟨cs, rfl, hsz, hf⟩ := open_cells Try.underlying45 (by kernel_rfl) (by kernel_rfl) hv h
  obtain ⟨l⟩ := cs
  have hl : l.length = 2 := hsz
  match l, hl with
  | [c0, c1], _ =>
    obtain ⟨n0, y0, z0, hy0, hz0⟩ := hf 0 _ rfl
    cases hy0
    obtain ⟨m0, hm0, _, _⟩ := DataW.trod_int Try.underlying3 hz0
    cases hm0
    obtain ⟨n1, y1, z1, hy1, hz1⟩ := hf 1 _ rfl
    cases hy1
    obtain ⟨m1, hm1, _, _⟩ := DataW.trod_int Try.underlying3 hz1
    cases hm1
    exact ⟨m0, m1, rfl⟩

/-- A struct of numbers, by value. -/
theorem open_result {H : Type} {enc : TypeId × Value → H} {W : World} {base b0 : Nat} {spare : Nat → Bool} {held : Bool} {r : Reach} {v : Value} {d : DataW H} {p : List MemPlace}
    (hv : Value.okWide Try.prog W r b0 41 v) (h : DataW.Trod enc Try.prog W base spare held 41 v d p) : ∃ a0 : Int, ∃ a1 : Int, v = .agg #[.int .i64 a0, .int .i64 a1] := by
  obtain ⟨cs, rfl, hsz, hf⟩ := open_cells Try.underlying41 (by kernel_rfl) (by kernel_rfl) hv h
  obtain ⟨l⟩ := cs
  have hl : l.length = 2 := hsz
  match l, hl with
  | [c0, c1], _ =>
    obtain ⟨n0, y0, z0, hy0, hz0⟩ := hf 0 _ rfl
    cases hy0
    obtain ⟨m0, hm0, _, _⟩ := DataW.trod_int Try.underlying3 hz0
    cases hm0
    obtain ⟨n1, y1, z1, hy1, hz1⟩ := hf 1 _ rfl
    cases hy1
    obtain ⟨m1, hm1, _, _⟩ := DataW.trod_int Try.underlying3 hz1
    cases hm1
    exact ⟨m0, m1, rfl⟩

theorem actBytes_contract (H : Type) (enc : TypeId × Value → H) (W : World) (base : Nat) (args : Array Value) (ds gs : List (DataW H)) (before : List MemPlace)
    (hval : ∀ (j : Nat) t v, Try.f4.params[j]? = some t → args[j]? = some v → Value.okWide Try.prog W .any base t v)
    (hW : DataW.Whole enc Try.prog Try.f4.params.toList Rows.actBytesSpec.vars false W args.toList ds gs before) :
    Calls Try.prog 4 args W fun e W' => ∃ v, e = .returned v ∧ Rows.actBytesSpec.post enc Try.prog Try.f4 false true false false W args v W' := by
  have hW' := hW
  obtain ⟨p, q, hA0, hV, rfl, hfz, hnd⟩ := hW
  have hA : DataW.TrodAll enc Try.prog W 0 (fun _ => true) true Try.f4.params.toList args.toList ds p := hA0
  rw [Try.params4] at hA hval
  obtain ⟨v0, vs0, d0, ds0, p0, q0, hargs0, rfl, rfl, h0, r0⟩ := trodAll_cons hA
  obtain ⟨v1, vs1, d1, ds1, p1, q1, rfl, rfl, rfl, h1, r1⟩ := trodAll_cons r0
  obtain ⟨v2, vs2, d2, ds2, p2, q2, rfl, rfl, rfl, h2, r2⟩ := trodAll_cons r1
  obtain ⟨rfl, rfl, rfl⟩ := trodAll_nil r2
  obtain rfl : args = #[v0, v1, v2] := by cases args; simp_all
  obtain ⟨x0, rfl, rfl, rfl, bx0⟩ := open_int Try.underlying5 (hval 0 _ v0 rfl rfl) h0
  have bx0 := u8_bd bx0
  obtain ⟨x1, x2, rfl⟩ := open_act (hval 1 _ v1 rfl rfl) h1
  obtain ⟨x3, x4, rfl⟩ := open_result (hval 2 _ v2 rfl rfl) h2
  refine (actBytes_any x0 x1 x2 x3 x4 bx0 W).mono fun x W' ⟨he, hb⟩ => ?_
  subst he
  exact ⟨_, rfl, law_post laidOut hW' rfl (by kernel_rfl) Try.underlying4 rfl (by
    rw [Try.params4]
    intro t ht
    simp only [List.mem_cons, List.not_mem_nil, or_false] at ht
    rcases ht with rfl | rfl | rfl <;> exact ⟨by kernel_rfl, of_decide_eq_true (by kernel_rfl)⟩) hb⟩

set_option maxRecDepth 100000 in
theorem actBytes_lifted (os : Os) (started : os.Started) (H : Type) (enc : TypeId × Value → H) :
    ReturnsInHanded {} Try.checked os 4 .any (Rows.actBytesSpec.pre6 enc Try.prog Try.f4 Rows.actBytesRow.domain false) (Rows.actBytesSpec.post enc Try.prog Try.f4 false true false false) := by
  refine returnsInHanded_of_change (C := Try.checked) own started (by kernel_rfl) Try.func4
    (ChangeSpec.witness6 (enc := enc) (C := Try.checked) false ⟨#[], #[.int .u8 0, .agg #[.int .i64 0, .int .i64 0], .agg #[.int .i64 0, .int .i64 0]], []⟩ 8 (by kernel_rfl) (by kernel_rfl) (by kernel_rfl) (by kernel_rfl)) ?_
  intro W base args ds gs before hval hW _ _
  exact actBytes_contract H enc W base args ds gs before hval hW

theorem actBytes_holds : Rows.ActBytesSaid :=
  OpenClaim.holds_of_wide 4 Try.f4 rfl rfl rfl rfl rfl rfl rfl ⟨rfl, rfl, rfl, rfl, rfl⟩ rfl rfl rfl rfl rfl (by kernel_rfl) Try.func4 (by kernel_rfl)
    (of_decide_eq_true (by kernel_rfl)) (by unfold Func.isWrapper; first | (rw [if_pos (by decide +kernel)]; kernel_rfl) | (rw [if_neg (by decide +kernel)]; exact ⟨rfl, rfl⟩))
    (fun os started H enc _ => actBytes_lifted os started H enc)
end Go.Proofs.Ytankbefdlbcdnaa
