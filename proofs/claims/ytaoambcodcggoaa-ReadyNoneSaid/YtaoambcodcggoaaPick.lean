/- 'Pick' brings a number from 0 up to n. -/
import Derived.Test.YtaoambcodcggoaaRows
import Derived.WalkKit
import Derived.ProofKit
namespace Go.Proofs.Ytaoambcodcggoaa
open Go.RowKit
set_option linter.unusedVariables false

/-- A number brought from 0 up to m. -/
def pick (n m : Int) : Int := ((n.tmod m) + m).tmod m
theorem tmod_gt (n m : Int) (h : 0 < m) : -m < n.tmod m := by
  rcases Int.le_total 0 n with h0 | h0
  · have := Int.tmod_nonneg m h0
    omega
  · have e : n.tmod m = -((-n).tmod m) := by rw [Int.neg_tmod, Int.neg_neg]
    have := Int.tmod_lt_of_pos (-n) h
    omega
theorem pick_bd (n m : Int) (h : 0 < m) : 0 ≤ pick n m ∧ pick n m < m := by
  unfold pick
  have h1 := Int.tmod_lt_of_pos (n.tmod m + m) h
  have h2 : -m < n.tmod m := tmod_gt n m h
  exact ⟨Int.tmod_nonneg _ (by omega), h1⟩

set_option maxHeartbeats 400000 in
theorem pick_any (n m : Int) (h : 0 < m) (hm : m ≤ 1000000) (w : World) :
    Calls Try.prog 6 #[.int .i64 n, .int .i64 m] w fun e w' => e = .returned (.int .i64 (pick n m)) ∧ Below w.heap.size w w' := by
  have hne : m ≠ 0 := by omega
  have h1 : -m < n.tmod m := tmod_gt n m h
  have h2 : n.tmod m < m := Int.tmod_lt_of_pos n h
  have hw : IntKind.i64.wrap (n.tmod m + m) = n.tmod m + m := IntWalk.i64_in _ (by omega)
  go_enter Try.func6, Try.ntmps6
  go_wp2
  go_ret
  refine ⟨?_, Below.refl _ _⟩
  simp_all [pick]
  rw [Int.tmod_eq_emod_of_nonneg (a := n.tmod m + m) (by omega), Int.add_emod_right]
end Go.Proofs.Ytaoambcodcggoaa
