/- 'works' of the chapter's laws returns true, at every world, and leaves what was there as it was: by the evaluator. -/
import Derived.Test.YtjcibnfaijdgnaaRows
import Derived.Test.YtjcibnfaijdgnaaEvX
namespace Go.Proofs.Ytjcibnfaijdgnaa
open Go.RowKit
set_option linter.unusedVariables false

theorem mixed_ok : Try.prog.follows .mixedOrders = true := by kernel_rfl
theorem noArgs : Ev.ARel (fun _ => none) #[] #[] := ⟨rfl, fun i v v' h => by simp at h⟩
theorem works_runs : Ev.isTrue (Ev.acall Try.prog (Ev.ev Try.prog 200) 8 #[] Ev.s0) = true := by kernel_rfl
theorem works_any (w : World) : Calls Try.prog 8 #[] w fun e w' => e = .returned (.bool true) ∧ Below w.heap.size w w' :=
  Ev.closed_bool Try.codeOk mixed_ok works_runs noArgs w
end Go.Proofs.Ytjcibnfaijdgnaa
