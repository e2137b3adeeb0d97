/- 'works' of chapter 30's laws returns true, at every world, and leaves what was there as it was: by the evaluator. -/
import Derived.Test.YtjcibnfaijdgnaaRows
import Derived.Test.YtjcibnfaijdgnaaFvD
namespace Go.Proofs.Ytjcibnfaijdgnaa
open Go.RowKit
set_option linter.unusedVariables false

theorem mixed_ok : Try.prog.follows .mixedOrders = true := by kernel_rfl
theorem noArgs : @Ev.ARel Ev.noSig (fun _ => none) #[] #[] := ⟨rfl, fun i v v' h => by simp at h⟩
theorem works_runs : Ev.withB Try.prog (fun B => Ev.isTrue (@Ev.fcallF Ev.noSig B (@Ev.fev Ev.noSig B 200) 8 [] Ev.s0)) = true := by kernel_rfl
theorem works_any (w : World) : Calls Try.prog 8 #[] w fun e w' => e = .returned (.bool true) ∧ Below w.heap.size w w' :=
  @Ev.fast_bool Ev.noSig _ Try.codeOk (@Ev.noCal Ev.noSig _) mixed_ok 200 _ #[] _ works_runs noArgs w
end Go.Proofs.Ytjcibnfaijdgnaa
