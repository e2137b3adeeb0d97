/- 'works' of chapter 17's laws returns true, at every world, and leaves what was there as it was: by the evaluator. -/
import Derived.Test.YtaoambcodcggoaaRows
import Derived.Test.YtaoambcodcggoaaFvD
namespace Go.Proofs.Ytaoambcodcggoaa
open Go.RowKit
set_option linter.unusedVariables false

theorem mixed_ok : Try.prog.follows .mixedOrders = true := by kernel_rfl
theorem noArgs : @Ev.ARel Ev.noSig (fun _ => none) #[] #[] := ⟨rfl, fun i v v' h => by simp at h⟩
theorem works_runs : Ev.withB Try.prog (fun B => Ev.isTrue (@Ev.fcall Ev.noSig B (@Ev.fev Ev.noSig B 200) 9 [] Ev.s0)) = true := by kernel_rfl
theorem works_any (w : World) : Calls Try.prog 9 #[] w fun e w' => e = .returned (.bool true) ∧ Below w.heap.size w w' :=
  @Ev.fast_bool Ev.noSig _ Try.codeOk (@Ev.noCal Ev.noSig _) mixed_ok 200 _ #[] _ works_runs noArgs w
end Go.Proofs.Ytaoambcodcggoaa
