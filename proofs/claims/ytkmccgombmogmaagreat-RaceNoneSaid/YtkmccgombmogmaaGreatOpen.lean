/- Arguments that are numbers, opened. -/
import Derived.Test.YtkmccgombmogmaaGreatLaw
import Derived.Test.YtkmccgombmogmaaGreatEvX
namespace Go.Proofs.YtkmccgombmogmaaGreat
open Go.ChangeShapes Go.WideShapes Go.ChangeAt Go.RowKit Go.Deep
set_option linter.unusedVariables false

theorem trod_float {H : Type} {enc : TypeId × Value → H} {P : Program} {w : World} {base : Nat} {spare : Nat → Bool} {held : Bool} {fuel : Nat} {t : TypeId} {cs : List Value} {x : DataW H × List MemPlace} {k : FloatKind} (ht : P.underlying t = some (.float k))
    (h : DataW.trod enc P w base spare held fuel t cs = some x) : ∃ n, cs = [.float k n] := by
  cases fuel with
  | zero => simp [DataW.trod] at h
  | succ n =>
    unfold DataW.trod at h
    rw [ht] at h
    split at h <;> simp_all
theorem u8_bd {n : Int} (h : (Lit.int .u8 n).wf = true) : 0 ≤ n ∧ n < 256 := by
  simp [Lit.wf, IntKind.min, IntKind.max, IntKind.signed, IntKind.bits] at h
  omega
theorem flatArgs [Ev.Sig] {args : Array Value} (h : args.toList.all (Ev.flatN 5) = true) : Ev.ARel (fun _ => none) args args := by
  refine ⟨rfl, fun i v v' h1 h2 => ?_⟩
  rw [h1] at h2
  cases h2
  rw [List.all_eq_true] at h
  exact Ev.flat_refl _ 5 v (h v (by rw [Array.mem_toList_iff]; exact Array.mem_of_getElem? h1))
end Go.Proofs.YtkmccgombmogmaaGreat
