/- 'RaceNone' returns true, for all its arguments: run by the evaluator; that the examples' config may be is known. -/
import Derived.Test.YtkmccgombmogmaaGreatSig
import Derived.Test.YtkmccgombmogmaaGreatConfR
namespace Go.Proofs.YtkmccgombmogmaaGreat
open Go.RowKit
set_option linter.unusedVariables false

theorem mixed_ok : Tryz.prog.follows .mixedOrders = true := by kernel_rfl
def raceNone_anyV (x0 x1 x2 x3 : Int) : Nat → Value
  | 0 => .int .i64 0
  | _ => .int .i64 0
theorem raceNone_anyL (x0 x1 x2 x3 : Int) : ∀ j9, Ev.leafV (raceNone_anyV x0 x1 x2 x3 j9) = true := by
  intro j9
  unfold raceNone_anyV
  split <;> rfl
def raceNone_anyB : List Ev.BFact := []
theorem raceNone_anyBok (x0 x1 x2 x3 : Int) : ∀ q ∈ raceNone_anyB, Ev.BTrue (raceNone_anyV x0 x1 x2 x3) q := by
  intro q hq
  cases hq
def raceNone_anyU : List Ev.UFact := []
theorem raceNone_anyUok (x0 x1 x2 x3 : Int) : ∀ q ∈ raceNone_anyU, Ev.UTrue (raceNone_anyV x0 x1 x2 x3) q := by
  intro q hq
  cases hq
def raceNone_anyC : List Ev.CFact := []
theorem raceNone_anyCok (x0 x1 x2 x3 : Int) : ∀ q ∈ raceNone_anyC, Ev.CTrue (raceNone_anyV x0 x1 x2 x3) q := by
  intro q hq
  cases hq
def raceNone_anyK : List Ev.KFact := [(21, [.agg #[.int .i64 2, .int .i64 2, .int .i64 9, .int .i64 3, .int .i64 2, .int .i64 0]], .bool true)]
theorem raceNone_anyKok (x0 x1 x2 x3 : Int) : ∀ q ∈ raceNone_anyK, Ev.KTrue Tryz.prog (raceNone_anyV x0 x1 x2 x3) q := by
  intro q hq
  simp only [raceNone_anyK, List.mem_cons, List.not_mem_nil, or_false] at hq
  subst hq
  · intro w; exact right_any 2 2 9 3 2 0 w
@[reducible] noncomputable def raceNone_anyS (x0 x1 x2 x3 : Int)  : Ev.Sig := Ev.mkSig (raceNone_anyV x0 x1 x2 x3) (raceNone_anyL x0 x1 x2 x3) raceNone_anyB raceNone_anyU raceNone_anyC raceNone_anyK (raceNone_anyBok x0 x1 x2 x3) (raceNone_anyUok x0 x1 x2 x3) (raceNone_anyCok x0 x1 x2 x3)
theorem raceNone_anyR (x0 x1 x2 x3 : Int)  : Ev.withB Tryz.prog (fun B => Ev.resIs (.bool true) (@Ev.fcallF (raceNone_anyS x0 x1 x2 x3) B (@Ev.fev (raceNone_anyS x0 x1 x2 x3) B 3000) 6 [.int .i64 x0, .agg #[.int .i64 x1, .int .i64 x2, .int .i64 x3]] Ev.s0)) = true := by kernel_rfl
theorem raceNone_any (x0 x1 x2 x3 : Int)  (w : World) : Calls Tryz.prog 6 #[.int .i64 x0, .agg #[.int .i64 x1, .int .i64 x2, .int .i64 x3]] w fun e w' => e = .returned (.bool true) ∧ Below w.heap.size w w' :=
  @Ev.fast_sym (raceNone_anyS x0 x1 x2 x3) _ Tryz.codeOk (Ev.mkSig_cal (raceNone_anyKok x0 x1 x2 x3)) mixed_ok 3000 _ #[.int .i64 x0, .agg #[.int .i64 x1, .int .i64 x2, .int .i64 x3]] _ _ (raceNone_anyR x0 x1 x2 x3) (@Ev.symArgs (raceNone_anyS x0 x1 x2 x3) _ #[.int .i64 x0, .agg #[.int .i64 x1, .int .i64 x2, .int .i64 x3]] rfl) w

end Go.Proofs.YtkmccgombmogmaaGreat
