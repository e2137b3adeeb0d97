/- 'ReadyNone' returns true, for every config and number: run by the evaluator, with symbols for the numbers; a config that may be, and one that may not. -/
import Derived.Test.YtaoambcodcggoaaSig
import Derived.Test.YtaoambcodcggoaaConfR
import Derived.Test.YtaoambcodcggoaaPick
import Derived.Test.YtaoambcodcggoaaWorks17
namespace Go.Proofs.Ytaoambcodcggoaa
open Go.RowKit
open Go.Ev (sy)
set_option linter.unusedVariables false

def symVal (N Q G M T S n : Int) : Nat → Value
  | 0 => .int .i64 N
  | 1 => .int .i64 Q
  | 2 => .int .i64 G
  | 3 => .int .i64 M
  | 4 => .int .i64 T
  | 5 => .int .i64 S
  | 6 => .int .i64 n
  | 7 => .int .i64 (pick n 9)
  | 8 => .int .i64 (-1 - pick n 9)
  | 9 => .int .i64 (N - 1)
  | _ => .int .i64 0
theorem symLeaf (N Q G M T S n : Int) : ∀ k, Ev.leafV (symVal N Q G M T S n k) = true := by
  intro k
  unfold symVal
  split <;> rfl

def factsB : List Ev.BFact := [(.sub, .int .i64 (-1), sy 7, sy 8), (.lss, sy 8, .int .i64 0, .bool true)]
def factsR : List Ev.BFact := [(.sub, .int .i64 (-1), sy 7, sy 8), (.lss, sy 8, .int .i64 0, .bool true), (.sub, sy 0, .int .i64 1, sy 9), (.leq, .int .i64 99, sy 9, .bool false)]
def factsU : List Ev.UFact := []
def factsK (b : Bool) : List Ev.KFact := [(21, [.agg #[sy 0, sy 1, sy 2, sy 3, sy 4, sy 5]], .bool b), (6, [sy 6, .int .i64 9], sy 7), (9, [], .bool true)]

theorem right_bd {N Q G M T S : Int} (h : rightB N Q G M T S = true) : 1 ≤ N ∧ N ≤ 8 ∧ 2 ≤ Q ∧ Q ≤ 64 ∧ M ≤ 16 := by
  simp only [rightB, wi, Bool.and_eq_true, Bool.or_eq_true, decide_eq_true_eq, beq_iff_eq] at h
  omega

theorem factsB_ok (N Q G M T S n : Int) : ∀ q ∈ factsB, Ev.BTrue (symVal N Q G M T S n) q := by
  have hp := pick_bd n 9 (by omega)
  intro q hq
  simp only [factsB, List.mem_cons, List.not_mem_nil, or_false] at hq
  rcases hq with rfl | rfl <;> intro t ox oy
  · exact Ev.bt_sub (IntWalk.i64_in _ (by omega))
  · exact Ev.bt_lss (by simp; omega)

theorem factsR_ok (N Q G M T S n : Int) (h : rightB N Q G M T S = true) : ∀ q ∈ factsR, Ev.BTrue (symVal N Q G M T S n) q := by
  have hp := pick_bd n 9 (by omega)
  have hr := right_bd h
  intro q hq
  simp only [factsR, List.mem_cons, List.not_mem_nil, or_false] at hq
  rcases hq with rfl | rfl | rfl | rfl <;> intro t ox oy
  · exact Ev.bt_sub (IntWalk.i64_in _ (by omega))
  · exact Ev.bt_lss (by simp; omega)
  · exact Ev.bt_sub (IntWalk.i64_in _ (by omega))
  · exact Ev.bt_leq (by simp; omega)

theorem factsU_ok (N Q G M T S n : Int) : ∀ q ∈ factsU, Ev.UTrue (symVal N Q G M T S n) q := by
  have hp := pick_bd n 9 (by omega)
  intro q hq
  cases hq

theorem factsC_ok (N Q G M T S n : Int) : ∀ q ∈ ([] : List Ev.CFact), Ev.CTrue (symVal N Q G M T S n) q := fun q hq => by cases hq
theorem factsK_ok (N Q G M T S n : Int) {b : Bool} (h : rightB N Q G M T S = b) : ∀ q ∈ factsK b, Ev.KTrue Try.prog (symVal N Q G M T S n) q := by
  intro q hq
  simp only [factsK, List.mem_cons, List.not_mem_nil, or_false] at hq
  rcases hq with rfl | rfl | rfl <;> intro w
  · subst h
    exact right_any N Q G M T S w
  · exact pick_any n 9 (by omega) (by omega) w
  · exact works_any w

@[reducible] noncomputable def sig0 (N Q G M T S n : Int) : Ev.Sig := Ev.mkSig (symVal N Q G M T S n) (symLeaf N Q G M T S n) factsB factsU [] (factsK false) (factsB_ok N Q G M T S n) (factsU_ok N Q G M T S n) (factsC_ok N Q G M T S n)
@[reducible] noncomputable def sig1 (N Q G M T S n : Int) (h : rightB N Q G M T S = true) : Ev.Sig := Ev.mkSig (symVal N Q G M T S n) (symLeaf N Q G M T S n) factsR factsU [] (factsK true) (factsR_ok N Q G M T S n h) (factsU_ok N Q G M T S n) (factsC_ok N Q G M T S n)

theorem run0 (N Q G M T S n : Int) : Ev.withB Try.prog (fun B => Ev.isTrue (@Ev.fcall (sig0 N Q G M T S n) B (@Ev.fev (sig0 N Q G M T S n) B 200) 3 [.agg #[sy 0, sy 1, sy 2, sy 3, sy 4, sy 5], sy 6] Ev.s0)) = true := by kernel_rfl
theorem run1 (N Q G M T S n : Int) (h : rightB N Q G M T S = true) : Ev.withB Try.prog (fun B => Ev.isTrue (@Ev.fcall (sig1 N Q G M T S n h) B (@Ev.fev (sig1 N Q G M T S n h) B 200) 3 [.agg #[sy 0, sy 1, sy 2, sy 3, sy 4, sy 5], sy 6] Ev.s0)) = true := by kernel_rfl

theorem readyNone_any (N Q G M T S n : Int) (w : World) : Calls Try.prog 3 #[.agg #[.int .i64 N, .int .i64 Q, .int .i64 G, .int .i64 M, .int .i64 T, .int .i64 S], .int .i64 n] w fun e w' => e = .returned (.bool true) ∧ Below w.heap.size w w' := by
  cases h : rightB N Q G M T S with
  | false => exact @Ev.fast_bool (sig0 N Q G M T S n) _ Try.codeOk (Ev.mkSig_cal (factsK_ok N Q G M T S n h)) mixed_ok 200 _ #[.agg #[sy 0, sy 1, sy 2, sy 3, sy 4, sy 5], sy 6] _ (run0 N Q G M T S n) (@Ev.symArgs (sig0 N Q G M T S n) _ #[.agg #[sy 0, sy 1, sy 2, sy 3, sy 4, sy 5], sy 6] rfl) w
  | true => exact @Ev.fast_bool (sig1 N Q G M T S n h) _ Try.codeOk (Ev.mkSig_cal (factsK_ok N Q G M T S n h)) mixed_ok 200 _ #[.agg #[sy 0, sy 1, sy 2, sy 3, sy 4, sy 5], sy 6] _ (run1 N Q G M T S n h) (@Ev.symArgs (sig1 N Q G M T S n h) _ #[.agg #[sy 0, sy 1, sy 2, sy 3, sy 4, sy 5], sy 6] rfl) w
end Go.Proofs.Ytaoambcodcggoaa
