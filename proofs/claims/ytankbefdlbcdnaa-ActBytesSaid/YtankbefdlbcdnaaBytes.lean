/- 'ActBytes' returns true, for every byte, action and result: run by the evaluator, with symbols. -/
import Derived.Test.YtankbefdlbcdnaaSig
import Derived.Test.YtankbefdlbcdnaaWorks22
namespace Go.Proofs.Ytankbefdlbcdnaa
open Go.RowKit
set_option linter.unusedVariables false

def byte1V (k s : Int) : Nat → Value
  | 0 => .int .i64 k
  | 1 => .int .i64 s
  | 2 => .int .i64 (8 * s)
  | 3 => .int .i64 (k + 8 * s)
  | 4 => .int .u8 (k + 8 * s)
  | _ => .int .i64 0
theorem byte1L (k s : Int) : ∀ j9, Ev.leafV (byte1V k s j9) = true := by
  intro j9
  unfold byte1V
  split <;> rfl
def byte1B : List Ev.BFact := [(.geq, .complex .f64 0 0, .int .i64 0, .bool false)]
theorem byte1Bok (k s : Int)  (h : k < 0) : ∀ q ∈ byte1B, Ev.BTrue (byte1V k s) q := by
  intro q hq
  simp only [byte1B, List.mem_cons, List.not_mem_nil, or_false] at hq
  subst hq
  · intro t ox oy; exact Ev.bt_geq (by simp; omega)
def byte1U : List Ev.UFact := []
theorem byte1Uok (k s : Int)  (h : k < 0) : ∀ q ∈ byte1U, Ev.UTrue (byte1V k s) q := by
  intro q hq
  cases hq
def byte1C : List Ev.CFact := []
theorem byte1Cok (k s : Int)  (h : k < 0) : ∀ q ∈ byte1C, Ev.CTrue (byte1V k s) q := by
  intro q hq
  cases hq
def byte1K : List Ev.KFact := []
theorem byte1Kok (k s : Int)  (h : k < 0) : ∀ q ∈ byte1K, Ev.KTrue Try.prog (byte1V k s) q := by
  intro q hq
  cases hq
@[reducible] noncomputable def byte1S (k s : Int)  (h : k < 0) : Ev.Sig := Ev.mkSig (byte1V k s) (byte1L k s) byte1B byte1U byte1C byte1K (byte1Bok k s h) (byte1Uok k s h) (byte1Cok k s h)
theorem byte1R (k s : Int)  (h : k < 0) : Ev.withB Try.prog (fun B => Ev.resIs (.int .u8 255) (@Ev.fcall (byte1S k s h) B (@Ev.fev (byte1S k s h) B 200) 17 [.agg #[.complex .f64 0 0, .complex .f64 1 0]] Ev.s0)) = true := by kernel_rfl
theorem byte1 (k s : Int)  (h : k < 0) (w : World) : Calls Try.prog 17 #[.agg #[.int .i64 k, .int .i64 s]] w fun e w' => e = .returned (.int .u8 255) ∧ Below w.heap.size w w' :=
  @Ev.fast_sym (byte1S k s h) _ Try.codeOk (Ev.mkSig_cal (byte1Kok k s h)) mixed_ok 200 _ #[.agg #[.complex .f64 0 0, .complex .f64 1 0]] _ _ (byte1R k s h) (@Ev.symArgs (byte1S k s h) _ #[.agg #[.complex .f64 0 0, .complex .f64 1 0]] rfl) w

def byte2V (k s : Int) : Nat → Value
  | 0 => .int .i64 k
  | 1 => .int .i64 s
  | 2 => .int .i64 (8 * s)
  | 3 => .int .i64 (k + 8 * s)
  | 4 => .int .u8 (k + 8 * s)
  | _ => .int .i64 0
theorem byte2L (k s : Int) : ∀ j9, Ev.leafV (byte2V k s j9) = true := by
  intro j9
  unfold byte2V
  split <;> rfl
def byte2B : List Ev.BFact := [(.geq, .complex .f64 0 0, .int .i64 0, .bool true), (.lss, .complex .f64 0 0, .int .i64 8, .bool false)]
theorem byte2Bok (k s : Int)  (h : 8 ≤ k) : ∀ q ∈ byte2B, Ev.BTrue (byte2V k s) q := by
  intro q hq
  simp only [byte2B, List.mem_cons, List.not_mem_nil, or_false] at hq
  rcases hq with rfl | rfl
  · intro t ox oy; exact Ev.bt_geq (by simp; omega)
  · intro t ox oy; exact Ev.bt_lss (by simp; omega)
def byte2U : List Ev.UFact := []
theorem byte2Uok (k s : Int)  (h : 8 ≤ k) : ∀ q ∈ byte2U, Ev.UTrue (byte2V k s) q := by
  intro q hq
  cases hq
def byte2C : List Ev.CFact := []
theorem byte2Cok (k s : Int)  (h : 8 ≤ k) : ∀ q ∈ byte2C, Ev.CTrue (byte2V k s) q := by
  intro q hq
  cases hq
def byte2K : List Ev.KFact := []
theorem byte2Kok (k s : Int)  (h : 8 ≤ k) : ∀ q ∈ byte2K, Ev.KTrue Try.prog (byte2V k s) q := by
  intro q hq
  cases hq
@[reducible] noncomputable def byte2S (k s : Int)  (h : 8 ≤ k) : Ev.Sig := Ev.mkSig (byte2V k s) (byte2L k s) byte2B byte2U byte2C byte2K (byte2Bok k s h) (byte2Uok k s h) (byte2Cok k s h)
theorem byte2R (k s : Int)  (h : 8 ≤ k) : Ev.withB Try.prog (fun B => Ev.resIs (.int .u8 255) (@Ev.fcall (byte2S k s h) B (@Ev.fev (byte2S k s h) B 200) 17 [.agg #[.complex .f64 0 0, .complex .f64 1 0]] Ev.s0)) = true := by kernel_rfl
theorem byte2 (k s : Int)  (h : 8 ≤ k) (w : World) : Calls Try.prog 17 #[.agg #[.int .i64 k, .int .i64 s]] w fun e w' => e = .returned (.int .u8 255) ∧ Below w.heap.size w w' :=
  @Ev.fast_sym (byte2S k s h) _ Try.codeOk (Ev.mkSig_cal (byte2Kok k s h)) mixed_ok 200 _ #[.agg #[.complex .f64 0 0, .complex .f64 1 0]] _ _ (byte2R k s h) (@Ev.symArgs (byte2S k s h) _ #[.agg #[.complex .f64 0 0, .complex .f64 1 0]] rfl) w

def byte3V (k s : Int) : Nat → Value
  | 0 => .int .i64 k
  | 1 => .int .i64 s
  | 2 => .int .i64 (8 * s)
  | 3 => .int .i64 (k + 8 * s)
  | 4 => .int .u8 (k + 8 * s)
  | _ => .int .i64 0
theorem byte3L (k s : Int) : ∀ j9, Ev.leafV (byte3V k s j9) = true := by
  intro j9
  unfold byte3V
  split <;> rfl
def byte3B : List Ev.BFact := [(.geq, .complex .f64 0 0, .int .i64 0, .bool true), (.lss, .complex .f64 0 0, .int .i64 8, .bool true), (.geq, .complex .f64 1 0, .int .i64 0, .bool false)]
theorem byte3Bok (k s : Int)  (h : 0 ≤ k ∧ k < 8 ∧ s < 0) : ∀ q ∈ byte3B, Ev.BTrue (byte3V k s) q := by
  intro q hq
  simp only [byte3B, List.mem_cons, List.not_mem_nil, or_false] at hq
  rcases hq with rfl | rfl | rfl
  · intro t ox oy; exact Ev.bt_geq (by simp; omega)
  · intro t ox oy; exact Ev.bt_lss (by simp; omega)
  · intro t ox oy; exact Ev.bt_geq (by simp; omega)
def byte3U : List Ev.UFact := []
theorem byte3Uok (k s : Int)  (h : 0 ≤ k ∧ k < 8 ∧ s < 0) : ∀ q ∈ byte3U, Ev.UTrue (byte3V k s) q := by
  intro q hq
  cases hq
def byte3C : List Ev.CFact := []
theorem byte3Cok (k s : Int)  (h : 0 ≤ k ∧ k < 8 ∧ s < 0) : ∀ q ∈ byte3C, Ev.CTrue (byte3V k s) q := by
  intro q hq
  cases hq
def byte3K : List Ev.KFact := []
theorem byte3Kok (k s : Int)  (h : 0 ≤ k ∧ k < 8 ∧ s < 0) : ∀ q ∈ byte3K, Ev.KTrue Try.prog (byte3V k s) q := by
  intro q hq
  cases hq
@[reducible] noncomputable def byte3S (k s : Int)  (h : 0 ≤ k ∧ k < 8 ∧ s < 0) : Ev.Sig := Ev.mkSig (byte3V k s) (byte3L k s) byte3B byte3U byte3C byte3K (byte3Bok k s h) (byte3Uok k s h) (byte3Cok k s h)
theorem byte3R (k s : Int)  (h : 0 ≤ k ∧ k < 8 ∧ s < 0) : Ev.withB Try.prog (fun B => Ev.resIs (.int .u8 255) (@Ev.fcall (byte3S k s h) B (@Ev.fev (byte3S k s h) B 200) 17 [.agg #[.complex .f64 0 0, .complex .f64 1 0]] Ev.s0)) = true := by kernel_rfl
theorem byte3 (k s : Int)  (h : 0 ≤ k ∧ k < 8 ∧ s < 0) (w : World) : Calls Try.prog 17 #[.agg #[.int .i64 k, .int .i64 s]] w fun e w' => e = .returned (.int .u8 255) ∧ Below w.heap.size w w' :=
  @Ev.fast_sym (byte3S k s h) _ Try.codeOk (Ev.mkSig_cal (byte3Kok k s h)) mixed_ok 200 _ #[.agg #[.complex .f64 0 0, .complex .f64 1 0]] _ _ (byte3R k s h) (@Ev.symArgs (byte3S k s h) _ #[.agg #[.complex .f64 0 0, .complex .f64 1 0]] rfl) w

def byte4V (k s : Int) : Nat → Value
  | 0 => .int .i64 k
  | 1 => .int .i64 s
  | 2 => .int .i64 (8 * s)
  | 3 => .int .i64 (k + 8 * s)
  | 4 => .int .u8 (k + 8 * s)
  | _ => .int .i64 0
theorem byte4L (k s : Int) : ∀ j9, Ev.leafV (byte4V k s j9) = true := by
  intro j9
  unfold byte4V
  split <;> rfl
def byte4B : List Ev.BFact := [(.geq, .complex .f64 0 0, .int .i64 0, .bool true), (.lss, .complex .f64 0 0, .int .i64 8, .bool true), (.geq, .complex .f64 1 0, .int .i64 0, .bool true), (.lss, .complex .f64 1 0, .int .i64 4, .bool false)]
theorem byte4Bok (k s : Int)  (h : 0 ≤ k ∧ k < 8 ∧ 4 ≤ s) : ∀ q ∈ byte4B, Ev.BTrue (byte4V k s) q := by
  intro q hq
  simp only [byte4B, List.mem_cons, List.not_mem_nil, or_false] at hq
  rcases hq with rfl | rfl | rfl | rfl
  · intro t ox oy; exact Ev.bt_geq (by simp; omega)
  · intro t ox oy; exact Ev.bt_lss (by simp; omega)
  · intro t ox oy; exact Ev.bt_geq (by simp; omega)
  · intro t ox oy; exact Ev.bt_lss (by simp; omega)
def byte4U : List Ev.UFact := []
theorem byte4Uok (k s : Int)  (h : 0 ≤ k ∧ k < 8 ∧ 4 ≤ s) : ∀ q ∈ byte4U, Ev.UTrue (byte4V k s) q := by
  intro q hq
  cases hq
def byte4C : List Ev.CFact := []
theorem byte4Cok (k s : Int)  (h : 0 ≤ k ∧ k < 8 ∧ 4 ≤ s) : ∀ q ∈ byte4C, Ev.CTrue (byte4V k s) q := by
  intro q hq
  cases hq
def byte4K : List Ev.KFact := []
theorem byte4Kok (k s : Int)  (h : 0 ≤ k ∧ k < 8 ∧ 4 ≤ s) : ∀ q ∈ byte4K, Ev.KTrue Try.prog (byte4V k s) q := by
  intro q hq
  cases hq
@[reducible] noncomputable def byte4S (k s : Int)  (h : 0 ≤ k ∧ k < 8 ∧ 4 ≤ s) : Ev.Sig := Ev.mkSig (byte4V k s) (byte4L k s) byte4B byte4U byte4C byte4K (byte4Bok k s h) (byte4Uok k s h) (byte4Cok k s h)
theorem byte4R (k s : Int)  (h : 0 ≤ k ∧ k < 8 ∧ 4 ≤ s) : Ev.withB Try.prog (fun B => Ev.resIs (.int .u8 255) (@Ev.fcall (byte4S k s h) B (@Ev.fev (byte4S k s h) B 200) 17 [.agg #[.complex .f64 0 0, .complex .f64 1 0]] Ev.s0)) = true := by kernel_rfl
theorem byte4 (k s : Int)  (h : 0 ≤ k ∧ k < 8 ∧ 4 ≤ s) (w : World) : Calls Try.prog 17 #[.agg #[.int .i64 k, .int .i64 s]] w fun e w' => e = .returned (.int .u8 255) ∧ Below w.heap.size w w' :=
  @Ev.fast_sym (byte4S k s h) _ Try.codeOk (Ev.mkSig_cal (byte4Kok k s h)) mixed_ok 200 _ #[.agg #[.complex .f64 0 0, .complex .f64 1 0]] _ _ (byte4R k s h) (@Ev.symArgs (byte4S k s h) _ #[.agg #[.complex .f64 0 0, .complex .f64 1 0]] rfl) w

def byte5V (k s : Int) : Nat → Value
  | 0 => .int .i64 k
  | 1 => .int .i64 s
  | 2 => .int .i64 (8 * s)
  | 3 => .int .i64 (k + 8 * s)
  | 4 => .int .u8 (k + 8 * s)
  | _ => .int .i64 0
theorem byte5L (k s : Int) : ∀ j9, Ev.leafV (byte5V k s j9) = true := by
  intro j9
  unfold byte5V
  split <;> rfl
def byte5B : List Ev.BFact := [(.geq, .complex .f64 0 0, .int .i64 0, .bool true), (.lss, .complex .f64 0 0, .int .i64 8, .bool true), (.geq, .complex .f64 1 0, .int .i64 0, .bool true), (.lss, .complex .f64 1 0, .int .i64 4, .bool true), (.mul, .int .i64 8, .complex .f64 1 0, .complex .f64 2 0), (.add, .complex .f64 0 0, .complex .f64 2 0, .complex .f64 3 0)]
theorem byte5Bok (k s : Int)  (h : 0 ≤ k ∧ k < 8 ∧ 0 ≤ s ∧ s < 4) : ∀ q ∈ byte5B, Ev.BTrue (byte5V k s) q := by
  intro q hq
  simp only [byte5B, List.mem_cons, List.not_mem_nil, or_false] at hq
  rcases hq with rfl | rfl | rfl | rfl | rfl | rfl
  · intro t ox oy; exact Ev.bt_geq (by simp; omega)
  · intro t ox oy; exact Ev.bt_lss (by simp; omega)
  · intro t ox oy; exact Ev.bt_geq (by simp; omega)
  · intro t ox oy; exact Ev.bt_lss (by simp; omega)
  · intro t ox oy; exact Ev.bt_mul (IntWalk.i64_in _ (by omega))
  · intro t ox oy; exact Ev.bt_add (IntWalk.i64_in _ (by omega))
def byte5U : List Ev.UFact := []
theorem byte5Uok (k s : Int)  (h : 0 ≤ k ∧ k < 8 ∧ 0 ≤ s ∧ s < 4) : ∀ q ∈ byte5U, Ev.UTrue (byte5V k s) q := by
  intro q hq
  cases hq
def byte5C : List Ev.CFact := [(.u8, .complex .f64 3 0, .complex .f64 4 0)]
theorem byte5Cok (k s : Int)  (h : 0 ≤ k ∧ k < 8 ∧ 0 ≤ s ∧ s < 4) : ∀ q ∈ byte5C, Ev.CTrue (byte5V k s) q := by
  intro q hq
  simp only [byte5C, List.mem_cons, List.not_mem_nil, or_false] at hq
  subst hq
  · exact Ev.ct_in (k0 := .i64) (n := k + 8 * s) rfl rfl (by unfold IntKind.wrap; simp [IntKind.signed, IntKind.bits]; omega)
def byte5K : List Ev.KFact := []
theorem byte5Kok (k s : Int)  (h : 0 ≤ k ∧ k < 8 ∧ 0 ≤ s ∧ s < 4) : ∀ q ∈ byte5K, Ev.KTrue Try.prog (byte5V k s) q := by
  intro q hq
  cases hq
@[reducible] noncomputable def byte5S (k s : Int)  (h : 0 ≤ k ∧ k < 8 ∧ 0 ≤ s ∧ s < 4) : Ev.Sig := Ev.mkSig (byte5V k s) (byte5L k s) byte5B byte5U byte5C byte5K (byte5Bok k s h) (byte5Uok k s h) (byte5Cok k s h)
theorem byte5R (k s : Int)  (h : 0 ≤ k ∧ k < 8 ∧ 0 ≤ s ∧ s < 4) : Ev.withB Try.prog (fun B => Ev.resIs (.complex .f64 4 0) (@Ev.fcall (byte5S k s h) B (@Ev.fev (byte5S k s h) B 200) 17 [.agg #[.complex .f64 0 0, .complex .f64 1 0]] Ev.s0)) = true := by kernel_rfl
theorem byte5 (k s : Int)  (h : 0 ≤ k ∧ k < 8 ∧ 0 ≤ s ∧ s < 4) (w : World) : Calls Try.prog 17 #[.agg #[.int .i64 k, .int .i64 s]] w fun e w' => e = .returned (.int .u8 (k + 8 * s)) ∧ Below w.heap.size w w' :=
  @Ev.fast_sym (byte5S k s h) _ Try.codeOk (Ev.mkSig_cal (byte5Kok k s h)) mixed_ok 200 _ #[.agg #[.complex .f64 0 0, .complex .f64 1 0]] _ _ (byte5R k s h) (@Ev.symArgs (byte5S k s h) _ #[.agg #[.complex .f64 0 0, .complex .f64 1 0]] rfl) w

def rbyte1V (k s : Int) : Nat → Value
  | 0 => .int .i64 k
  | 1 => .int .i64 s
  | 2 => .int .i64 (8 * s)
  | 3 => .int .i64 (k + 8 * s)
  | _ => .int .i64 0
theorem rbyte1L (k s : Int) : ∀ j9, Ev.leafV (rbyte1V k s j9) = true := by
  intro j9
  unfold rbyte1V
  split <;> rfl
def rbyte1B : List Ev.BFact := [(.lss, .complex .f64 0 0, .int .i64 0, .bool true)]
theorem rbyte1Bok (k s : Int)  (h : k < 0) : ∀ q ∈ rbyte1B, Ev.BTrue (rbyte1V k s) q := by
  intro q hq
  simp only [rbyte1B, List.mem_cons, List.not_mem_nil, or_false] at hq
  subst hq
  · intro t ox oy; exact Ev.bt_lss (by simp; omega)
def rbyte1U : List Ev.UFact := []
theorem rbyte1Uok (k s : Int)  (h : k < 0) : ∀ q ∈ rbyte1U, Ev.UTrue (rbyte1V k s) q := by
  intro q hq
  cases hq
def rbyte1C : List Ev.CFact := []
theorem rbyte1Cok (k s : Int)  (h : k < 0) : ∀ q ∈ rbyte1C, Ev.CTrue (rbyte1V k s) q := by
  intro q hq
  cases hq
def rbyte1K : List Ev.KFact := []
theorem rbyte1Kok (k s : Int)  (h : k < 0) : ∀ q ∈ rbyte1K, Ev.KTrue Try.prog (rbyte1V k s) q := by
  intro q hq
  cases hq
@[reducible] noncomputable def rbyte1S (k s : Int)  (h : k < 0) : Ev.Sig := Ev.mkSig (rbyte1V k s) (rbyte1L k s) rbyte1B rbyte1U rbyte1C rbyte1K (rbyte1Bok k s h) (rbyte1Uok k s h) (rbyte1Cok k s h)
theorem rbyte1R (k s : Int)  (h : k < 0) : Ev.withB Try.prog (fun B => Ev.resIs (.int .i64 (-1)) (@Ev.fcall (rbyte1S k s h) B (@Ev.fev (rbyte1S k s h) B 200) 16 [.complex .f64 0 0, .complex .f64 1 0] Ev.s0)) = true := by kernel_rfl
theorem rbyte1 (k s : Int)  (h : k < 0) (w : World) : Calls Try.prog 16 #[.int .i64 k, .int .i64 s] w fun e w' => e = .returned (.int .i64 (-1)) ∧ Below w.heap.size w w' :=
  @Ev.fast_sym (rbyte1S k s h) _ Try.codeOk (Ev.mkSig_cal (rbyte1Kok k s h)) mixed_ok 200 _ #[.complex .f64 0 0, .complex .f64 1 0] _ _ (rbyte1R k s h) (@Ev.symArgs (rbyte1S k s h) _ #[.complex .f64 0 0, .complex .f64 1 0] rfl) w

def rbyte2V (k s : Int) : Nat → Value
  | 0 => .int .i64 k
  | 1 => .int .i64 s
  | 2 => .int .i64 (8 * s)
  | 3 => .int .i64 (k + 8 * s)
  | _ => .int .i64 0
theorem rbyte2L (k s : Int) : ∀ j9, Ev.leafV (rbyte2V k s j9) = true := by
  intro j9
  unfold rbyte2V
  split <;> rfl
def rbyte2B : List Ev.BFact := [(.lss, .complex .f64 0 0, .int .i64 0, .bool false), (.gtr, .complex .f64 0 0, .int .i64 7, .bool true)]
theorem rbyte2Bok (k s : Int)  (h : 8 ≤ k) : ∀ q ∈ rbyte2B, Ev.BTrue (rbyte2V k s) q := by
  intro q hq
  simp only [rbyte2B, List.mem_cons, List.not_mem_nil, or_false] at hq
  rcases hq with rfl | rfl
  · intro t ox oy; exact Ev.bt_lss (by simp; omega)
  · intro t ox oy; exact Ev.bt_gtr (by simp; omega)
def rbyte2U : List Ev.UFact := []
theorem rbyte2Uok (k s : Int)  (h : 8 ≤ k) : ∀ q ∈ rbyte2U, Ev.UTrue (rbyte2V k s) q := by
  intro q hq
  cases hq
def rbyte2C : List Ev.CFact := []
theorem rbyte2Cok (k s : Int)  (h : 8 ≤ k) : ∀ q ∈ rbyte2C, Ev.CTrue (rbyte2V k s) q := by
  intro q hq
  cases hq
def rbyte2K : List Ev.KFact := []
theorem rbyte2Kok (k s : Int)  (h : 8 ≤ k) : ∀ q ∈ rbyte2K, Ev.KTrue Try.prog (rbyte2V k s) q := by
  intro q hq
  cases hq
@[reducible] noncomputable def rbyte2S (k s : Int)  (h : 8 ≤ k) : Ev.Sig := Ev.mkSig (rbyte2V k s) (rbyte2L k s) rbyte2B rbyte2U rbyte2C rbyte2K (rbyte2Bok k s h) (rbyte2Uok k s h) (rbyte2Cok k s h)
theorem rbyte2R (k s : Int)  (h : 8 ≤ k) : Ev.withB Try.prog (fun B => Ev.resIs (.int .i64 (-1)) (@Ev.fcall (rbyte2S k s h) B (@Ev.fev (rbyte2S k s h) B 200) 16 [.complex .f64 0 0, .complex .f64 1 0] Ev.s0)) = true := by kernel_rfl
theorem rbyte2 (k s : Int)  (h : 8 ≤ k) (w : World) : Calls Try.prog 16 #[.int .i64 k, .int .i64 s] w fun e w' => e = .returned (.int .i64 (-1)) ∧ Below w.heap.size w w' :=
  @Ev.fast_sym (rbyte2S k s h) _ Try.codeOk (Ev.mkSig_cal (rbyte2Kok k s h)) mixed_ok 200 _ #[.complex .f64 0 0, .complex .f64 1 0] _ _ (rbyte2R k s h) (@Ev.symArgs (rbyte2S k s h) _ #[.complex .f64 0 0, .complex .f64 1 0] rfl) w

def rbyte3V (k s : Int) : Nat → Value
  | 0 => .int .i64 k
  | 1 => .int .i64 s
  | 2 => .int .i64 (8 * s)
  | 3 => .int .i64 (k + 8 * s)
  | _ => .int .i64 0
theorem rbyte3L (k s : Int) : ∀ j9, Ev.leafV (rbyte3V k s j9) = true := by
  intro j9
  unfold rbyte3V
  split <;> rfl
def rbyte3B : List Ev.BFact := [(.lss, .complex .f64 0 0, .int .i64 0, .bool false), (.gtr, .complex .f64 0 0, .int .i64 7, .bool false), (.lss, .complex .f64 1 0, .int .i64 0, .bool true)]
theorem rbyte3Bok (k s : Int)  (h : 0 ≤ k ∧ k < 8 ∧ s < 0) : ∀ q ∈ rbyte3B, Ev.BTrue (rbyte3V k s) q := by
  intro q hq
  simp only [rbyte3B, List.mem_cons, List.not_mem_nil, or_false] at hq
  rcases hq with rfl | rfl | rfl
  · intro t ox oy; exact Ev.bt_lss (by simp; omega)
  · intro t ox oy; exact Ev.bt_gtr (by simp; omega)
  · intro t ox oy; exact Ev.bt_lss (by simp; omega)
def rbyte3U : List Ev.UFact := []
theorem rbyte3Uok (k s : Int)  (h : 0 ≤ k ∧ k < 8 ∧ s < 0) : ∀ q ∈ rbyte3U, Ev.UTrue (rbyte3V k s) q := by
  intro q hq
  cases hq
def rbyte3C : List Ev.CFact := []
theorem rbyte3Cok (k s : Int)  (h : 0 ≤ k ∧ k < 8 ∧ s < 0) : ∀ q ∈ rbyte3C, Ev.CTrue (rbyte3V k s) q := by
  intro q hq
  cases hq
def rbyte3K : List Ev.KFact := []
theorem rbyte3Kok (k s : Int)  (h : 0 ≤ k ∧ k < 8 ∧ s < 0) : ∀ q ∈ rbyte3K, Ev.KTrue Try.prog (rbyte3V k s) q := by
  intro q hq
  cases hq
@[reducible] noncomputable def rbyte3S (k s : Int)  (h : 0 ≤ k ∧ k < 8 ∧ s < 0) : Ev.Sig := Ev.mkSig (rbyte3V k s) (rbyte3L k s) rbyte3B rbyte3U rbyte3C rbyte3K (rbyte3Bok k s h) (rbyte3Uok k s h) (rbyte3Cok k s h)
theorem rbyte3R (k s : Int)  (h : 0 ≤ k ∧ k < 8 ∧ s < 0) : Ev.withB Try.prog (fun B => Ev.resIs (.int .i64 (-1)) (@Ev.fcall (rbyte3S k s h) B (@Ev.fev (rbyte3S k s h) B 200) 16 [.complex .f64 0 0, .complex .f64 1 0] Ev.s0)) = true := by kernel_rfl
theorem rbyte3 (k s : Int)  (h : 0 ≤ k ∧ k < 8 ∧ s < 0) (w : World) : Calls Try.prog 16 #[.int .i64 k, .int .i64 s] w fun e w' => e = .returned (.int .i64 (-1)) ∧ Below w.heap.size w w' :=
  @Ev.fast_sym (rbyte3S k s h) _ Try.codeOk (Ev.mkSig_cal (rbyte3Kok k s h)) mixed_ok 200 _ #[.complex .f64 0 0, .complex .f64 1 0] _ _ (rbyte3R k s h) (@Ev.symArgs (rbyte3S k s h) _ #[.complex .f64 0 0, .complex .f64 1 0] rfl) w

def rbyte4V (k s : Int) : Nat → Value
  | 0 => .int .i64 k
  | 1 => .int .i64 s
  | 2 => .int .i64 (8 * s)
  | 3 => .int .i64 (k + 8 * s)
  | _ => .int .i64 0
theorem rbyte4L (k s : Int) : ∀ j9, Ev.leafV (rbyte4V k s j9) = true := by
  intro j9
  unfold rbyte4V
  split <;> rfl
def rbyte4B : List Ev.BFact := [(.lss, .complex .f64 0 0, .int .i64 0, .bool false), (.gtr, .complex .f64 0 0, .int .i64 7, .bool false), (.lss, .complex .f64 1 0, .int .i64 0, .bool false), (.gtr, .complex .f64 1 0, .int .i64 3, .bool true)]
theorem rbyte4Bok (k s : Int)  (h : 0 ≤ k ∧ k < 8 ∧ 4 ≤ s) : ∀ q ∈ rbyte4B, Ev.BTrue (rbyte4V k s) q := by
  intro q hq
  simp only [rbyte4B, List.mem_cons, List.not_mem_nil, or_false] at hq
  rcases hq with rfl | rfl | rfl | rfl
  · intro t ox oy; exact Ev.bt_lss (by simp; omega)
  · intro t ox oy; exact Ev.bt_gtr (by simp; omega)
  · intro t ox oy; exact Ev.bt_lss (by simp; omega)
  · intro t ox oy; exact Ev.bt_gtr (by simp; omega)
def rbyte4U : List Ev.UFact := []
theorem rbyte4Uok (k s : Int)  (h : 0 ≤ k ∧ k < 8 ∧ 4 ≤ s) : ∀ q ∈ rbyte4U, Ev.UTrue (rbyte4V k s) q := by
  intro q hq
  cases hq
def rbyte4C : List Ev.CFact := []
theorem rbyte4Cok (k s : Int)  (h : 0 ≤ k ∧ k < 8 ∧ 4 ≤ s) : ∀ q ∈ rbyte4C, Ev.CTrue (rbyte4V k s) q := by
  intro q hq
  cases hq
def rbyte4K : List Ev.KFact := []
theorem rbyte4Kok (k s : Int)  (h : 0 ≤ k ∧ k < 8 ∧ 4 ≤ s) : ∀ q ∈ rbyte4K, Ev.KTrue Try.prog (rbyte4V k s) q := by
  intro q hq
  cases hq
@[reducible] noncomputable def rbyte4S (k s : Int)  (h : 0 ≤ k ∧ k < 8 ∧ 4 ≤ s) : Ev.Sig := Ev.mkSig (rbyte4V k s) (rbyte4L k s) rbyte4B rbyte4U rbyte4C rbyte4K (rbyte4Bok k s h) (rbyte4Uok k s h) (rbyte4Cok k s h)
theorem rbyte4R (k s : Int)  (h : 0 ≤ k ∧ k < 8 ∧ 4 ≤ s) : Ev.withB Try.prog (fun B => Ev.resIs (.int .i64 (-1)) (@Ev.fcall (rbyte4S k s h) B (@Ev.fev (rbyte4S k s h) B 200) 16 [.complex .f64 0 0, .complex .f64 1 0] Ev.s0)) = true := by kernel_rfl
theorem rbyte4 (k s : Int)  (h : 0 ≤ k ∧ k < 8 ∧ 4 ≤ s) (w : World) : Calls Try.prog 16 #[.int .i64 k, .int .i64 s] w fun e w' => e = .returned (.int .i64 (-1)) ∧ Below w.heap.size w w' :=
  @Ev.fast_sym (rbyte4S k s h) _ Try.codeOk (Ev.mkSig_cal (rbyte4Kok k s h)) mixed_ok 200 _ #[.complex .f64 0 0, .complex .f64 1 0] _ _ (rbyte4R k s h) (@Ev.symArgs (rbyte4S k s h) _ #[.complex .f64 0 0, .complex .f64 1 0] rfl) w

def rbyte5V (k s : Int) : Nat → Value
  | 0 => .int .i64 k
  | 1 => .int .i64 s
  | 2 => .int .i64 (8 * s)
  | 3 => .int .i64 (k + 8 * s)
  | _ => .int .i64 0
theorem rbyte5L (k s : Int) : ∀ j9, Ev.leafV (rbyte5V k s j9) = true := by
  intro j9
  unfold rbyte5V
  split <;> rfl
def rbyte5B : List Ev.BFact := [(.lss, .complex .f64 0 0, .int .i64 0, .bool false), (.gtr, .complex .f64 0 0, .int .i64 7, .bool false), (.lss, .complex .f64 1 0, .int .i64 0, .bool false), (.gtr, .complex .f64 1 0, .int .i64 3, .bool false), (.mul, .int .i64 8, .complex .f64 1 0, .complex .f64 2 0), (.add, .complex .f64 0 0, .complex .f64 2 0, .complex .f64 3 0)]
theorem rbyte5Bok (k s : Int)  (h : 0 ≤ k ∧ k < 8 ∧ 0 ≤ s ∧ s < 4) : ∀ q ∈ rbyte5B, Ev.BTrue (rbyte5V k s) q := by
  intro q hq
  simp only [rbyte5B, List.mem_cons, List.not_mem_nil, or_false] at hq
  rcases hq with rfl | rfl | rfl | rfl | rfl | rfl
  · intro t ox oy; exact Ev.bt_lss (by simp; omega)
  · intro t ox oy; exact Ev.bt_gtr (by simp; omega)
  · intro t ox oy; exact Ev.bt_lss (by simp; omega)
  · intro t ox oy; exact Ev.bt_gtr (by simp; omega)
  · intro t ox oy; exact Ev.bt_mul (IntWalk.i64_in _ (by omega))
  · intro t ox oy; exact Ev.bt_add (IntWalk.i64_in _ (by omega))
def rbyte5U : List Ev.UFact := []
theorem rbyte5Uok (k s : Int)  (h : 0 ≤ k ∧ k < 8 ∧ 0 ≤ s ∧ s < 4) : ∀ q ∈ rbyte5U, Ev.UTrue (rbyte5V k s) q := by
  intro q hq
  cases hq
def rbyte5C : List Ev.CFact := []
theorem rbyte5Cok (k s : Int)  (h : 0 ≤ k ∧ k < 8 ∧ 0 ≤ s ∧ s < 4) : ∀ q ∈ rbyte5C, Ev.CTrue (rbyte5V k s) q := by
  intro q hq
  cases hq
def rbyte5K : List Ev.KFact := []
theorem rbyte5Kok (k s : Int)  (h : 0 ≤ k ∧ k < 8 ∧ 0 ≤ s ∧ s < 4) : ∀ q ∈ rbyte5K, Ev.KTrue Try.prog (rbyte5V k s) q := by
  intro q hq
  cases hq
@[reducible] noncomputable def rbyte5S (k s : Int)  (h : 0 ≤ k ∧ k < 8 ∧ 0 ≤ s ∧ s < 4) : Ev.Sig := Ev.mkSig (rbyte5V k s) (rbyte5L k s) rbyte5B rbyte5U rbyte5C rbyte5K (rbyte5Bok k s h) (rbyte5Uok k s h) (rbyte5Cok k s h)
theorem rbyte5R (k s : Int)  (h : 0 ≤ k ∧ k < 8 ∧ 0 ≤ s ∧ s < 4) : Ev.withB Try.prog (fun B => Ev.resIs (.complex .f64 3 0) (@Ev.fcall (rbyte5S k s h) B (@Ev.fev (rbyte5S k s h) B 200) 16 [.complex .f64 0 0, .complex .f64 1 0] Ev.s0)) = true := by kernel_rfl
theorem rbyte5 (k s : Int)  (h : 0 ≤ k ∧ k < 8 ∧ 0 ≤ s ∧ s < 4) (w : World) : Calls Try.prog 16 #[.int .i64 k, .int .i64 s] w fun e w' => e = .returned (.int .i64 (k + 8 * s)) ∧ Below w.heap.size w w' :=
  @Ev.fast_sym (rbyte5S k s h) _ Try.codeOk (Ev.mkSig_cal (rbyte5Kok k s h)) mixed_ok 200 _ #[.complex .f64 0 0, .complex .f64 1 0] _ _ (rbyte5R k s h) (@Ev.symArgs (rbyte5S k s h) _ #[.complex .f64 0 0, .complex .f64 1 0] rfl) w

def safe1V (k s x y : Int) : Nat → Value
  | 0 => .int .i64 k
  | 1 => .int .i64 s
  | 2 => .int .i64 x
  | 3 => .int .i64 y
  | _ => .int .i64 0
theorem safe1L (k s x y : Int) : ∀ j9, Ev.leafV (safe1V k s x y j9) = true := by
  intro j9
  unfold safe1V
  split <;> rfl
def safe1B : List Ev.BFact := [(.eql, .complex .f64 0 0, .int .i64 1, .bool true)]
theorem safe1Bok (k s x y : Int)  (h : k = 1) : ∀ q ∈ safe1B, Ev.BTrue (safe1V k s x y) q := by
  intro q hq
  simp only [safe1B, List.mem_cons, List.not_mem_nil, or_false] at hq
  subst hq
  · intro t ox oy; exact Ev.bt_eql (by simp; omega)
def safe1U : List Ev.UFact := []
theorem safe1Uok (k s x y : Int)  (h : k = 1) : ∀ q ∈ safe1U, Ev.UTrue (safe1V k s x y) q := by
  intro q hq
  cases hq
def safe1C : List Ev.CFact := []
theorem safe1Cok (k s x y : Int)  (h : k = 1) : ∀ q ∈ safe1C, Ev.CTrue (safe1V k s x y) q := by
  intro q hq
  cases hq
def safe1K : List Ev.KFact := []
theorem safe1Kok (k s x y : Int)  (h : k = 1) : ∀ q ∈ safe1K, Ev.KTrue Try.prog (safe1V k s x y) q := by
  intro q hq
  cases hq
@[reducible] noncomputable def safe1S (k s x y : Int)  (h : k = 1) : Ev.Sig := Ev.mkSig (safe1V k s x y) (safe1L k s x y) safe1B safe1U safe1C safe1K (safe1Bok k s x y h) (safe1Uok k s x y h) (safe1Cok k s x y h)
theorem safe1R (k s x y : Int)  (h : k = 1) : Ev.withB Try.prog (fun B => Ev.resIs (.bool true) (@Ev.fcall (safe1S k s x y h) B (@Ev.fev (safe1S k s x y h) B 200) 18 [.agg #[.complex .f64 0 0, .complex .f64 1 0], .agg #[.complex .f64 2 0, .complex .f64 3 0]] Ev.s0)) = true := by kernel_rfl
theorem safe1 (k s x y : Int)  (h : k = 1) (w : World) : Calls Try.prog 18 #[.agg #[.int .i64 k, .int .i64 s], .agg #[.int .i64 x, .int .i64 y]] w fun e w' => e = .returned (.bool true) ∧ Below w.heap.size w w' :=
  @Ev.fast_sym (safe1S k s x y h) _ Try.codeOk (Ev.mkSig_cal (safe1Kok k s x y h)) mixed_ok 200 _ #[.agg #[.complex .f64 0 0, .complex .f64 1 0], .agg #[.complex .f64 2 0, .complex .f64 3 0]] _ _ (safe1R k s x y h) (@Ev.symArgs (safe1S k s x y h) _ #[.agg #[.complex .f64 0 0, .complex .f64 1 0], .agg #[.complex .f64 2 0, .complex .f64 3 0]] rfl) w

def rsafe1V (k s x y : Int) : Nat → Value
  | 0 => .int .i64 k
  | 1 => .int .i64 s
  | 2 => .int .i64 x
  | 3 => .int .i64 y
  | _ => .int .i64 0
theorem rsafe1L (k s x y : Int) : ∀ j9, Ev.leafV (rsafe1V k s x y j9) = true := by
  intro j9
  unfold rsafe1V
  split <;> rfl
def rsafe1B : List Ev.BFact := [(.eql, .complex .f64 0 0, .int .i64 1, .bool true)]
theorem rsafe1Bok (k s x y : Int)  (h : k = 1) : ∀ q ∈ rsafe1B, Ev.BTrue (rsafe1V k s x y) q := by
  intro q hq
  simp only [rsafe1B, List.mem_cons, List.not_mem_nil, or_false] at hq
  subst hq
  · intro t ox oy; exact Ev.bt_eql (by simp; omega)
def rsafe1U : List Ev.UFact := []
theorem rsafe1Uok (k s x y : Int)  (h : k = 1) : ∀ q ∈ rsafe1U, Ev.UTrue (rsafe1V k s x y) q := by
  intro q hq
  cases hq
def rsafe1C : List Ev.CFact := []
theorem rsafe1Cok (k s x y : Int)  (h : k = 1) : ∀ q ∈ rsafe1C, Ev.CTrue (rsafe1V k s x y) q := by
  intro q hq
  cases hq
def rsafe1K : List Ev.KFact := []
theorem rsafe1Kok (k s x y : Int)  (h : k = 1) : ∀ q ∈ rsafe1K, Ev.KTrue Try.prog (rsafe1V k s x y) q := by
  intro q hq
  cases hq
@[reducible] noncomputable def rsafe1S (k s x y : Int)  (h : k = 1) : Ev.Sig := Ev.mkSig (rsafe1V k s x y) (rsafe1L k s x y) rsafe1B rsafe1U rsafe1C rsafe1K (rsafe1Bok k s x y h) (rsafe1Uok k s x y h) (rsafe1Cok k s x y h)
theorem rsafe1R (k s x y : Int)  (h : k = 1) : Ev.withB Try.prog (fun B => Ev.resIs (.bool true) (@Ev.fcall (rsafe1S k s x y h) B (@Ev.fev (rsafe1S k s x y h) B 200) 19 [.complex .f64 0 0, .complex .f64 2 0] Ev.s0)) = true := by kernel_rfl
theorem rsafe1 (k s x y : Int)  (h : k = 1) (w : World) : Calls Try.prog 19 #[.int .i64 k, .int .i64 x] w fun e w' => e = .returned (.bool true) ∧ Below w.heap.size w w' :=
  @Ev.fast_sym (rsafe1S k s x y h) _ Try.codeOk (Ev.mkSig_cal (rsafe1Kok k s x y h)) mixed_ok 200 _ #[.complex .f64 0 0, .complex .f64 2 0] _ _ (rsafe1R k s x y h) (@Ev.symArgs (rsafe1S k s x y h) _ #[.complex .f64 0 0, .complex .f64 2 0] rfl) w

def safe2V (k s x y : Int) : Nat → Value
  | 0 => .int .i64 k
  | 1 => .int .i64 s
  | 2 => .int .i64 x
  | 3 => .int .i64 y
  | _ => .int .i64 0
theorem safe2L (k s x y : Int) : ∀ j9, Ev.leafV (safe2V k s x y j9) = true := by
  intro j9
  unfold safe2V
  split <;> rfl
def safe2B : List Ev.BFact := [(.eql, .complex .f64 0 0, .int .i64 1, .bool false), (.eql, .complex .f64 0 0, .int .i64 2, .bool true)]
theorem safe2Bok (k s x y : Int)  (h : k = 2) : ∀ q ∈ safe2B, Ev.BTrue (safe2V k s x y) q := by
  intro q hq
  simp only [safe2B, List.mem_cons, List.not_mem_nil, or_false] at hq
  rcases hq with rfl | rfl
  · intro t ox oy; exact Ev.bt_eql (by simp; omega)
  · intro t ox oy; exact Ev.bt_eql (by simp; omega)
def safe2U : List Ev.UFact := []
theorem safe2Uok (k s x y : Int)  (h : k = 2) : ∀ q ∈ safe2U, Ev.UTrue (safe2V k s x y) q := by
  intro q hq
  cases hq
def safe2C : List Ev.CFact := []
theorem safe2Cok (k s x y : Int)  (h : k = 2) : ∀ q ∈ safe2C, Ev.CTrue (safe2V k s x y) q := by
  intro q hq
  cases hq
def safe2K : List Ev.KFact := []
theorem safe2Kok (k s x y : Int)  (h : k = 2) : ∀ q ∈ safe2K, Ev.KTrue Try.prog (safe2V k s x y) q := by
  intro q hq
  cases hq
@[reducible] noncomputable def safe2S (k s x y : Int)  (h : k = 2) : Ev.Sig := Ev.mkSig (safe2V k s x y) (safe2L k s x y) safe2B safe2U safe2C safe2K (safe2Bok k s x y h) (safe2Uok k s x y h) (safe2Cok k s x y h)
theorem safe2R (k s x y : Int)  (h : k = 2) : Ev.withB Try.prog (fun B => Ev.resIs (.bool true) (@Ev.fcall (safe2S k s x y h) B (@Ev.fev (safe2S k s x y h) B 200) 18 [.agg #[.complex .f64 0 0, .complex .f64 1 0], .agg #[.complex .f64 2 0, .complex .f64 3 0]] Ev.s0)) = true := by kernel_rfl
theorem safe2 (k s x y : Int)  (h : k = 2) (w : World) : Calls Try.prog 18 #[.agg #[.int .i64 k, .int .i64 s], .agg #[.int .i64 x, .int .i64 y]] w fun e w' => e = .returned (.bool true) ∧ Below w.heap.size w w' :=
  @Ev.fast_sym (safe2S k s x y h) _ Try.codeOk (Ev.mkSig_cal (safe2Kok k s x y h)) mixed_ok 200 _ #[.agg #[.complex .f64 0 0, .complex .f64 1 0], .agg #[.complex .f64 2 0, .complex .f64 3 0]] _ _ (safe2R k s x y h) (@Ev.symArgs (safe2S k s x y h) _ #[.agg #[.complex .f64 0 0, .complex .f64 1 0], .agg #[.complex .f64 2 0, .complex .f64 3 0]] rfl) w

def rsafe2V (k s x y : Int) : Nat → Value
  | 0 => .int .i64 k
  | 1 => .int .i64 s
  | 2 => .int .i64 x
  | 3 => .int .i64 y
  | _ => .int .i64 0
theorem rsafe2L (k s x y : Int) : ∀ j9, Ev.leafV (rsafe2V k s x y j9) = true := by
  intro j9
  unfold rsafe2V
  split <;> rfl
def rsafe2B : List Ev.BFact := [(.eql, .complex .f64 0 0, .int .i64 1, .bool false), (.eql, .complex .f64 0 0, .int .i64 2, .bool true)]
theorem rsafe2Bok (k s x y : Int)  (h : k = 2) : ∀ q ∈ rsafe2B, Ev.BTrue (rsafe2V k s x y) q := by
  intro q hq
  simp only [rsafe2B, List.mem_cons, List.not_mem_nil, or_false] at hq
  rcases hq with rfl | rfl
  · intro t ox oy; exact Ev.bt_eql (by simp; omega)
  · intro t ox oy; exact Ev.bt_eql (by simp; omega)
def rsafe2U : List Ev.UFact := []
theorem rsafe2Uok (k s x y : Int)  (h : k = 2) : ∀ q ∈ rsafe2U, Ev.UTrue (rsafe2V k s x y) q := by
  intro q hq
  cases hq
def rsafe2C : List Ev.CFact := []
theorem rsafe2Cok (k s x y : Int)  (h : k = 2) : ∀ q ∈ rsafe2C, Ev.CTrue (rsafe2V k s x y) q := by
  intro q hq
  cases hq
def rsafe2K : List Ev.KFact := []
theorem rsafe2Kok (k s x y : Int)  (h : k = 2) : ∀ q ∈ rsafe2K, Ev.KTrue Try.prog (rsafe2V k s x y) q := by
  intro q hq
  cases hq
@[reducible] noncomputable def rsafe2S (k s x y : Int)  (h : k = 2) : Ev.Sig := Ev.mkSig (rsafe2V k s x y) (rsafe2L k s x y) rsafe2B rsafe2U rsafe2C rsafe2K (rsafe2Bok k s x y h) (rsafe2Uok k s x y h) (rsafe2Cok k s x y h)
theorem rsafe2R (k s x y : Int)  (h : k = 2) : Ev.withB Try.prog (fun B => Ev.resIs (.bool true) (@Ev.fcall (rsafe2S k s x y h) B (@Ev.fev (rsafe2S k s x y h) B 200) 19 [.complex .f64 0 0, .complex .f64 2 0] Ev.s0)) = true := by kernel_rfl
theorem rsafe2 (k s x y : Int)  (h : k = 2) (w : World) : Calls Try.prog 19 #[.int .i64 k, .int .i64 x] w fun e w' => e = .returned (.bool true) ∧ Below w.heap.size w w' :=
  @Ev.fast_sym (rsafe2S k s x y h) _ Try.codeOk (Ev.mkSig_cal (rsafe2Kok k s x y h)) mixed_ok 200 _ #[.complex .f64 0 0, .complex .f64 2 0] _ _ (rsafe2R k s x y h) (@Ev.symArgs (rsafe2S k s x y h) _ #[.complex .f64 0 0, .complex .f64 2 0] rfl) w

def safe3V (k s x y : Int) : Nat → Value
  | 0 => .int .i64 k
  | 1 => .int .i64 s
  | 2 => .int .i64 x
  | 3 => .int .i64 y
  | _ => .int .i64 0
theorem safe3L (k s x y : Int) : ∀ j9, Ev.leafV (safe3V k s x y j9) = true := by
  intro j9
  unfold safe3V
  split <;> rfl
def safe3B : List Ev.BFact := [(.eql, .complex .f64 0 0, .int .i64 1, .bool false), (.eql, .complex .f64 0 0, .int .i64 2, .bool false), (.eql, .complex .f64 0 0, .int .i64 4, .bool true)]
theorem safe3Bok (k s x y : Int)  (h : k = 4) : ∀ q ∈ safe3B, Ev.BTrue (safe3V k s x y) q := by
  intro q hq
  simp only [safe3B, List.mem_cons, List.not_mem_nil, or_false] at hq
  rcases hq with rfl | rfl | rfl
  · intro t ox oy; exact Ev.bt_eql (by simp; omega)
  · intro t ox oy; exact Ev.bt_eql (by simp; omega)
  · intro t ox oy; exact Ev.bt_eql (by simp; omega)
def safe3U : List Ev.UFact := []
theorem safe3Uok (k s x y : Int)  (h : k = 4) : ∀ q ∈ safe3U, Ev.UTrue (safe3V k s x y) q := by
  intro q hq
  cases hq
def safe3C : List Ev.CFact := []
theorem safe3Cok (k s x y : Int)  (h : k = 4) : ∀ q ∈ safe3C, Ev.CTrue (safe3V k s x y) q := by
  intro q hq
  cases hq
def safe3K : List Ev.KFact := []
theorem safe3Kok (k s x y : Int)  (h : k = 4) : ∀ q ∈ safe3K, Ev.KTrue Try.prog (safe3V k s x y) q := by
  intro q hq
  cases hq
@[reducible] noncomputable def safe3S (k s x y : Int)  (h : k = 4) : Ev.Sig := Ev.mkSig (safe3V k s x y) (safe3L k s x y) safe3B safe3U safe3C safe3K (safe3Bok k s x y h) (safe3Uok k s x y h) (safe3Cok k s x y h)
theorem safe3R (k s x y : Int)  (h : k = 4) : Ev.withB Try.prog (fun B => Ev.resIs (.bool true) (@Ev.fcall (safe3S k s x y h) B (@Ev.fev (safe3S k s x y h) B 200) 18 [.agg #[.complex .f64 0 0, .complex .f64 1 0], .agg #[.complex .f64 2 0, .complex .f64 3 0]] Ev.s0)) = true := by kernel_rfl
theorem safe3 (k s x y : Int)  (h : k = 4) (w : World) : Calls Try.prog 18 #[.agg #[.int .i64 k, .int .i64 s], .agg #[.int .i64 x, .int .i64 y]] w fun e w' => e = .returned (.bool true) ∧ Below w.heap.size w w' :=
  @Ev.fast_sym (safe3S k s x y h) _ Try.codeOk (Ev.mkSig_cal (safe3Kok k s x y h)) mixed_ok 200 _ #[.agg #[.complex .f64 0 0, .complex .f64 1 0], .agg #[.complex .f64 2 0, .complex .f64 3 0]] _ _ (safe3R k s x y h) (@Ev.symArgs (safe3S k s x y h) _ #[.agg #[.complex .f64 0 0, .complex .f64 1 0], .agg #[.complex .f64 2 0, .complex .f64 3 0]] rfl) w

def rsafe3V (k s x y : Int) : Nat → Value
  | 0 => .int .i64 k
  | 1 => .int .i64 s
  | 2 => .int .i64 x
  | 3 => .int .i64 y
  | _ => .int .i64 0
theorem rsafe3L (k s x y : Int) : ∀ j9, Ev.leafV (rsafe3V k s x y j9) = true := by
  intro j9
  unfold rsafe3V
  split <;> rfl
def rsafe3B : List Ev.BFact := [(.eql, .complex .f64 0 0, .int .i64 1, .bool false), (.eql, .complex .f64 0 0, .int .i64 2, .bool false), (.eql, .complex .f64 0 0, .int .i64 4, .bool true)]
theorem rsafe3Bok (k s x y : Int)  (h : k = 4) : ∀ q ∈ rsafe3B, Ev.BTrue (rsafe3V k s x y) q := by
  intro q hq
  simp only [rsafe3B, List.mem_cons, List.not_mem_nil, or_false] at hq
  rcases hq with rfl | rfl | rfl
  · intro t ox oy; exact Ev.bt_eql (by simp; omega)
  · intro t ox oy; exact Ev.bt_eql (by simp; omega)
  · intro t ox oy; exact Ev.bt_eql (by simp; omega)
def rsafe3U : List Ev.UFact := []
theorem rsafe3Uok (k s x y : Int)  (h : k = 4) : ∀ q ∈ rsafe3U, Ev.UTrue (rsafe3V k s x y) q := by
  intro q hq
  cases hq
def rsafe3C : List Ev.CFact := []
theorem rsafe3Cok (k s x y : Int)  (h : k = 4) : ∀ q ∈ rsafe3C, Ev.CTrue (rsafe3V k s x y) q := by
  intro q hq
  cases hq
def rsafe3K : List Ev.KFact := []
theorem rsafe3Kok (k s x y : Int)  (h : k = 4) : ∀ q ∈ rsafe3K, Ev.KTrue Try.prog (rsafe3V k s x y) q := by
  intro q hq
  cases hq
@[reducible] noncomputable def rsafe3S (k s x y : Int)  (h : k = 4) : Ev.Sig := Ev.mkSig (rsafe3V k s x y) (rsafe3L k s x y) rsafe3B rsafe3U rsafe3C rsafe3K (rsafe3Bok k s x y h) (rsafe3Uok k s x y h) (rsafe3Cok k s x y h)
theorem rsafe3R (k s x y : Int)  (h : k = 4) : Ev.withB Try.prog (fun B => Ev.resIs (.bool true) (@Ev.fcall (rsafe3S k s x y h) B (@Ev.fev (rsafe3S k s x y h) B 200) 19 [.complex .f64 0 0, .complex .f64 2 0] Ev.s0)) = true := by kernel_rfl
theorem rsafe3 (k s x y : Int)  (h : k = 4) (w : World) : Calls Try.prog 19 #[.int .i64 k, .int .i64 x] w fun e w' => e = .returned (.bool true) ∧ Below w.heap.size w w' :=
  @Ev.fast_sym (rsafe3S k s x y h) _ Try.codeOk (Ev.mkSig_cal (rsafe3Kok k s x y h)) mixed_ok 200 _ #[.complex .f64 0 0, .complex .f64 2 0] _ _ (rsafe3R k s x y h) (@Ev.symArgs (rsafe3S k s x y h) _ #[.complex .f64 0 0, .complex .f64 2 0] rfl) w

def safe4V (k s x y : Int) : Nat → Value
  | 0 => .int .i64 k
  | 1 => .int .i64 s
  | 2 => .int .i64 x
  | 3 => .int .i64 y
  | _ => .int .i64 0
theorem safe4L (k s x y : Int) : ∀ j9, Ev.leafV (safe4V k s x y j9) = true := by
  intro j9
  unfold safe4V
  split <;> rfl
def safe4B : List Ev.BFact := [(.eql, .complex .f64 0 0, .int .i64 1, .bool false), (.eql, .complex .f64 0 0, .int .i64 2, .bool false), (.eql, .complex .f64 0 0, .int .i64 4, .bool false), (.eql, .complex .f64 0 0, .int .i64 7, .bool true)]
theorem safe4Bok (k s x y : Int)  (h : k = 7) : ∀ q ∈ safe4B, Ev.BTrue (safe4V k s x y) q := by
  intro q hq
  simp only [safe4B, List.mem_cons, List.not_mem_nil, or_false] at hq
  rcases hq with rfl | rfl | rfl | rfl
  · intro t ox oy; exact Ev.bt_eql (by simp; omega)
  · intro t ox oy; exact Ev.bt_eql (by simp; omega)
  · intro t ox oy; exact Ev.bt_eql (by simp; omega)
  · intro t ox oy; exact Ev.bt_eql (by simp; omega)
def safe4U : List Ev.UFact := []
theorem safe4Uok (k s x y : Int)  (h : k = 7) : ∀ q ∈ safe4U, Ev.UTrue (safe4V k s x y) q := by
  intro q hq
  cases hq
def safe4C : List Ev.CFact := []
theorem safe4Cok (k s x y : Int)  (h : k = 7) : ∀ q ∈ safe4C, Ev.CTrue (safe4V k s x y) q := by
  intro q hq
  cases hq
def safe4K : List Ev.KFact := []
theorem safe4Kok (k s x y : Int)  (h : k = 7) : ∀ q ∈ safe4K, Ev.KTrue Try.prog (safe4V k s x y) q := by
  intro q hq
  cases hq
@[reducible] noncomputable def safe4S (k s x y : Int)  (h : k = 7) : Ev.Sig := Ev.mkSig (safe4V k s x y) (safe4L k s x y) safe4B safe4U safe4C safe4K (safe4Bok k s x y h) (safe4Uok k s x y h) (safe4Cok k s x y h)
theorem safe4R (k s x y : Int)  (h : k = 7) : Ev.withB Try.prog (fun B => Ev.resIs (.bool true) (@Ev.fcall (safe4S k s x y h) B (@Ev.fev (safe4S k s x y h) B 200) 18 [.agg #[.complex .f64 0 0, .complex .f64 1 0], .agg #[.complex .f64 2 0, .complex .f64 3 0]] Ev.s0)) = true := by kernel_rfl
theorem safe4 (k s x y : Int)  (h : k = 7) (w : World) : Calls Try.prog 18 #[.agg #[.int .i64 k, .int .i64 s], .agg #[.int .i64 x, .int .i64 y]] w fun e w' => e = .returned (.bool true) ∧ Below w.heap.size w w' :=
  @Ev.fast_sym (safe4S k s x y h) _ Try.codeOk (Ev.mkSig_cal (safe4Kok k s x y h)) mixed_ok 200 _ #[.agg #[.complex .f64 0 0, .complex .f64 1 0], .agg #[.complex .f64 2 0, .complex .f64 3 0]] _ _ (safe4R k s x y h) (@Ev.symArgs (safe4S k s x y h) _ #[.agg #[.complex .f64 0 0, .complex .f64 1 0], .agg #[.complex .f64 2 0, .complex .f64 3 0]] rfl) w

def rsafe4V (k s x y : Int) : Nat → Value
  | 0 => .int .i64 k
  | 1 => .int .i64 s
  | 2 => .int .i64 x
  | 3 => .int .i64 y
  | _ => .int .i64 0
theorem rsafe4L (k s x y : Int) : ∀ j9, Ev.leafV (rsafe4V k s x y j9) = true := by
  intro j9
  unfold rsafe4V
  split <;> rfl
def rsafe4B : List Ev.BFact := [(.eql, .complex .f64 0 0, .int .i64 1, .bool false), (.eql, .complex .f64 0 0, .int .i64 2, .bool false), (.eql, .complex .f64 0 0, .int .i64 4, .bool false), (.eql, .complex .f64 0 0, .int .i64 7, .bool true)]
theorem rsafe4Bok (k s x y : Int)  (h : k = 7) : ∀ q ∈ rsafe4B, Ev.BTrue (rsafe4V k s x y) q := by
  intro q hq
  simp only [rsafe4B, List.mem_cons, List.not_mem_nil, or_false] at hq
  rcases hq with rfl | rfl | rfl | rfl
  · intro t ox oy; exact Ev.bt_eql (by simp; omega)
  · intro t ox oy; exact Ev.bt_eql (by simp; omega)
  · intro t ox oy; exact Ev.bt_eql (by simp; omega)
  · intro t ox oy; exact Ev.bt_eql (by simp; omega)
def rsafe4U : List Ev.UFact := []
theorem rsafe4Uok (k s x y : Int)  (h : k = 7) : ∀ q ∈ rsafe4U, Ev.UTrue (rsafe4V k s x y) q := by
  intro q hq
  cases hq
def rsafe4C : List Ev.CFact := []
theorem rsafe4Cok (k s x y : Int)  (h : k = 7) : ∀ q ∈ rsafe4C, Ev.CTrue (rsafe4V k s x y) q := by
  intro q hq
  cases hq
def rsafe4K : List Ev.KFact := []
theorem rsafe4Kok (k s x y : Int)  (h : k = 7) : ∀ q ∈ rsafe4K, Ev.KTrue Try.prog (rsafe4V k s x y) q := by
  intro q hq
  cases hq
@[reducible] noncomputable def rsafe4S (k s x y : Int)  (h : k = 7) : Ev.Sig := Ev.mkSig (rsafe4V k s x y) (rsafe4L k s x y) rsafe4B rsafe4U rsafe4C rsafe4K (rsafe4Bok k s x y h) (rsafe4Uok k s x y h) (rsafe4Cok k s x y h)
theorem rsafe4R (k s x y : Int)  (h : k = 7) : Ev.withB Try.prog (fun B => Ev.resIs (.bool true) (@Ev.fcall (rsafe4S k s x y h) B (@Ev.fev (rsafe4S k s x y h) B 200) 19 [.complex .f64 0 0, .complex .f64 2 0] Ev.s0)) = true := by kernel_rfl
theorem rsafe4 (k s x y : Int)  (h : k = 7) (w : World) : Calls Try.prog 19 #[.int .i64 k, .int .i64 x] w fun e w' => e = .returned (.bool true) ∧ Below w.heap.size w w' :=
  @Ev.fast_sym (rsafe4S k s x y h) _ Try.codeOk (Ev.mkSig_cal (rsafe4Kok k s x y h)) mixed_ok 200 _ #[.complex .f64 0 0, .complex .f64 2 0] _ _ (rsafe4R k s x y h) (@Ev.symArgs (rsafe4S k s x y h) _ #[.complex .f64 0 0, .complex .f64 2 0] rfl) w

def safe5V (k s x y : Int) : Nat → Value
  | 0 => .int .i64 k
  | 1 => .int .i64 s
  | 2 => .int .i64 x
  | 3 => .int .i64 y
  | _ => .int .i64 0
theorem safe5L (k s x y : Int) : ∀ j9, Ev.leafV (safe5V k s x y j9) = true := by
  intro j9
  unfold safe5V
  split <;> rfl
def safe5B : List Ev.BFact := [(.eql, .complex .f64 0 0, .int .i64 1, .bool false), (.eql, .complex .f64 0 0, .int .i64 2, .bool false), (.eql, .complex .f64 0 0, .int .i64 4, .bool false), (.eql, .complex .f64 0 0, .int .i64 7, .bool false), (.eql, .complex .f64 0 0, .int .i64 5, .bool true), (.eql, .complex .f64 2 0, .int .i64 4, .bool true)]
theorem safe5Bok (k s x y : Int)  (h : k = 5 ∧ x = 4) : ∀ q ∈ safe5B, Ev.BTrue (safe5V k s x y) q := by
  intro q hq
  simp only [safe5B, List.mem_cons, List.not_mem_nil, or_false] at hq
  rcases hq with rfl | rfl | rfl | rfl | rfl | rfl
  · intro t ox oy; exact Ev.bt_eql (by simp; omega)
  · intro t ox oy; exact Ev.bt_eql (by simp; omega)
  · intro t ox oy; exact Ev.bt_eql (by simp; omega)
  · intro t ox oy; exact Ev.bt_eql (by simp; omega)
  · intro t ox oy; exact Ev.bt_eql (by simp; omega)
  · intro t ox oy; exact Ev.bt_eql (by simp; omega)
def safe5U : List Ev.UFact := []
theorem safe5Uok (k s x y : Int)  (h : k = 5 ∧ x = 4) : ∀ q ∈ safe5U, Ev.UTrue (safe5V k s x y) q := by
  intro q hq
  cases hq
def safe5C : List Ev.CFact := []
theorem safe5Cok (k s x y : Int)  (h : k = 5 ∧ x = 4) : ∀ q ∈ safe5C, Ev.CTrue (safe5V k s x y) q := by
  intro q hq
  cases hq
def safe5K : List Ev.KFact := []
theorem safe5Kok (k s x y : Int)  (h : k = 5 ∧ x = 4) : ∀ q ∈ safe5K, Ev.KTrue Try.prog (safe5V k s x y) q := by
  intro q hq
  cases hq
@[reducible] noncomputable def safe5S (k s x y : Int)  (h : k = 5 ∧ x = 4) : Ev.Sig := Ev.mkSig (safe5V k s x y) (safe5L k s x y) safe5B safe5U safe5C safe5K (safe5Bok k s x y h) (safe5Uok k s x y h) (safe5Cok k s x y h)
theorem safe5R (k s x y : Int)  (h : k = 5 ∧ x = 4) : Ev.withB Try.prog (fun B => Ev.resIs (.bool true) (@Ev.fcall (safe5S k s x y h) B (@Ev.fev (safe5S k s x y h) B 200) 18 [.agg #[.complex .f64 0 0, .complex .f64 1 0], .agg #[.complex .f64 2 0, .complex .f64 3 0]] Ev.s0)) = true := by kernel_rfl
theorem safe5 (k s x y : Int)  (h : k = 5 ∧ x = 4) (w : World) : Calls Try.prog 18 #[.agg #[.int .i64 k, .int .i64 s], .agg #[.int .i64 x, .int .i64 y]] w fun e w' => e = .returned (.bool true) ∧ Below w.heap.size w w' :=
  @Ev.fast_sym (safe5S k s x y h) _ Try.codeOk (Ev.mkSig_cal (safe5Kok k s x y h)) mixed_ok 200 _ #[.agg #[.complex .f64 0 0, .complex .f64 1 0], .agg #[.complex .f64 2 0, .complex .f64 3 0]] _ _ (safe5R k s x y h) (@Ev.symArgs (safe5S k s x y h) _ #[.agg #[.complex .f64 0 0, .complex .f64 1 0], .agg #[.complex .f64 2 0, .complex .f64 3 0]] rfl) w

def rsafe5V (k s x y : Int) : Nat → Value
  | 0 => .int .i64 k
  | 1 => .int .i64 s
  | 2 => .int .i64 x
  | 3 => .int .i64 y
  | _ => .int .i64 0
theorem rsafe5L (k s x y : Int) : ∀ j9, Ev.leafV (rsafe5V k s x y j9) = true := by
  intro j9
  unfold rsafe5V
  split <;> rfl
def rsafe5B : List Ev.BFact := [(.eql, .complex .f64 0 0, .int .i64 1, .bool false), (.eql, .complex .f64 0 0, .int .i64 2, .bool false), (.eql, .complex .f64 0 0, .int .i64 4, .bool false), (.eql, .complex .f64 0 0, .int .i64 7, .bool false), (.eql, .complex .f64 0 0, .int .i64 5, .bool true), (.eql, .complex .f64 2 0, .int .i64 4, .bool true)]
theorem rsafe5Bok (k s x y : Int)  (h : k = 5 ∧ x = 4) : ∀ q ∈ rsafe5B, Ev.BTrue (rsafe5V k s x y) q := by
  intro q hq
  simp only [rsafe5B, List.mem_cons, List.not_mem_nil, or_false] at hq
  rcases hq with rfl | rfl | rfl | rfl | rfl | rfl
  · intro t ox oy; exact Ev.bt_eql (by simp; omega)
  · intro t ox oy; exact Ev.bt_eql (by simp; omega)
  · intro t ox oy; exact Ev.bt_eql (by simp; omega)
  · intro t ox oy; exact Ev.bt_eql (by simp; omega)
  · intro t ox oy; exact Ev.bt_eql (by simp; omega)
  · intro t ox oy; exact Ev.bt_eql (by simp; omega)
def rsafe5U : List Ev.UFact := []
theorem rsafe5Uok (k s x y : Int)  (h : k = 5 ∧ x = 4) : ∀ q ∈ rsafe5U, Ev.UTrue (rsafe5V k s x y) q := by
  intro q hq
  cases hq
def rsafe5C : List Ev.CFact := []
theorem rsafe5Cok (k s x y : Int)  (h : k = 5 ∧ x = 4) : ∀ q ∈ rsafe5C, Ev.CTrue (rsafe5V k s x y) q := by
  intro q hq
  cases hq
def rsafe5K : List Ev.KFact := []
theorem rsafe5Kok (k s x y : Int)  (h : k = 5 ∧ x = 4) : ∀ q ∈ rsafe5K, Ev.KTrue Try.prog (rsafe5V k s x y) q := by
  intro q hq
  cases hq
@[reducible] noncomputable def rsafe5S (k s x y : Int)  (h : k = 5 ∧ x = 4) : Ev.Sig := Ev.mkSig (rsafe5V k s x y) (rsafe5L k s x y) rsafe5B rsafe5U rsafe5C rsafe5K (rsafe5Bok k s x y h) (rsafe5Uok k s x y h) (rsafe5Cok k s x y h)
theorem rsafe5R (k s x y : Int)  (h : k = 5 ∧ x = 4) : Ev.withB Try.prog (fun B => Ev.resIs (.bool true) (@Ev.fcall (rsafe5S k s x y h) B (@Ev.fev (rsafe5S k s x y h) B 200) 19 [.complex .f64 0 0, .complex .f64 2 0] Ev.s0)) = true := by kernel_rfl
theorem rsafe5 (k s x y : Int)  (h : k = 5 ∧ x = 4) (w : World) : Calls Try.prog 19 #[.int .i64 k, .int .i64 x] w fun e w' => e = .returned (.bool true) ∧ Below w.heap.size w w' :=
  @Ev.fast_sym (rsafe5S k s x y h) _ Try.codeOk (Ev.mkSig_cal (rsafe5Kok k s x y h)) mixed_ok 200 _ #[.complex .f64 0 0, .complex .f64 2 0] _ _ (rsafe5R k s x y h) (@Ev.symArgs (rsafe5S k s x y h) _ #[.complex .f64 0 0, .complex .f64 2 0] rfl) w

def safe6V (k s x y : Int) : Nat → Value
  | 0 => .int .i64 k
  | 1 => .int .i64 s
  | 2 => .int .i64 x
  | 3 => .int .i64 y
  | _ => .int .i64 0
theorem safe6L (k s x y : Int) : ∀ j9, Ev.leafV (safe6V k s x y j9) = true := by
  intro j9
  unfold safe6V
  split <;> rfl
def safe6B : List Ev.BFact := [(.eql, .complex .f64 0 0, .int .i64 1, .bool false), (.eql, .complex .f64 0 0, .int .i64 2, .bool false), (.eql, .complex .f64 0 0, .int .i64 4, .bool false), (.eql, .complex .f64 0 0, .int .i64 7, .bool false), (.eql, .complex .f64 0 0, .int .i64 5, .bool true), (.eql, .complex .f64 2 0, .int .i64 4, .bool false)]
theorem safe6Bok (k s x y : Int)  (h : k = 5 ∧ x ≠ 4) : ∀ q ∈ safe6B, Ev.BTrue (safe6V k s x y) q := by
  intro q hq
  simp only [safe6B, List.mem_cons, List.not_mem_nil, or_false] at hq
  rcases hq with rfl | rfl | rfl | rfl | rfl | rfl
  · intro t ox oy; exact Ev.bt_eql (by simp; omega)
  · intro t ox oy; exact Ev.bt_eql (by simp; omega)
  · intro t ox oy; exact Ev.bt_eql (by simp; omega)
  · intro t ox oy; exact Ev.bt_eql (by simp; omega)
  · intro t ox oy; exact Ev.bt_eql (by simp; omega)
  · intro t ox oy; exact Ev.bt_eql (by simp; omega)
def safe6U : List Ev.UFact := []
theorem safe6Uok (k s x y : Int)  (h : k = 5 ∧ x ≠ 4) : ∀ q ∈ safe6U, Ev.UTrue (safe6V k s x y) q := by
  intro q hq
  cases hq
def safe6C : List Ev.CFact := []
theorem safe6Cok (k s x y : Int)  (h : k = 5 ∧ x ≠ 4) : ∀ q ∈ safe6C, Ev.CTrue (safe6V k s x y) q := by
  intro q hq
  cases hq
def safe6K : List Ev.KFact := []
theorem safe6Kok (k s x y : Int)  (h : k = 5 ∧ x ≠ 4) : ∀ q ∈ safe6K, Ev.KTrue Try.prog (safe6V k s x y) q := by
  intro q hq
  cases hq
@[reducible] noncomputable def safe6S (k s x y : Int)  (h : k = 5 ∧ x ≠ 4) : Ev.Sig := Ev.mkSig (safe6V k s x y) (safe6L k s x y) safe6B safe6U safe6C safe6K (safe6Bok k s x y h) (safe6Uok k s x y h) (safe6Cok k s x y h)
theorem safe6R (k s x y : Int)  (h : k = 5 ∧ x ≠ 4) : Ev.withB Try.prog (fun B => Ev.resIs (.bool false) (@Ev.fcall (safe6S k s x y h) B (@Ev.fev (safe6S k s x y h) B 200) 18 [.agg #[.complex .f64 0 0, .complex .f64 1 0], .agg #[.complex .f64 2 0, .complex .f64 3 0]] Ev.s0)) = true := by kernel_rfl
theorem safe6 (k s x y : Int)  (h : k = 5 ∧ x ≠ 4) (w : World) : Calls Try.prog 18 #[.agg #[.int .i64 k, .int .i64 s], .agg #[.int .i64 x, .int .i64 y]] w fun e w' => e = .returned (.bool false) ∧ Below w.heap.size w w' :=
  @Ev.fast_sym (safe6S k s x y h) _ Try.codeOk (Ev.mkSig_cal (safe6Kok k s x y h)) mixed_ok 200 _ #[.agg #[.complex .f64 0 0, .complex .f64 1 0], .agg #[.complex .f64 2 0, .complex .f64 3 0]] _ _ (safe6R k s x y h) (@Ev.symArgs (safe6S k s x y h) _ #[.agg #[.complex .f64 0 0, .complex .f64 1 0], .agg #[.complex .f64 2 0, .complex .f64 3 0]] rfl) w

def rsafe6V (k s x y : Int) : Nat → Value
  | 0 => .int .i64 k
  | 1 => .int .i64 s
  | 2 => .int .i64 x
  | 3 => .int .i64 y
  | _ => .int .i64 0
theorem rsafe6L (k s x y : Int) : ∀ j9, Ev.leafV (rsafe6V k s x y j9) = true := by
  intro j9
  unfold rsafe6V
  split <;> rfl
def rsafe6B : List Ev.BFact := [(.eql, .complex .f64 0 0, .int .i64 1, .bool false), (.eql, .complex .f64 0 0, .int .i64 2, .bool false), (.eql, .complex .f64 0 0, .int .i64 4, .bool false), (.eql, .complex .f64 0 0, .int .i64 7, .bool false), (.eql, .complex .f64 0 0, .int .i64 5, .bool true), (.eql, .complex .f64 2 0, .int .i64 4, .bool false)]
theorem rsafe6Bok (k s x y : Int)  (h : k = 5 ∧ x ≠ 4) : ∀ q ∈ rsafe6B, Ev.BTrue (rsafe6V k s x y) q := by
  intro q hq
  simp only [rsafe6B, List.mem_cons, List.not_mem_nil, or_false] at hq
  rcases hq with rfl | rfl | rfl | rfl | rfl | rfl
  · intro t ox oy; exact Ev.bt_eql (by simp; omega)
  · intro t ox oy; exact Ev.bt_eql (by simp; omega)
  · intro t ox oy; exact Ev.bt_eql (by simp; omega)
  · intro t ox oy; exact Ev.bt_eql (by simp; omega)
  · intro t ox oy; exact Ev.bt_eql (by simp; omega)
  · intro t ox oy; exact Ev.bt_eql (by simp; omega)
def rsafe6U : List Ev.UFact := []
theorem rsafe6Uok (k s x y : Int)  (h : k = 5 ∧ x ≠ 4) : ∀ q ∈ rsafe6U, Ev.UTrue (rsafe6V k s x y) q := by
  intro q hq
  cases hq
def rsafe6C : List Ev.CFact := []
theorem rsafe6Cok (k s x y : Int)  (h : k = 5 ∧ x ≠ 4) : ∀ q ∈ rsafe6C, Ev.CTrue (rsafe6V k s x y) q := by
  intro q hq
  cases hq
def rsafe6K : List Ev.KFact := []
theorem rsafe6Kok (k s x y : Int)  (h : k = 5 ∧ x ≠ 4) : ∀ q ∈ rsafe6K, Ev.KTrue Try.prog (rsafe6V k s x y) q := by
  intro q hq
  cases hq
@[reducible] noncomputable def rsafe6S (k s x y : Int)  (h : k = 5 ∧ x ≠ 4) : Ev.Sig := Ev.mkSig (rsafe6V k s x y) (rsafe6L k s x y) rsafe6B rsafe6U rsafe6C rsafe6K (rsafe6Bok k s x y h) (rsafe6Uok k s x y h) (rsafe6Cok k s x y h)
theorem rsafe6R (k s x y : Int)  (h : k = 5 ∧ x ≠ 4) : Ev.withB Try.prog (fun B => Ev.resIs (.bool false) (@Ev.fcall (rsafe6S k s x y h) B (@Ev.fev (rsafe6S k s x y h) B 200) 19 [.complex .f64 0 0, .complex .f64 2 0] Ev.s0)) = true := by kernel_rfl
theorem rsafe6 (k s x y : Int)  (h : k = 5 ∧ x ≠ 4) (w : World) : Calls Try.prog 19 #[.int .i64 k, .int .i64 x] w fun e w' => e = .returned (.bool false) ∧ Below w.heap.size w w' :=
  @Ev.fast_sym (rsafe6S k s x y h) _ Try.codeOk (Ev.mkSig_cal (rsafe6Kok k s x y h)) mixed_ok 200 _ #[.complex .f64 0 0, .complex .f64 2 0] _ _ (rsafe6R k s x y h) (@Ev.symArgs (rsafe6S k s x y h) _ #[.complex .f64 0 0, .complex .f64 2 0] rfl) w

def safe7V (k s x y : Int) : Nat → Value
  | 0 => .int .i64 k
  | 1 => .int .i64 s
  | 2 => .int .i64 x
  | 3 => .int .i64 y
  | _ => .int .i64 0
theorem safe7L (k s x y : Int) : ∀ j9, Ev.leafV (safe7V k s x y j9) = true := by
  intro j9
  unfold safe7V
  split <;> rfl
def safe7B : List Ev.BFact := [(.eql, .complex .f64 0 0, .int .i64 1, .bool false), (.eql, .complex .f64 0 0, .int .i64 2, .bool false), (.eql, .complex .f64 0 0, .int .i64 4, .bool false), (.eql, .complex .f64 0 0, .int .i64 7, .bool false), (.eql, .complex .f64 0 0, .int .i64 5, .bool false)]
theorem safe7Bok (k s x y : Int)  (h : k ≠ 1 ∧ k ≠ 2 ∧ k ≠ 4 ∧ k ≠ 7 ∧ k ≠ 5) : ∀ q ∈ safe7B, Ev.BTrue (safe7V k s x y) q := by
  intro q hq
  simp only [safe7B, List.mem_cons, List.not_mem_nil, or_false] at hq
  rcases hq with rfl | rfl | rfl | rfl | rfl
  · intro t ox oy; exact Ev.bt_eql (by simp; omega)
  · intro t ox oy; exact Ev.bt_eql (by simp; omega)
  · intro t ox oy; exact Ev.bt_eql (by simp; omega)
  · intro t ox oy; exact Ev.bt_eql (by simp; omega)
  · intro t ox oy; exact Ev.bt_eql (by simp; omega)
def safe7U : List Ev.UFact := []
theorem safe7Uok (k s x y : Int)  (h : k ≠ 1 ∧ k ≠ 2 ∧ k ≠ 4 ∧ k ≠ 7 ∧ k ≠ 5) : ∀ q ∈ safe7U, Ev.UTrue (safe7V k s x y) q := by
  intro q hq
  cases hq
def safe7C : List Ev.CFact := []
theorem safe7Cok (k s x y : Int)  (h : k ≠ 1 ∧ k ≠ 2 ∧ k ≠ 4 ∧ k ≠ 7 ∧ k ≠ 5) : ∀ q ∈ safe7C, Ev.CTrue (safe7V k s x y) q := by
  intro q hq
  cases hq
def safe7K : List Ev.KFact := []
theorem safe7Kok (k s x y : Int)  (h : k ≠ 1 ∧ k ≠ 2 ∧ k ≠ 4 ∧ k ≠ 7 ∧ k ≠ 5) : ∀ q ∈ safe7K, Ev.KTrue Try.prog (safe7V k s x y) q := by
  intro q hq
  cases hq
@[reducible] noncomputable def safe7S (k s x y : Int)  (h : k ≠ 1 ∧ k ≠ 2 ∧ k ≠ 4 ∧ k ≠ 7 ∧ k ≠ 5) : Ev.Sig := Ev.mkSig (safe7V k s x y) (safe7L k s x y) safe7B safe7U safe7C safe7K (safe7Bok k s x y h) (safe7Uok k s x y h) (safe7Cok k s x y h)
theorem safe7R (k s x y : Int)  (h : k ≠ 1 ∧ k ≠ 2 ∧ k ≠ 4 ∧ k ≠ 7 ∧ k ≠ 5) : Ev.withB Try.prog (fun B => Ev.resIs (.bool false) (@Ev.fcall (safe7S k s x y h) B (@Ev.fev (safe7S k s x y h) B 200) 18 [.agg #[.complex .f64 0 0, .complex .f64 1 0], .agg #[.complex .f64 2 0, .complex .f64 3 0]] Ev.s0)) = true := by kernel_rfl
theorem safe7 (k s x y : Int)  (h : k ≠ 1 ∧ k ≠ 2 ∧ k ≠ 4 ∧ k ≠ 7 ∧ k ≠ 5) (w : World) : Calls Try.prog 18 #[.agg #[.int .i64 k, .int .i64 s], .agg #[.int .i64 x, .int .i64 y]] w fun e w' => e = .returned (.bool false) ∧ Below w.heap.size w w' :=
  @Ev.fast_sym (safe7S k s x y h) _ Try.codeOk (Ev.mkSig_cal (safe7Kok k s x y h)) mixed_ok 200 _ #[.agg #[.complex .f64 0 0, .complex .f64 1 0], .agg #[.complex .f64 2 0, .complex .f64 3 0]] _ _ (safe7R k s x y h) (@Ev.symArgs (safe7S k s x y h) _ #[.agg #[.complex .f64 0 0, .complex .f64 1 0], .agg #[.complex .f64 2 0, .complex .f64 3 0]] rfl) w

def rsafe7V (k s x y : Int) : Nat → Value
  | 0 => .int .i64 k
  | 1 => .int .i64 s
  | 2 => .int .i64 x
  | 3 => .int .i64 y
  | _ => .int .i64 0
theorem rsafe7L (k s x y : Int) : ∀ j9, Ev.leafV (rsafe7V k s x y j9) = true := by
  intro j9
  unfold rsafe7V
  split <;> rfl
def rsafe7B : List Ev.BFact := [(.eql, .complex .f64 0 0, .int .i64 1, .bool false), (.eql, .complex .f64 0 0, .int .i64 2, .bool false), (.eql, .complex .f64 0 0, .int .i64 4, .bool false), (.eql, .complex .f64 0 0, .int .i64 7, .bool false), (.eql, .complex .f64 0 0, .int .i64 5, .bool false)]
theorem rsafe7Bok (k s x y : Int)  (h : k ≠ 1 ∧ k ≠ 2 ∧ k ≠ 4 ∧ k ≠ 7 ∧ k ≠ 5) : ∀ q ∈ rsafe7B, Ev.BTrue (rsafe7V k s x y) q := by
  intro q hq
  simp only [rsafe7B, List.mem_cons, List.not_mem_nil, or_false] at hq
  rcases hq with rfl | rfl | rfl | rfl | rfl
  · intro t ox oy; exact Ev.bt_eql (by simp; omega)
  · intro t ox oy; exact Ev.bt_eql (by simp; omega)
  · intro t ox oy; exact Ev.bt_eql (by simp; omega)
  · intro t ox oy; exact Ev.bt_eql (by simp; omega)
  · intro t ox oy; exact Ev.bt_eql (by simp; omega)
def rsafe7U : List Ev.UFact := []
theorem rsafe7Uok (k s x y : Int)  (h : k ≠ 1 ∧ k ≠ 2 ∧ k ≠ 4 ∧ k ≠ 7 ∧ k ≠ 5) : ∀ q ∈ rsafe7U, Ev.UTrue (rsafe7V k s x y) q := by
  intro q hq
  cases hq
def rsafe7C : List Ev.CFact := []
theorem rsafe7Cok (k s x y : Int)  (h : k ≠ 1 ∧ k ≠ 2 ∧ k ≠ 4 ∧ k ≠ 7 ∧ k ≠ 5) : ∀ q ∈ rsafe7C, Ev.CTrue (rsafe7V k s x y) q := by
  intro q hq
  cases hq
def rsafe7K : List Ev.KFact := []
theorem rsafe7Kok (k s x y : Int)  (h : k ≠ 1 ∧ k ≠ 2 ∧ k ≠ 4 ∧ k ≠ 7 ∧ k ≠ 5) : ∀ q ∈ rsafe7K, Ev.KTrue Try.prog (rsafe7V k s x y) q := by
  intro q hq
  cases hq
@[reducible] noncomputable def rsafe7S (k s x y : Int)  (h : k ≠ 1 ∧ k ≠ 2 ∧ k ≠ 4 ∧ k ≠ 7 ∧ k ≠ 5) : Ev.Sig := Ev.mkSig (rsafe7V k s x y) (rsafe7L k s x y) rsafe7B rsafe7U rsafe7C rsafe7K (rsafe7Bok k s x y h) (rsafe7Uok k s x y h) (rsafe7Cok k s x y h)
theorem rsafe7R (k s x y : Int)  (h : k ≠ 1 ∧ k ≠ 2 ∧ k ≠ 4 ∧ k ≠ 7 ∧ k ≠ 5) : Ev.withB Try.prog (fun B => Ev.resIs (.bool false) (@Ev.fcall (rsafe7S k s x y h) B (@Ev.fev (rsafe7S k s x y h) B 200) 19 [.complex .f64 0 0, .complex .f64 2 0] Ev.s0)) = true := by kernel_rfl
theorem rsafe7 (k s x y : Int)  (h : k ≠ 1 ∧ k ≠ 2 ∧ k ≠ 4 ∧ k ≠ 7 ∧ k ≠ 5) (w : World) : Calls Try.prog 19 #[.int .i64 k, .int .i64 x] w fun e w' => e = .returned (.bool false) ∧ Below w.heap.size w w' :=
  @Ev.fast_sym (rsafe7S k s x y h) _ Try.codeOk (Ev.mkSig_cal (rsafe7Kok k s x y h)) mixed_ok 200 _ #[.complex .f64 0 0, .complex .f64 2 0] _ _ (rsafe7R k s x y h) (@Ev.symArgs (rsafe7S k s x y h) _ #[.complex .f64 0 0, .complex .f64 2 0] rfl) w

def inB (k s : Int) : Prop := 0 ≤ k ∧ k < 8 ∧ 0 ≤ s ∧ s < 4
def safeB (k x : Int) : Bool := k == 1 || k == 2 || k == 4 || k == 7 || (k == 5 && x == 4)
theorem byteIn (k s : Int) (h : inB k s) (w : World) : Calls Try.prog 17 #[.agg #[.int .i64 k, .int .i64 s]] w fun e w' => e = .returned (.int .u8 (k + 8 * s)) ∧ Below w.heap.size w w' := byte5 k s h w
theorem byteOut (k s : Int) (h : ¬ inB k s) (w : World) : Calls Try.prog 17 #[.agg #[.int .i64 k, .int .i64 s]] w fun e w' => e = .returned (.int .u8 255) ∧ Below w.heap.size w w' := by
  unfold inB at h
  by_cases h1 : k < 0
  · exact byte1 k s h1 w
  · by_cases h2 : 8 ≤ k
    · exact byte2 k s h2 w
    · by_cases h3 : s < 0
      · exact byte3 k s ⟨by omega, by omega, h3⟩ w
      · exact byte4 k s ⟨by omega, by omega, by omega⟩ w
theorem rbyteOut (k s : Int) (h : ¬ inB k s) (w : World) : Calls Try.prog 16 #[.int .i64 k, .int .i64 s] w fun e w' => e = .returned (.int .i64 (-1)) ∧ Below w.heap.size w w' := by
  unfold inB at h
  by_cases h1 : k < 0
  · exact rbyte1 k s h1 w
  · by_cases h2 : 8 ≤ k
    · exact rbyte2 k s h2 w
    · by_cases h3 : s < 0
      · exact rbyte3 k s ⟨by omega, by omega, h3⟩ w
      · exact rbyte4 k s ⟨by omega, by omega, by omega⟩ w
theorem safe_any (k s x y : Int) (w : World) : Calls Try.prog 18 #[.agg #[.int .i64 k, .int .i64 s], .agg #[.int .i64 x, .int .i64 y]] w fun e w' => e = .returned (.bool (safeB k x)) ∧ Below w.heap.size w w' := by
  by_cases h1 : k = 1
  · have : safeB k x = true := by simp [safeB, h1]
    rw [this]; exact safe1 k s x y h1 w
  · by_cases h2 : k = 2
    · have : safeB k x = true := by simp [safeB, h2]
      rw [this]; exact safe2 k s x y h2 w
    · by_cases h4 : k = 4
      · have : safeB k x = true := by simp [safeB, h4]
        rw [this]; exact safe3 k s x y h4 w
      · by_cases h7 : k = 7
        · have : safeB k x = true := by simp [safeB, h7]
          rw [this]; exact safe4 k s x y h7 w
        · by_cases h5 : k = 5
          · by_cases hx : x = 4
            · have : safeB k x = true := by simp [safeB, h5, hx]
              rw [this]; exact safe5 k s x y ⟨h5, hx⟩ w
            · have : safeB k x = false := by simp [safeB, h5, hx]
              rw [this]; exact safe6 k s x y ⟨h5, hx⟩ w
          · have : safeB k x = false := by simp [safeB, h1, h2, h4, h5, h7]
            rw [this]; exact safe7 k s x y ⟨h1, h2, h4, h7, h5⟩ w
theorem rsafe_any (k s x y : Int) (w : World) : Calls Try.prog 19 #[.int .i64 k, .int .i64 x] w fun e w' => e = .returned (.bool (safeB k x)) ∧ Below w.heap.size w w' := by
  by_cases h1 : k = 1
  · have : safeB k x = true := by simp [safeB, h1]
    rw [this]; exact rsafe1 k s x y h1 w
  · by_cases h2 : k = 2
    · have : safeB k x = true := by simp [safeB, h2]
      rw [this]; exact rsafe2 k s x y h2 w
    · by_cases h4 : k = 4
      · have : safeB k x = true := by simp [safeB, h4]
        rw [this]; exact rsafe3 k s x y h4 w
      · by_cases h7 : k = 7
        · have : safeB k x = true := by simp [safeB, h7]
          rw [this]; exact rsafe4 k s x y h7 w
        · by_cases h5 : k = 5
          · by_cases hx : x = 4
            · have : safeB k x = true := by simp [safeB, h5, hx]
              rw [this]; exact rsafe5 k s x y ⟨h5, hx⟩ w
            · have : safeB k x = false := by simp [safeB, h5, hx]
              rw [this]; exact rsafe6 k s x y ⟨h5, hx⟩ w
          · have : safeB k x = false := by simp [safeB, h1, h2, h4, h5, h7]
            rw [this]; exact rsafe7 k s x y ⟨h1, h2, h4, h7, h5⟩ w

def law1V (b k s x y : Int) : Nat → Value
  | 0 => .int .u8 b
  | 1 => .int .i64 b
  | 2 => .int .i64 (b.tdiv 8)
  | 3 => .int .i64 k
  | 4 => .int .i64 s
  | 5 => .int .i64 x
  | 6 => .int .i64 y
  | 7 => .int .u8 (k + 8 * s)
  | 8 => .int .i64 (k + 8 * s)
  | _ => .int .i64 0
theorem law1L (b k s x y : Int) : ∀ j9, Ev.leafV (law1V b k s x y j9) = true := by
  intro j9
  unfold law1V
  split <;> rfl
def law1B (bi bj : Int) (sb : Bool) : List Ev.BFact := [(.rem, .complex .f64 1 0, .int .i64 8, .int .i64 bi), (.quo, .complex .f64 1 0, .int .i64 8, .complex .f64 2 0), (.rem, .complex .f64 2 0, .int .i64 4, .int .i64 bj), (.rem, .complex .f64 1 0, .int .i64 32, .int .i64 (bi + 8 * bj)), (.lss, .complex .f64 8 0, .int .i64 0, .bool false), (.eql, .complex .f64 8 0, .complex .f64 8 0, .bool true)]
theorem law1Bok (bi bj : Int) (sb : Bool) (b k s x y : Int) (h : 0 ≤ b ∧ b < 256 ∧ b % 32 = bi + 8 * bj ∧ 0 ≤ bi ∧ bi < 8 ∧ 0 ≤ bj ∧ bj < 4) (hi : inB k s) (hs : safeB k x = sb) : ∀ q ∈ law1B bi bj sb, Ev.BTrue (law1V b k s x y) q := by
  unfold inB at hi
  have e1 : ∀ m : Int, b.tmod m = b % m := fun m => Int.tmod_eq_emod_of_nonneg h.1
  have e2 : b.tdiv 8 = b / 8 := Int.tdiv_eq_ediv_of_nonneg h.1
  have e3 : (b.tdiv 8).tmod 4 = (b / 8) % 4 := by rw [e2]; exact Int.tmod_eq_emod_of_nonneg (by omega)
  intro q hq
  simp only [law1B, List.mem_cons, List.not_mem_nil, or_false] at hq
  rcases hq with rfl | rfl | rfl | rfl | rfl | rfl
  · intro t ox oy; exact Ev.bt_rem (by decide) (by rw [e1]; omega)
  · intro t ox oy; exact Ev.bt_quo (by decide) (IntWalk.i64_in _ (by rw [e2]; omega))
  · intro t ox oy; exact Ev.bt_rem (by decide) (by rw [e3]; omega)
  · intro t ox oy; exact Ev.bt_rem (by decide) (by rw [e1]; omega)
  · intro t ox oy; exact Ev.bt_lss (by simp; omega)
  · intro t ox oy; exact Ev.bt_eql (by simp)
def law1C (bi bj : Int) (sb : Bool) : List Ev.CFact := [(.i64, .complex .f64 0 0, .complex .f64 1 0), (.i64, .complex .f64 7 0, .complex .f64 8 0)]
theorem law1Cok (bi bj : Int) (sb : Bool) (b k s x y : Int) (h : 0 ≤ b ∧ b < 256 ∧ b % 32 = bi + 8 * bj ∧ 0 ≤ bi ∧ bi < 8 ∧ 0 ≤ bj ∧ bj < 4) (hi : inB k s) (hs : safeB k x = sb) : ∀ q ∈ law1C bi bj sb, Ev.CTrue (law1V b k s x y) q := by
  unfold inB at hi
  intro q hq
  simp only [law1C, List.mem_cons, List.not_mem_nil, or_false] at hq
  rcases hq with rfl | rfl
  · exact Ev.ct_in (k0 := .u8) (n := b) rfl rfl (IntWalk.i64_in _ (by omega))
  · exact Ev.ct_in (k0 := .u8) (n := k + 8 * s) rfl rfl (IntWalk.i64_in _ (by omega))
def law1K (bi bj : Int) (sb : Bool) : List Ev.KFact := [(17, [.agg #[.complex .f64 3 0, .complex .f64 4 0]], .complex .f64 7 0), (16, [.complex .f64 3 0, .complex .f64 4 0], .complex .f64 8 0), (18, [.agg #[.complex .f64 3 0, .complex .f64 4 0], .agg #[.complex .f64 5 0, .complex .f64 6 0]], .bool sb), (19, [.complex .f64 3 0, .complex .f64 5 0], .bool sb), (6, [], .bool true)]
theorem law1Kok (bi bj : Int) (sb : Bool) (b k s x y : Int) (h : 0 ≤ b ∧ b < 256 ∧ b % 32 = bi + 8 * bj ∧ 0 ≤ bi ∧ bi < 8 ∧ 0 ≤ bj ∧ bj < 4) (hi : inB k s) (hs : safeB k x = sb) : ∀ q ∈ law1K bi bj sb, Ev.KTrue Try.prog (law1V b k s x y) q := by
  intro q hq
  simp only [law1K, List.mem_cons, List.not_mem_nil, or_false] at hq
  rcases hq with rfl | rfl | rfl | rfl | rfl
  · intro w; exact byteIn k s hi w
  · intro w; exact rbyte5 k s hi w
  · intro w; subst hs; exact safe_any k s x y w
  · intro w; subst hs; exact rsafe_any k s x y w
  · intro w; exact works_any w
theorem law1U (b k s x y : Int) : ∀ q ∈ ([] : List Ev.UFact), Ev.UTrue (law1V b k s x y) q := fun q hq => by cases hq
@[reducible] noncomputable def law1S (bi bj : Int) (sb : Bool) (b k s x y : Int) (h : 0 ≤ b ∧ b < 256 ∧ b % 32 = bi + 8 * bj ∧ 0 ≤ bi ∧ bi < 8 ∧ 0 ≤ bj ∧ bj < 4) (hi : inB k s) (hs : safeB k x = sb) : Ev.Sig := Ev.mkSig (law1V b k s x y) (law1L b k s x y) (law1B bi bj sb) [] (law1C bi bj sb) (law1K bi bj sb) (law1Bok bi bj sb b k s x y h hi hs) (law1U b k s x y) (law1Cok bi bj sb b k s x y h hi hs)
theorem law1Any (bi bj : Int) (sb : Bool) (b k s x y : Int) (h : 0 ≤ b ∧ b < 256 ∧ b % 32 = bi + 8 * bj ∧ 0 ≤ bi ∧ bi < 8 ∧ 0 ≤ bj ∧ bj < 4) (hi : inB k s) (hs : safeB k x = sb) (hrun : Ev.withB Try.prog (fun B => Ev.resIs (.bool true) (@Ev.fcall (law1S bi bj sb b k s x y h hi hs) B (@Ev.fev (law1S bi bj sb b k s x y h hi hs) B 200) 4 [.complex .f64 0 0, .agg #[.complex .f64 3 0, .complex .f64 4 0], .agg #[.complex .f64 5 0, .complex .f64 6 0]] Ev.s0)) = true) (w : World) : Calls Try.prog 4 #[.int .u8 b, .agg #[.int .i64 k, .int .i64 s], .agg #[.int .i64 x, .int .i64 y]] w fun e w' => e = .returned (.bool true) ∧ Below w.heap.size w w' :=
  @Ev.fast_sym (law1S bi bj sb b k s x y h hi hs) _ Try.codeOk (Ev.mkSig_cal (law1Kok bi bj sb b k s x y h hi hs)) mixed_ok 200 _ #[.complex .f64 0 0, .agg #[.complex .f64 3 0, .complex .f64 4 0], .agg #[.complex .f64 5 0, .complex .f64 6 0]] _ _ hrun (@Ev.symArgs (law1S bi bj sb b k s x y h hi hs) _ #[.complex .f64 0 0, .agg #[.complex .f64 3 0, .complex .f64 4 0], .agg #[.complex .f64 5 0, .complex .f64 6 0]] rfl) w

def law0V (b k s x y : Int) : Nat → Value
  | 0 => .int .u8 b
  | 1 => .int .i64 b
  | 2 => .int .i64 (b.tdiv 8)
  | 3 => .int .i64 k
  | 4 => .int .i64 s
  | 5 => .int .i64 x
  | 6 => .int .i64 y
  | 7 => .int .u8 (k + 8 * s)
  | 8 => .int .i64 (k + 8 * s)
  | _ => .int .i64 0
theorem law0L (b k s x y : Int) : ∀ j9, Ev.leafV (law0V b k s x y j9) = true := by
  intro j9
  unfold law0V
  split <;> rfl
def law0B (bi bj : Int) (sb : Bool) : List Ev.BFact := [(.rem, .complex .f64 1 0, .int .i64 8, .int .i64 bi), (.quo, .complex .f64 1 0, .int .i64 8, .complex .f64 2 0), (.rem, .complex .f64 2 0, .int .i64 4, .int .i64 bj), (.rem, .complex .f64 1 0, .int .i64 32, .int .i64 (bi + 8 * bj))]
theorem law0Bok (bi bj : Int) (sb : Bool) (b k s x y : Int) (h : 0 ≤ b ∧ b < 256 ∧ b % 32 = bi + 8 * bj ∧ 0 ≤ bi ∧ bi < 8 ∧ 0 ≤ bj ∧ bj < 4) (hi : ¬ inB k s) (hs : safeB k x = sb) : ∀ q ∈ law0B bi bj sb, Ev.BTrue (law0V b k s x y) q := by
  have e1 : ∀ m : Int, b.tmod m = b % m := fun m => Int.tmod_eq_emod_of_nonneg h.1
  have e2 : b.tdiv 8 = b / 8 := Int.tdiv_eq_ediv_of_nonneg h.1
  have e3 : (b.tdiv 8).tmod 4 = (b / 8) % 4 := by rw [e2]; exact Int.tmod_eq_emod_of_nonneg (by omega)
  intro q hq
  simp only [law0B, List.mem_cons, List.not_mem_nil, or_false] at hq
  rcases hq with rfl | rfl | rfl | rfl
  · intro t ox oy; exact Ev.bt_rem (by decide) (by rw [e1]; omega)
  · intro t ox oy; exact Ev.bt_quo (by decide) (IntWalk.i64_in _ (by rw [e2]; omega))
  · intro t ox oy; exact Ev.bt_rem (by decide) (by rw [e3]; omega)
  · intro t ox oy; exact Ev.bt_rem (by decide) (by rw [e1]; omega)
def law0C (bi bj : Int) (sb : Bool) : List Ev.CFact := [(.i64, .complex .f64 0 0, .complex .f64 1 0)]
theorem law0Cok (bi bj : Int) (sb : Bool) (b k s x y : Int) (h : 0 ≤ b ∧ b < 256 ∧ b % 32 = bi + 8 * bj ∧ 0 ≤ bi ∧ bi < 8 ∧ 0 ≤ bj ∧ bj < 4) (hi : ¬ inB k s) (hs : safeB k x = sb) : ∀ q ∈ law0C bi bj sb, Ev.CTrue (law0V b k s x y) q := by
  intro q hq
  simp only [law0C, List.mem_cons, List.not_mem_nil, or_false] at hq
  subst hq
  · exact Ev.ct_in (k0 := .u8) (n := b) rfl rfl (IntWalk.i64_in _ (by omega))
def law0K (bi bj : Int) (sb : Bool) : List Ev.KFact := [(17, [.agg #[.complex .f64 3 0, .complex .f64 4 0]], .int .u8 255), (16, [.complex .f64 3 0, .complex .f64 4 0], .int .i64 (-1)), (18, [.agg #[.complex .f64 3 0, .complex .f64 4 0], .agg #[.complex .f64 5 0, .complex .f64 6 0]], .bool sb), (19, [.complex .f64 3 0, .complex .f64 5 0], .bool sb), (6, [], .bool true)]
theorem law0Kok (bi bj : Int) (sb : Bool) (b k s x y : Int) (h : 0 ≤ b ∧ b < 256 ∧ b % 32 = bi + 8 * bj ∧ 0 ≤ bi ∧ bi < 8 ∧ 0 ≤ bj ∧ bj < 4) (hi : ¬ inB k s) (hs : safeB k x = sb) : ∀ q ∈ law0K bi bj sb, Ev.KTrue Try.prog (law0V b k s x y) q := by
  intro q hq
  simp only [law0K, List.mem_cons, List.not_mem_nil, or_false] at hq
  rcases hq with rfl | rfl | rfl | rfl | rfl
  · intro w; exact byteOut k s hi w
  · intro w; exact rbyteOut k s hi w
  · intro w; subst hs; exact safe_any k s x y w
  · intro w; subst hs; exact rsafe_any k s x y w
  · intro w; exact works_any w
theorem law0U (b k s x y : Int) : ∀ q ∈ ([] : List Ev.UFact), Ev.UTrue (law0V b k s x y) q := fun q hq => by cases hq
@[reducible] noncomputable def law0S (bi bj : Int) (sb : Bool) (b k s x y : Int) (h : 0 ≤ b ∧ b < 256 ∧ b % 32 = bi + 8 * bj ∧ 0 ≤ bi ∧ bi < 8 ∧ 0 ≤ bj ∧ bj < 4) (hi : ¬ inB k s) (hs : safeB k x = sb) : Ev.Sig := Ev.mkSig (law0V b k s x y) (law0L b k s x y) (law0B bi bj sb) [] (law0C bi bj sb) (law0K bi bj sb) (law0Bok bi bj sb b k s x y h hi hs) (law0U b k s x y) (law0Cok bi bj sb b k s x y h hi hs)
theorem law0Any (bi bj : Int) (sb : Bool) (b k s x y : Int) (h : 0 ≤ b ∧ b < 256 ∧ b % 32 = bi + 8 * bj ∧ 0 ≤ bi ∧ bi < 8 ∧ 0 ≤ bj ∧ bj < 4) (hi : ¬ inB k s) (hs : safeB k x = sb) (hrun : Ev.withB Try.prog (fun B => Ev.resIs (.bool true) (@Ev.fcall (law0S bi bj sb b k s x y h hi hs) B (@Ev.fev (law0S bi bj sb b k s x y h hi hs) B 200) 4 [.complex .f64 0 0, .agg #[.complex .f64 3 0, .complex .f64 4 0], .agg #[.complex .f64 5 0, .complex .f64 6 0]] Ev.s0)) = true) (w : World) : Calls Try.prog 4 #[.int .u8 b, .agg #[.int .i64 k, .int .i64 s], .agg #[.int .i64 x, .int .i64 y]] w fun e w' => e = .returned (.bool true) ∧ Below w.heap.size w w' :=
  @Ev.fast_sym (law0S bi bj sb b k s x y h hi hs) _ Try.codeOk (Ev.mkSig_cal (law0Kok bi bj sb b k s x y h hi hs)) mixed_ok 200 _ #[.complex .f64 0 0, .agg #[.complex .f64 3 0, .complex .f64 4 0], .agg #[.complex .f64 5 0, .complex .f64 6 0]] _ _ hrun (@Ev.symArgs (law0S bi bj sb b k s x y h hi hs) _ #[.complex .f64 0 0, .agg #[.complex .f64 3 0, .complex .f64 4 0], .agg #[.complex .f64 5 0, .complex .f64 6 0]] rfl) w

theorem actBytes_any (b k s x y : Int) (hb : 0 ≤ b ∧ b < 256) (w : World) : Calls Try.prog 4 #[.int .u8 b, .agg #[.int .i64 k, .int .i64 s], .agg #[.int .i64 x, .int .i64 y]] w fun e w' => e = .returned (.bool true) ∧ Below w.heap.size w w' := by
  have hm : ∃ m : Nat, m < 32 ∧ b % 32 = m := ⟨(b % 32).toNat, by omega, by omega⟩
  obtain ⟨m, hm, hbm⟩ := hm
  by_cases hi : inB k s
  · cases hs : safeB k x with
    | false =>
      match m, hm with
      | 0, _ => exact law1Any 0 0 false b k s x y (by omega) hi hs (by kernel_rfl) w
      | 1, _ => exact law1Any 1 0 false b k s x y (by omega) hi hs (by kernel_rfl) w
      | 2, _ => exact law1Any 2 0 false b k s x y (by omega) hi hs (by kernel_rfl) w
      | 3, _ => exact law1Any 3 0 false b k s x y (by omega) hi hs (by kernel_rfl) w
      | 4, _ => exact law1Any 4 0 false b k s x y (by omega) hi hs (by kernel_rfl) w
      | 5, _ => exact law1Any 5 0 false b k s x y (by omega) hi hs (by kernel_rfl) w
      | 6, _ => exact law1Any 6 0 false b k s x y (by omega) hi hs (by kernel_rfl) w
      | 7, _ => exact law1Any 7 0 false b k s x y (by omega) hi hs (by kernel_rfl) w
      | 8, _ => exact law1Any 0 1 false b k s x y (by omega) hi hs (by kernel_rfl) w
      | 9, _ => exact law1Any 1 1 false b k s x y (by omega) hi hs (by kernel_rfl) w
      | 10, _ => exact law1Any 2 1 false b k s x y (by omega) hi hs (by kernel_rfl) w
      | 11, _ => exact law1Any 3 1 false b k s x y (by omega) hi hs (by kernel_rfl) w
      | 12, _ => exact law1Any 4 1 false b k s x y (by omega) hi hs (by kernel_rfl) w
      | 13, _ => exact law1Any 5 1 false b k s x y (by omega) hi hs (by kernel_rfl) w
      | 14, _ => exact law1Any 6 1 false b k s x y (by omega) hi hs (by kernel_rfl) w
      | 15, _ => exact law1Any 7 1 false b k s x y (by omega) hi hs (by kernel_rfl) w
      | 16, _ => exact law1Any 0 2 false b k s x y (by omega) hi hs (by kernel_rfl) w
      | 17, _ => exact law1Any 1 2 false b k s x y (by omega) hi hs (by kernel_rfl) w
      | 18, _ => exact law1Any 2 2 false b k s x y (by omega) hi hs (by kernel_rfl) w
      | 19, _ => exact law1Any 3 2 false b k s x y (by omega) hi hs (by kernel_rfl) w
      | 20, _ => exact law1Any 4 2 false b k s x y (by omega) hi hs (by kernel_rfl) w
      | 21, _ => exact law1Any 5 2 false b k s x y (by omega) hi hs (by kernel_rfl) w
      | 22, _ => exact law1Any 6 2 false b k s x y (by omega) hi hs (by kernel_rfl) w
      | 23, _ => exact law1Any 7 2 false b k s x y (by omega) hi hs (by kernel_rfl) w
      | 24, _ => exact law1Any 0 3 false b k s x y (by omega) hi hs (by kernel_rfl) w
      | 25, _ => exact law1Any 1 3 false b k s x y (by omega) hi hs (by kernel_rfl) w
      | 26, _ => exact law1Any 2 3 false b k s x y (by omega) hi hs (by kernel_rfl) w
      | 27, _ => exact law1Any 3 3 false b k s x y (by omega) hi hs (by kernel_rfl) w
      | 28, _ => exact law1Any 4 3 false b k s x y (by omega) hi hs (by kernel_rfl) w
      | 29, _ => exact law1Any 5 3 false b k s x y (by omega) hi hs (by kernel_rfl) w
      | 30, _ => exact law1Any 6 3 false b k s x y (by omega) hi hs (by kernel_rfl) w
      | 31, _ => exact law1Any 7 3 false b k s x y (by omega) hi hs (by kernel_rfl) w
      | n + 32, hm => omega
    | true =>
      match m, hm with
      | 0, _ => exact law1Any 0 0 true b k s x y (by omega) hi hs (by kernel_rfl) w
      | 1, _ => exact law1Any 1 0 true b k s x y (by omega) hi hs (by kernel_rfl) w
      | 2, _ => exact law1Any 2 0 true b k s x y (by omega) hi hs (by kernel_rfl) w
      | 3, _ => exact law1Any 3 0 true b k s x y (by omega) hi hs (by kernel_rfl) w
      | 4, _ => exact law1Any 4 0 true b k s x y (by omega) hi hs (by kernel_rfl) w
      | 5, _ => exact law1Any 5 0 true b k s x y (by omega) hi hs (by kernel_rfl) w
      | 6, _ => exact law1Any 6 0 true b k s x y (by omega) hi hs (by kernel_rfl) w
      | 7, _ => exact law1Any 7 0 true b k s x y (by omega) hi hs (by kernel_rfl) w
      | 8, _ => exact law1Any 0 1 true b k s x y (by omega) hi hs (by kernel_rfl) w
      | 9, _ => exact law1Any 1 1 true b k s x y (by omega) hi hs (by kernel_rfl) w
      | 10, _ => exact law1Any 2 1 true b k s x y (by omega) hi hs (by kernel_rfl) w
      | 11, _ => exact law1Any 3 1 true b k s x y (by omega) hi hs (by kernel_rfl) w
      | 12, _ => exact law1Any 4 1 true b k s x y (by omega) hi hs (by kernel_rfl) w
      | 13, _ => exact law1Any 5 1 true b k s x y (by omega) hi hs (by kernel_rfl) w
      | 14, _ => exact law1Any 6 1 true b k s x y (by omega) hi hs (by kernel_rfl) w
      | 15, _ => exact law1Any 7 1 true b k s x y (by omega) hi hs (by kernel_rfl) w
      | 16, _ => exact law1Any 0 2 true b k s x y (by omega) hi hs (by kernel_rfl) w
      | 17, _ => exact law1Any 1 2 true b k s x y (by omega) hi hs (by kernel_rfl) w
      | 18, _ => exact law1Any 2 2 true b k s x y (by omega) hi hs (by kernel_rfl) w
      | 19, _ => exact law1Any 3 2 true b k s x y (by omega) hi hs (by kernel_rfl) w
      | 20, _ => exact law1Any 4 2 true b k s x y (by omega) hi hs (by kernel_rfl) w
      | 21, _ => exact law1Any 5 2 true b k s x y (by omega) hi hs (by kernel_rfl) w
      | 22, _ => exact law1Any 6 2 true b k s x y (by omega) hi hs (by kernel_rfl) w
      | 23, _ => exact law1Any 7 2 true b k s x y (by omega) hi hs (by kernel_rfl) w
      | 24, _ => exact law1Any 0 3 true b k s x y (by omega) hi hs (by kernel_rfl) w
      | 25, _ => exact law1Any 1 3 true b k s x y (by omega) hi hs (by kernel_rfl) w
      | 26, _ => exact law1Any 2 3 true b k s x y (by omega) hi hs (by kernel_rfl) w
      | 27, _ => exact law1Any 3 3 true b k s x y (by omega) hi hs (by kernel_rfl) w
      | 28, _ => exact law1Any 4 3 true b k s x y (by omega) hi hs (by kernel_rfl) w
      | 29, _ => exact law1Any 5 3 true b k s x y (by omega) hi hs (by kernel_rfl) w
      | 30, _ => exact law1Any 6 3 true b k s x y (by omega) hi hs (by kernel_rfl) w
      | 31, _ => exact law1Any 7 3 true b k s x y (by omega) hi hs (by kernel_rfl) w
      | n + 32, hm => omega
  · cases hs : safeB k x with
    | false =>
      match m, hm with
      | 0, _ => exact law0Any 0 0 false b k s x y (by omega) hi hs (by kernel_rfl) w
      | 1, _ => exact law0Any 1 0 false b k s x y (by omega) hi hs (by kernel_rfl) w
      | 2, _ => exact law0Any 2 0 false b k s x y (by omega) hi hs (by kernel_rfl) w
      | 3, _ => exact law0Any 3 0 false b k s x y (by omega) hi hs (by kernel_rfl) w
      | 4, _ => exact law0Any 4 0 false b k s x y (by omega) hi hs (by kernel_rfl) w
      | 5, _ => exact law0Any 5 0 false b k s x y (by omega) hi hs (by kernel_rfl) w
      | 6, _ => exact law0Any 6 0 false b k s x y (by omega) hi hs (by kernel_rfl) w
      | 7, _ => exact law0Any 7 0 false b k s x y (by omega) hi hs (by kernel_rfl) w
      | 8, _ => exact law0Any 0 1 false b k s x y (by omega) hi hs (by kernel_rfl) w
      | 9, _ => exact law0Any 1 1 false b k s x y (by omega) hi hs (by kernel_rfl) w
      | 10, _ => exact law0Any 2 1 false b k s x y (by omega) hi hs (by kernel_rfl) w
      | 11, _ => exact law0Any 3 1 false b k s x y (by omega) hi hs (by kernel_rfl) w
      | 12, _ => exact law0Any 4 1 false b k s x y (by omega) hi hs (by kernel_rfl) w
      | 13, _ => exact law0Any 5 1 false b k s x y (by omega) hi hs (by kernel_rfl) w
      | 14, _ => exact law0Any 6 1 false b k s x y (by omega) hi hs (by kernel_rfl) w
      | 15, _ => exact law0Any 7 1 false b k s x y (by omega) hi hs (by kernel_rfl) w
      | 16, _ => exact law0Any 0 2 false b k s x y (by omega) hi hs (by kernel_rfl) w
      | 17, _ => exact law0Any 1 2 false b k s x y (by omega) hi hs (by kernel_rfl) w
      | 18, _ => exact law0Any 2 2 false b k s x y (by omega) hi hs (by kernel_rfl) w
      | 19, _ => exact law0Any 3 2 false b k s x y (by omega) hi hs (by kernel_rfl) w
      | 20, _ => exact law0Any 4 2 false b k s x y (by omega) hi hs (by kernel_rfl) w
      | 21, _ => exact law0Any 5 2 false b k s x y (by omega) hi hs (by kernel_rfl) w
      | 22, _ => exact law0Any 6 2 false b k s x y (by omega) hi hs (by kernel_rfl) w
      | 23, _ => exact law0Any 7 2 false b k s x y (by omega) hi hs (by kernel_rfl) w
      | 24, _ => exact law0Any 0 3 false b k s x y (by omega) hi hs (by kernel_rfl) w
      | 25, _ => exact law0Any 1 3 false b k s x y (by omega) hi hs (by kernel_rfl) w
      | 26, _ => exact law0Any 2 3 false b k s x y (by omega) hi hs (by kernel_rfl) w
      | 27, _ => exact law0Any 3 3 false b k s x y (by omega) hi hs (by kernel_rfl) w
      | 28, _ => exact law0Any 4 3 false b k s x y (by omega) hi hs (by kernel_rfl) w
      | 29, _ => exact law0Any 5 3 false b k s x y (by omega) hi hs (by kernel_rfl) w
      | 30, _ => exact law0Any 6 3 false b k s x y (by omega) hi hs (by kernel_rfl) w
      | 31, _ => exact law0Any 7 3 false b k s x y (by omega) hi hs (by kernel_rfl) w
      | n + 32, hm => omega
    | true =>
      match m, hm with
      | 0, _ => exact law0Any 0 0 true b k s x y (by omega) hi hs (by kernel_rfl) w
      | 1, _ => exact law0Any 1 0 true b k s x y (by omega) hi hs (by kernel_rfl) w
      | 2, _ => exact law0Any 2 0 true b k s x y (by omega) hi hs (by kernel_rfl) w
      | 3, _ => exact law0Any 3 0 true b k s x y (by omega) hi hs (by kernel_rfl) w
      | 4, _ => exact law0Any 4 0 true b k s x y (by omega) hi hs (by kernel_rfl) w
      | 5, _ => exact law0Any 5 0 true b k s x y (by omega) hi hs (by kernel_rfl) w
      | 6, _ => exact law0Any 6 0 true b k s x y (by omega) hi hs (by kernel_rfl) w
      | 7, _ => exact law0Any 7 0 true b k s x y (by omega) hi hs (by kernel_rfl) w
      | 8, _ => exact law0Any 0 1 true b k s x y (by omega) hi hs (by kernel_rfl) w
      | 9, _ => exact law0Any 1 1 true b k s x y (by omega) hi hs (by kernel_rfl) w
      | 10, _ => exact law0Any 2 1 true b k s x y (by omega) hi hs (by kernel_rfl) w
      | 11, _ => exact law0Any 3 1 true b k s x y (by omega) hi hs (by kernel_rfl) w
      | 12, _ => exact law0Any 4 1 true b k s x y (by omega) hi hs (by kernel_rfl) w
      | 13, _ => exact law0Any 5 1 true b k s x y (by omega) hi hs (by kernel_rfl) w
      | 14, _ => exact law0Any 6 1 true b k s x y (by omega) hi hs (by kernel_rfl) w
      | 15, _ => exact law0Any 7 1 true b k s x y (by omega) hi hs (by kernel_rfl) w
      | 16, _ => exact law0Any 0 2 true b k s x y (by omega) hi hs (by kernel_rfl) w
      | 17, _ => exact law0Any 1 2 true b k s x y (by omega) hi hs (by kernel_rfl) w
      | 18, _ => exact law0Any 2 2 true b k s x y (by omega) hi hs (by kernel_rfl) w
      | 19, _ => exact law0Any 3 2 true b k s x y (by omega) hi hs (by kernel_rfl) w
      | 20, _ => exact law0Any 4 2 true b k s x y (by omega) hi hs (by kernel_rfl) w
      | 21, _ => exact law0Any 5 2 true b k s x y (by omega) hi hs (by kernel_rfl) w
      | 22, _ => exact law0Any 6 2 true b k s x y (by omega) hi hs (by kernel_rfl) w
      | 23, _ => exact law0Any 7 2 true b k s x y (by omega) hi hs (by kernel_rfl) w
      | 24, _ => exact law0Any 0 3 true b k s x y (by omega) hi hs (by kernel_rfl) w
      | 25, _ => exact law0Any 1 3 true b k s x y (by omega) hi hs (by kernel_rfl) w
      | 26, _ => exact law0Any 2 3 true b k s x y (by omega) hi hs (by kernel_rfl) w
      | 27, _ => exact law0Any 3 3 true b k s x y (by omega) hi hs (by kernel_rfl) w
      | 28, _ => exact law0Any 4 3 true b k s x y (by omega) hi hs (by kernel_rfl) w
      | 29, _ => exact law0Any 5 3 true b k s x y (by omega) hi hs (by kernel_rfl) w
      | 30, _ => exact law0Any 6 3 true b k s x y (by omega) hi hs (by kernel_rfl) w
      | 31, _ => exact law0Any 7 3 true b k s x y (by omega) hi hs (by kernel_rfl) w
      | n + 32, hm => omega
end Go.Proofs.Ytankbefdlbcdnaa
