/- The bound of a fair row: 'fair.Bound' and the reference's 'Bound' return the same number, for every config, L and W. -/
import Derived.Test.YtjcibnfaijdgnaaConf
import Derived.Test.YtjcibnfaijdgnaaShelf
namespace Go.Proofs.Ytjcibnfaijdgnaa
open Go.RowKit
set_option linter.unusedVariables false
set_option linter.unusedSimpArgs false

def sumTo (x : Nat → Nat) : Nat → Nat
  | 0 => 0
  | k + 1 => min (sumTo x k + min (x k) 4611686018427387904) 4611686018427387904
def prodTo (x : Nat → Nat) : Nat → Nat
  | 0 => 1
  | k + 1 => min (prodTo x k * x k) 4611686018427387904
theorem sumTo_le (x : Nat → Nat) (k : Nat) : sumTo x k ≤ 4611686018427387904 := by
  cases k <;> simp only [sumTo] <;> omega
theorem prodTo_le (x : Nat → Nat) (k : Nat) : prodTo x k ≤ 4611686018427387904 := by
  cases k <;> simp only [prodTo] <;> omega

set_option maxHeartbeats 400000 in
theorem sum_any (b off n : Nat) (x : Nat → Nat) (w : World) (hn : n ≤ 1000) (hx : ∀ k, k < n → x k < 18446744073709551616)
    (hc : ∀ k, k < n → w.cell? ⟨b, off + k, none⟩ = some (.int .u64 (x k : Nat))) :
    Calls Try.prog 15 #[.slice (some ⟨b, off, none⟩) n n] w fun e w' => e = .returned (.int .u64 (sumTo x n : Nat)) ∧ w = w' := by
  have Hc := Lib.hid hc
  have Hx := Lib.hid hx
  clear hc hx
  go_enter Try.func15, Try.ntmps15
  go_wp2
  go_loop [2, 7] (fun s i => ∃ k : Nat, k ≤ n ∧ i = .int .i64 k ∧ s = .int .u64 (sumTo x k : Nat)) (fun _ i => n - (intOf i).toNat)
  case atStart => exact ⟨0, Nat.zero_le _, rfl, rfl⟩
  case round =>
    obtain ⟨k, hk, rfl, rfl⟩ := hrel
    by_cases hlt : k < n
    · have hc := Hc.out k hlt
      have hs := sumTo_le x k
      have hb := Hx.out k hlt
      go_wp2
      refine ⟨⟨k + 1, by omega, by go_num, ?_⟩, by simp [intOf]; omega⟩
      simp only [sumTo]
      congr 1
      omega
    · obtain rfl : k = n := by omega
      go_wp2
      go_ret
      exact ⟨rfl, rfl⟩

theorem ret_int {k : IntKind} {a b : Int} (h : a = b) : Ending.returned (.int k a) = .returned (.int k b) := by rw [h]
theorem val_int {k : IntKind} {a b : Int} (h : a = b) : Value.int k a = .int k b := by rw [h]
theorem mul_hi (a x : Nat) (h : 0 < a * x / 18446744073709551616) : min (a * x) 4611686018427387904 = 4611686018427387904 := by omega
theorem mul_lo (a x : Nat) (h : ¬ 0 < a * x / 18446744073709551616) : a * x % 18446744073709551616 = a * x := by omega

set_option maxHeartbeats 400000 in
theorem product_any (b off n : Nat) (x : Nat → Nat) (w : World) (hn : n ≤ 1000) (hx : ∀ k, k < n → x k < 18446744073709551616)
    (hc : ∀ k, k < n → w.cell? ⟨b, off + k, none⟩ = some (.int .u64 (x k : Nat))) :
    Calls Try.prog 16 #[.slice (some ⟨b, off, none⟩) n n] w fun e w' => e = .returned (.int .u64 (prodTo x n : Nat)) ∧ w = w' := by
  have Hc := Lib.hid hc
  have Hx := Lib.hid hx
  clear hc hx
  go_enter Try.func16, Try.ntmps16
  go_wp2
  go_loop [3, 10] (fun s i => ∃ k : Nat, k ≤ n ∧ i = .int .i64 k ∧ s = .int .u64 (prodTo x k : Nat)) (fun _ i => n - (intOf i).toNat)
  case atStart => exact ⟨0, Nat.zero_le _, rfl, rfl⟩
  case round =>
    obtain ⟨k, hk, rfl, rfl⟩ := hrel
    by_cases hlt : k < n
    · have hc := Hc.out k hlt
      have hs := prodTo_le x k
      have hb := Hx.out k hlt
      by_cases hh : 0 < prodTo x k * x k / 18446744073709551616
      · go_wp2_with (go_at_call 25; refine (Try.bits_Mul64 _ _ (by omega) (by omega) _).mono ?_; rintro e w' ⟨rfl, rfl⟩)
        refine ⟨⟨k + 1, by omega, by go_num, ?_⟩, by simp [intOf]; omega⟩
        simp only [prodTo]
        rw [mul_hi _ _ hh]
        rfl
      · go_wp2_with (go_at_call 25; refine (Try.bits_Mul64 _ _ (by omega) (by omega) _).mono ?_; rintro e w' ⟨rfl, rfl⟩)
        refine ⟨⟨k + 1, by omega, by go_num, ?_⟩, by simp [intOf]; omega⟩
        simp only [prodTo]
        have := mul_lo _ _ hh
        exact val_int (by omega)
    · obtain rfl : k = n := by omega
      go_wp2
      go_ret
      exact ⟨rfl, rfl⟩

set_option maxHeartbeats 400000 in
theorem refAdd_any (a b : Nat) (w : World) (ha : a ≤ 4611686018427387904) (hb : b ≤ 4611686018427387904) :
    Calls Try.prog 20 #[.int .u64 a, .int .u64 b] w fun e w' => e = .returned (.int .u64 (min (a + b) 4611686018427387904 : Nat)) ∧ w = w' := by
  go_enter Try.func20, Try.ntmps20
  go_wp2
  go_ret
  exact ⟨ret_int (by omega), rfl⟩

theorem mulq_hi (a b : Nat) (h0 : 0 < a) (h : (4611686018427387904 : Int) / a < b) : min (a * b) 4611686018427387904 = 4611686018427387904 := by
  have e : ((4611686018427387904 / a : Nat) : Int) = (4611686018427387904 : Int) / a := by simp
  have h' : 4611686018427387904 / a < b := by omega
  have := (Nat.div_lt_iff_lt_mul h0).1 h'
  rw [Nat.mul_comm] at this
  omega
theorem mulq_lo (a b : Nat) (h0 : 0 < a) (h : (b : Int) ≤ (4611686018427387904 : Int) / a) : a * b ≤ 4611686018427387904 := by
  have e : ((4611686018427387904 / a : Nat) : Int) = (4611686018427387904 : Int) / a := by simp
  have h' : b ≤ 4611686018427387904 / a := by omega
  have := (Nat.le_div_iff_mul_le h0).1 h'
  rw [Nat.mul_comm] at this
  omega

set_option maxHeartbeats 400000 in
theorem refMul_any (a b : Nat) (w : World) (ha : a < 18446744073709551616) (hb : b < 18446744073709551616) :
    Calls Try.prog 19 #[.int .u64 a, .int .u64 b] w fun e w' => e = .returned (.int .u64 (min (a * b) 4611686018427387904 : Nat)) ∧ w = w' := by
  go_enter Try.func19, Try.ntmps19
  go_wp2
  · go_ret
    exact ⟨ret_int (by have := mulq_hi a b (by omega) (by assumption); omega), rfl⟩
  · have hl := mulq_lo a b (by omega) (by assumption)
    go_ret
    have e : IntKind.u64.wrap ((a : Int) * b) = ((a * b : Nat) : Int) := by
      rw [IntKind.wrap_u64, ← Int.natCast_mul]
      omega
    exact ⟨ret_int (by rw [e]; omega), rfl⟩
  · obtain rfl : a = 0 := by omega
    go_ret
    exact ⟨ret_int (by simp [IntKind.wrap_u64]; omega), rfl⟩

def rsumTo (x : Nat → Nat) : Nat → Nat
  | 0 => 0
  | k + 1 => min (rsumTo x k + x k) 4611686018427387904
theorem rsumTo_le (x : Nat → Nat) (k : Nat) : rsumTo x k ≤ 4611686018427387904 := by
  cases k <;> simp only [rsumTo] <;> omega

set_option maxHeartbeats 400000 in
theorem refSum_any (b off n : Nat) (x : Nat → Nat) (w : World) (hn : n ≤ 1000) (hx : ∀ k, k < n → x k ≤ 4611686018427387904)
    (hc : ∀ k, k < n → w.cell? ⟨b, off + k, none⟩ = some (.int .u64 (x k : Nat))) :
    Calls Try.prog 18 #[.slice (some ⟨b, off, none⟩) n n] w fun e w' => e = .returned (.int .u64 (rsumTo x n : Nat)) ∧ w = w' := by
  have Hc := Lib.hid hc
  have Hx := Lib.hid hx
  clear hc hx
  go_enter Try.func18, Try.ntmps18
  go_wp2
  go_loop [3, 4] (fun s i => ∃ k : Nat, k ≤ n ∧ i = .int .i64 k ∧ s = .int .u64 (rsumTo x k : Nat)) (fun _ i => n - (intOf i).toNat)
  case atStart => exact ⟨0, Nat.zero_le _, rfl, rfl⟩
  case round =>
    obtain ⟨k, hk, rfl, rfl⟩ := hrel
    by_cases hlt : k < n
    · have hc := Hc.out k hlt
      have hs := rsumTo_le x k
      have hb := Hx.out k hlt
      go_wp2_with (go_at_call 20; refine (refAdd_any _ _ _ hs hb).mono ?_; rintro e w' ⟨rfl, rfl⟩)
      refine ⟨⟨k + 1, by omega, by go_num, ?_⟩, by simp [intOf]; omega⟩
      simp only [rsumTo]
    · obtain rfl : k = n := by omega
      go_wp2
      go_ret
      exact ⟨rfl, rfl⟩
end Go.Proofs.Ytjcibnfaijdgnaa
