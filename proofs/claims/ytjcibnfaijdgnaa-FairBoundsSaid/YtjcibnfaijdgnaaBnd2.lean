/- The bound of a fair row: the walk of 'fair.Bound'. -/
import Derived.Test.YtjcibnfaijdgnaaBnd
import Derived.Deep.QuietTactic
import Derived.BigQuiet
import Derived.Deep.RegionWith
import Derived.Deep.RegionHeld3
namespace Go.Proofs.Ytjcibnfaijdgnaa
open Go.RowKit
set_option linter.unusedVariables false
set_option linter.unusedSimpArgs false

set_option maxHeartbeats 400000 in
theorem bound_zero (N Q G M T S l v : Int) (w : World) (h : rightB N Q G M T S = false ∨ rightB N Q G M T S = true ∧ l < 1 ∨ rightB N Q G M T S = true ∧ 1 ≤ l ∧ v < 1) :
    Calls Try.prog 5 #[.agg #[.int .i64 N, .int .i64 Q, .int .i64 G, .int .i64 M, .int .i64 T, .int .i64 S], .int .i64 l, .int .i64 v] w fun e w' => e = .returned (.int .i64 0) ∧ Below w.heap.size w w' := by
  rcases h with h | ⟨h, h1⟩ | ⟨h, h1, h2⟩
  all_goals
    go_enter Try.func5, Try.ntmps5
    go_wp2_with (go_at_call 13; refine (right_any _ _ _ _ _ _ _).mono ?_; rintro e w1 ⟨rfl, hb⟩)
    go_ret
    exact ⟨rfl, ((Below.refl _ _).alloc (Nat.le_refl _) _).trans (hb.mono (by simp))⟩

theorem bitLen_64 (q : Nat) (h : q ≤ 64) : Lib.bitLen q ≤ 7 := by
  have : ∀ q : Fin 65, Lib.bitLen q.val ≤ 7 := by decide +kernel
  exact this ⟨q, by omega⟩
theorem mul_bd {a b A B c : Int} (ha : 0 ≤ a) (hA : a ≤ A) (hb : 0 ≤ b) (hB : b ≤ B) (hc : A * B ≤ c) : 0 ≤ a * b ∧ a * b ≤ c :=
  ⟨Int.mul_nonneg ha hb, Int.le_trans (Int.mul_le_mul hA hB hb (Int.le_trans ha hA)) hc⟩

def MB : Int := 4611686018427387904
/-- What 'product' and 'sum' come to, at two and three numbers. -/
def prod2 (a b : Int) : Int := min (min a MB * b) MB
def prod3 (a b c : Int) : Int := min (min (min a MB * b) MB * c) MB
def sum2 (a b : Int) : Int := min (min a MB + min b MB) MB
def sum3 (a b c : Int) : Int := min (min (min a MB + min b MB) MB + min c MB) MB

/-- P30.1, of a config that may be. -/
def bndP (n q g m t : Nat) (l v : Int) : Int :=
  let lk : Int := ((m : Int) + 2) * (n + 6)
  let put : Int := ((q : Int) / 2 + 3) * ((Lib.bitLen q : Nat) + 3)
  prod3 v (sum2 (sum3 (4 * (n * (lk + 7))) (prod2 (l + 2) (put + 3 * lk + 8)) (6 * lk + 8)) (2 * put + 8 * lk + q + 4 * (Lib.bitLen q : Nat) + 24)) (g * t + t + 6 * q + 8)
theorem castMin (x y : Nat) : ((min x y : Nat) : Int) = min (x : Int) y := by omega
theorem cellAlloc {w : World} {a : Addr} {v : Value} {o : Obj} (h : w.cell? a = some v) : (w.alloc o).cell? a = some v := (World.cell?_alloc_old _ _ _ (Nat.ne_of_lt (World.block_lt_of_cell? _ _ h))).trans h
theorem product2 (a b : Int) (w : World) (bl : Nat) (c0 : w.cell? ⟨bl, 0, none⟩ = some (.int .u64 a)) (c1 : w.cell? ⟨bl, 1, none⟩ = some (.int .u64 b)) (ha : 0 ≤ a) (ha2 : a < 18446744073709551616) (hb : 0 ≤ b) (hb2 : b < 18446744073709551616) :
    Calls Try.prog 16 #[.slice (some ⟨bl, 0, none⟩) 2 2] w fun e w' => e = .returned (.int .u64 (prod2 a b)) ∧ w = w' := by
  obtain ⟨a, rfl⟩ := Int.eq_ofNat_of_zero_le ha
  obtain ⟨b, rfl⟩ := Int.eq_ofNat_of_zero_le hb
  refine (product_any bl 0 2 (fun k => if k = 0 then a else b) _ (by omega) (fun k hk => ?_) (fun k hk => ?_)).mono ?_
  · obtain rfl | rfl : k = 0 ∨ k = 1 := by omega
    all_goals (simp; omega)
  · obtain rfl | rfl : k = 0 ∨ k = 1 := by omega
    · simpa using c0
    · simpa using c1
  · rintro e w' ⟨rfl, rfl⟩
    refine ⟨ret_int ?_, rfl⟩
    simp only [prodTo, prod2, MB, castMin, Int.natCast_mul]
    simp
theorem product3 (a b c : Int) (w : World) (bl : Nat) (c0 : w.cell? ⟨bl, 0, none⟩ = some (.int .u64 a)) (c1 : w.cell? ⟨bl, 1, none⟩ = some (.int .u64 b)) (c2 : w.cell? ⟨bl, 2, none⟩ = some (.int .u64 c)) (ha : 0 ≤ a) (ha2 : a < 18446744073709551616) (hb : 0 ≤ b) (hb2 : b < 18446744073709551616) (hc : 0 ≤ c) (hc2 : c < 18446744073709551616) :
    Calls Try.prog 16 #[.slice (some ⟨bl, 0, none⟩) 3 3] w fun e w' => e = .returned (.int .u64 (prod3 a b c)) ∧ w = w' := by
  obtain ⟨a, rfl⟩ := Int.eq_ofNat_of_zero_le ha
  obtain ⟨b, rfl⟩ := Int.eq_ofNat_of_zero_le hb
  obtain ⟨c, rfl⟩ := Int.eq_ofNat_of_zero_le hc
  refine (product_any bl 0 3 (fun k => if k = 0 then a else if k = 1 then b else c) _ (by omega) (fun k hk => ?_) (fun k hk => ?_)).mono ?_
  · obtain rfl | rfl | rfl : k = 0 ∨ k = 1 ∨ k = 2 := by omega
    all_goals (simp; omega)
  · obtain rfl | rfl | rfl : k = 0 ∨ k = 1 ∨ k = 2 := by omega
    · simpa using c0
    · simpa using c1
    · simpa using c2
  · rintro e w' ⟨rfl, rfl⟩
    refine ⟨ret_int ?_, rfl⟩
    simp only [prodTo, prod3, MB, castMin, Int.natCast_mul]
    simp
theorem sum2_any (a b : Int) (w : World) (bl : Nat) (c0 : w.cell? ⟨bl, 0, none⟩ = some (.int .u64 a)) (c1 : w.cell? ⟨bl, 1, none⟩ = some (.int .u64 b)) (ha : 0 ≤ a) (ha2 : a < 18446744073709551616) (hb : 0 ≤ b) (hb2 : b < 18446744073709551616) :
    Calls Try.prog 15 #[.slice (some ⟨bl, 0, none⟩) 2 2] w fun e w' => e = .returned (.int .u64 (sum2 a b)) ∧ w = w' := by
  obtain ⟨a, rfl⟩ := Int.eq_ofNat_of_zero_le ha
  obtain ⟨b, rfl⟩ := Int.eq_ofNat_of_zero_le hb
  refine (sum_any bl 0 2 (fun k => if k = 0 then a else b) _ (by omega) (fun k hk => ?_) (fun k hk => ?_)).mono ?_
  · obtain rfl | rfl : k = 0 ∨ k = 1 := by omega
    all_goals (simp; omega)
  · obtain rfl | rfl : k = 0 ∨ k = 1 := by omega
    · simpa using c0
    · simpa using c1
  · rintro e w' ⟨rfl, rfl⟩
    refine ⟨ret_int ?_, rfl⟩
    simp only [sumTo, sum2, MB, castMin, Int.natCast_mul]
    simp
    omega
theorem sum3_any (a b c : Int) (w : World) (bl : Nat) (c0 : w.cell? ⟨bl, 0, none⟩ = some (.int .u64 a)) (c1 : w.cell? ⟨bl, 1, none⟩ = some (.int .u64 b)) (c2 : w.cell? ⟨bl, 2, none⟩ = some (.int .u64 c)) (ha : 0 ≤ a) (ha2 : a < 18446744073709551616) (hb : 0 ≤ b) (hb2 : b < 18446744073709551616) (hc : 0 ≤ c) (hc2 : c < 18446744073709551616) :
    Calls Try.prog 15 #[.slice (some ⟨bl, 0, none⟩) 3 3] w fun e w' => e = .returned (.int .u64 (sum3 a b c)) ∧ w = w' := by
  obtain ⟨a, rfl⟩ := Int.eq_ofNat_of_zero_le ha
  obtain ⟨b, rfl⟩ := Int.eq_ofNat_of_zero_le hb
  obtain ⟨c, rfl⟩ := Int.eq_ofNat_of_zero_le hc
  refine (sum_any bl 0 3 (fun k => if k = 0 then a else if k = 1 then b else c) _ (by omega) (fun k hk => ?_) (fun k hk => ?_)).mono ?_
  · obtain rfl | rfl | rfl : k = 0 ∨ k = 1 ∨ k = 2 := by omega
    all_goals (simp; omega)
  · obtain rfl | rfl | rfl : k = 0 ∨ k = 1 ∨ k = 2 := by omega
    · simpa using c0
    · simpa using c1
    · simpa using c2
  · rintro e w' ⟨rfl, rfl⟩
    refine ⟨ret_int ?_, rfl⟩
    simp only [sumTo, sum3, MB, castMin, Int.natCast_mul]
    simp
    omega
theorem prod2_bd (a b : Int) (ha : 0 ≤ a) (hb : 0 ≤ b) : 0 ≤ prod2 a b ∧ prod2 a b ≤ 4611686018427387904 := by
  have := Int.mul_nonneg (show 0 ≤ min a MB by simp only [MB]; omega) hb
  simp only [prod2, MB] at *
  omega
theorem prod3_bd (a b c : Int) (ha : 0 ≤ a) (hb : 0 ≤ b) (hc : 0 ≤ c) : 0 ≤ prod3 a b c ∧ prod3 a b c ≤ 4611686018427387904 := by
  have h1 := Int.mul_nonneg (show 0 ≤ min a MB by simp only [MB]; omega) hb
  have := Int.mul_nonneg (show 0 ≤ min (min a MB * b) MB by simp only [MB] at *; omega) hc
  simp only [prod3, MB] at *
  omega
theorem sum2_bd (a b : Int) (ha : 0 ≤ a) (hb : 0 ≤ b) : 0 ≤ sum2 a b ∧ sum2 a b ≤ 4611686018427387904 := by
  simp only [sum2, MB]; omega
theorem sum3_bd (a b c : Int) (ha : 0 ≤ a) (hb : 0 ≤ b) (hc : 0 ≤ c) : 0 ≤ sum3 a b c ∧ sum3 a b c ≤ 4611686018427387904 := by
  simp only [sum3, MB]; omega

theorem belowDrewN {B : Nat} {a w : World} (h : Below B a w) : ∀ n : Nat, Below B a (w.drewN n) := by
  exact fun _ => ⟨h.os, h.tape, h.output, h.size, h.block⟩

set_option maxHeartbeats 1000000 in
theorem bound_yes (n q g m t : Nat) (S l v : Int) (w : World) (h : rightB n q g m t S = true) (hl : 1 ≤ l) (hv : 1 ≤ v) (hl2 : l ≤ 9223372036854775807) (hv2 : v ≤ 9223372036854775807)
    (hn : n ≤ 8) (hq : q ≤ 64) (hg : g ≤ 256) (hm : m ≤ 16) (ht : t ≤ 200) :
    Calls Try.prog 5 #[.agg #[.int .i64 n, .int .i64 q, .int .i64 g, .int .i64 m, .int .i64 t, .int .i64 S], .int .i64 l, .int .i64 v] w fun e w' => e = .returned (.int .i64 (bndP n q g m t l v)) ∧ Below w.heap.size w w' := by
  go_enter Try.func5, Try.ntmps5
  go_wp2_with (go_at_call 13; refine (right_any _ _ _ _ _ _ _).mono ?_; rintro e w1 ⟨rfl, hb⟩)
  obtain ⟨hc, hf⟩ := bcell hb
  have hz : w.heap.size < w1.heap.size := by have := hb.size; simp at this; omega
  have c0 := hc w.heap.size 0 (by simp); have c1 := hc w.heap.size 1 (by simp); have c2 := hc w.heap.size 2 (by simp); have c3 := hc w.heap.size 3 (by simp); have c4 := hc w.heap.size 4 (by simp)
  clear hc hf
  simp at c0 c1 c2 c3 c4
  have HL : ∀ w, Calls Try.prog 14 #[.int .u64 q] w fun e w' => e = .returned (.int .i64 (Lib.bitLen q)) ∧ w' = w := fun w => by
    have := Try.bits_Len q w (by omega) (by omega)
    simpa using this
  have HL' := Lib.hid HL
  clear HL
  have hlg : Lib.bitLen q ≤ 7 := bitLen_64 q hq
  generalize hlgq : Lib.bitLen q = lg at *
  have HG := Lib.hid hlgq
  clear hlgq
  have b1 : 0 ≤ ((m : Int) + 2) * (n + 6) ∧ ((m : Int) + 2) * (n + 6) ≤ 252 := mul_bd (A := 18) (B := 14) (by omega) (by omega) (by omega) (by omega) (by omega)
  have b2 : 0 ≤ ((q : Int) / 2 + 3) * (lg + 3) ∧ ((q : Int) / 2 + 3) * (lg + 3) ≤ 350 := mul_bd (A := 35) (B := 10) (by omega) (by omega) (by omega) (by omega) (by omega)
  have b3 : 0 ≤ (n : Int) * (((m : Int) + 2) * (n + 6) + 7) ∧ (n : Int) * (((m : Int) + 2) * (n + 6) + 7) ≤ 2072 := mul_bd (A := 8) (B := 259) (by omega) (by omega) (by omega) (by omega) (by omega)
  go_quiet ((go_at_call 14; exact Calls.quiet_of_same (HL'.out _)))
  have hb1 : Below w.heap.size w (w1.drewN nq) := belowDrewN (((Below.refl _ _).alloc (Nat.le_refl _) _).trans (hb.mono (by simp))) nq
  have hz1 : w.heap.size < (w1.drewN nq).heap.size := hz
  have c2' : (w1.drewN nq).cell? ⟨w.heap.size, 2, none⟩ = some (.int .i64 g) := c2
  clear hb hz c0 c1 c2 c3 c4 HL'
  revert hb1 hz1 c2'
  generalize w1.drewN nq = W1
  intro hb1 hz1 c2'
  go_wp2_with fail
  refine (product2 (l + 2) (((q : Int) / 2 + 3) * (lg + 3) + 3 * (((m : Int) + 2) * (n + 6)) + 8) _ _ (by go_simp) (by go_simp) (by omega) (by omega) (by omega) (by omega)).mono ?_
  rintro e w' ⟨rfl, rfl⟩
  have b4 := prod2_bd (l + 2) (((q : Int) / 2 + 3) * (lg + 3) + 3 * (((m : Int) + 2) * (n + 6)) + 8) (by omega) (by omega)
  revert b4
  generalize hpr : prod2 (l + 2) (((q : Int) / 2 + 3) * (lg + 3) + 3 * (((m : Int) + 2) * (n + 6)) + 8) = pr
  intro b4
  have HPR := Lib.hid hpr
  clear hpr
  go_wp2_with fail
  refine (sum3_any (4 * (n * (((m : Int) + 2) * (n + 6) + 7))) pr (6 * (((m : Int) + 2) * (n + 6)) + 8) _ _ (by go_simp) (by go_simp) (by go_simp) (by omega) (by omega) (by omega) (by omega) (by omega) (by omega)).mono ?_
  rintro e w' ⟨rfl, rfl⟩
  have b5 := sum3_bd (4 * (↑n * ((↑m + 2) * (↑n + 6) + 7))) pr (6 * ((↑m + 2) * (↑n + 6)) + 8) (by omega) (by omega) (by omega)
  revert b5
  generalize hsl : sum3 (4 * (↑n * ((↑m + 2) * (↑n + 6) + 7))) pr (6 * ((↑m + 2) * (↑n + 6)) + 8) = sl
  intro b5
  have HSL := Lib.hid hsl
  clear hsl
  have b6 : 0 ≤ (g : Int) * t ∧ (g : Int) * t ≤ 51200 := mul_bd (A := 256) (B := 200) (by omega) (by omega) (by omega) (by omega) (by omega)
  go_wp2_with fail
  have b7 := sum2_bd sl (2 * (((q : Int) / 2 + 3) * (lg + 3)) + 8 * (((m : Int) + 2) * (n + 6)) + q + 4 * lg + 24) (by omega) (by omega)
  have HB : Below w.heap.size w ((W1.alloc (.cells #[.int .u64 (l + 2), .int .u64 (((q : Int) / 2 + 3) * (lg + 3) + 3 * (((m : Int) + 2) * (n + 6)) + 8)] 25)).alloc (.cells #[.int .u64 (4 * (n * (((m : Int) + 2) * (n + 6) + 7))), .int .u64 pr, .int .u64 (6 * (((m : Int) + 2) * (n + 6)) + 8)] 25)) := (hb1.alloc (by omega) _).alloc (by simp; omega) _
  have c2W : ((W1.alloc (.cells #[.int .u64 (l + 2), .int .u64 (((q : Int) / 2 + 3) * (lg + 3) + 3 * (((m : Int) + 2) * (n + 6)) + 8)] 25)).alloc (.cells #[.int .u64 (4 * (n * (((m : Int) + 2) * (n + 6) + 7))), .int .u64 pr, .int .u64 (6 * (((m : Int) + 2) * (n + 6)) + 8)] 25)).cell? ⟨w.heap.size, 2, none⟩ = some (.int .i64 g) := cellAlloc (cellAlloc c2')
  revert HB c2W
  generalize ((W1.alloc (.cells #[.int .u64 (l + 2), .int .u64 (((q : Int) / 2 + 3) * (lg + 3) + 3 * (((m : Int) + 2) * (n + 6)) + 8)] 25)).alloc (.cells #[.int .u64 (4 * (n * (((m : Int) + 2) * (n + 6) + 7))), .int .u64 pr, .int .u64 (6 * (((m : Int) + 2) * (n + 6)) + 8)] 25)) = W2
  intro HB c2W
  clear hb1 hz1 c2'
  generalize hfi : 2 * (((q : Int) / 2 + 3) * (lg + 3)) + 8 * (((m : Int) + 2) * (n + 6)) + q + 4 * lg + 24 = fi at b7
  have A15 : ∀ (W : World) (bl : Nat), W.cell? ⟨bl, 0, none⟩ = some (.int .u64 sl) → W.cell? ⟨bl, 1, none⟩ = some (.int .u64 fi) →
      Calls Try.prog 15 #[.slice (some ⟨bl, 0, none⟩) 2 2] W fun e w' => e = .returned (.int .u64 (sum2 sl fi)) ∧ W = w' :=
    fun W bl c0 c1 => sum2_any sl fi W bl c0 c1 (by omega) (by omega) (by omega) (by omega)
  have A16 : ∀ (W : World) (bl : Nat), W.cell? ⟨bl, 0, none⟩ = some (.int .u64 v) → W.cell? ⟨bl, 1, none⟩ = some (.int .u64 (sum2 sl fi)) → W.cell? ⟨bl, 2, none⟩ = some (.int .u64 (g * t + t + 6 * q + 8)) →
      Calls Try.prog 16 #[.slice (some ⟨bl, 0, none⟩) 3 3] W fun e w' => e = .returned (.int .u64 (prod3 v (sum2 sl fi) (g * t + t + 6 * q + 8))) ∧ W = w' :=
    fun W bl c0 c1 c2 => product3 v (sum2 sl fi) (g * t + t + 6 * q + 8) W bl c0 c1 c2 (by omega) (by omega) (by omega) (by omega) (by omega) (by omega)
  have HFI := Lib.hid hfi
  have H15 := Lib.hid A15
  have H16 := Lib.hid A16
  clear A15 A16 hfi
  have b8 := prod3_bd v (sum2 sl fi) (g * t + t + 6 * q + 8) (by omega) (by omega) (by omega)
  have wr1 : IntKind.u64.wrap v = v := by rw [IntKind.wrap_u64]; omega
  have wr2 : IntKind.u64.wrap (g : Int) = g := by rw [IntKind.wrap_u64]; omega
  have wr3 : IntKind.u64.wrap ((g : Int) * t) = g * t := by rw [IntKind.wrap_u64]; omega
  have wr4 : IntKind.u64.wrap ((g : Int) * t + t) = g * t + t := by rw [IntKind.wrap_u64]; omega
  have wr5 : IntKind.u64.wrap (6 * (q : Int)) = 6 * q := by rw [IntKind.wrap_u64]; omega
  have wr6 : IntKind.u64.wrap ((g : Int) * t + t + 6 * q) = g * t + t + 6 * q := by rw [IntKind.wrap_u64]; omega
  have wr7 : IntKind.u64.wrap ((g : Int) * t + t + 6 * q + 8) = g * t + t + 6 * q + 8 := by rw [IntKind.wrap_u64]; omega
  go_region_held3 (fun w' => w'.cell? ⟨w.heap.size, 2, none⟩ = some (.int .i64 g)) (go_keep)
    (first | (go_at_call 15; refine (H15.out _ _ ?_ ?_).mono ?_; go_simp; go_simp; rintro e w' ⟨rfl, rfl⟩) | (go_at_call 16; refine (H16.out _ _ ?_ ?_ ?_).mono ?_; go_simp; go_simp; go_simp; rintro e w' ⟨rfl, rfl⟩))
  have wr8 : IntKind.i64.wrap (prod3 v (sum2 sl fi) (g * t + t + 6 * q + 8)) = prod3 v (sum2 sl fi) (g * t + t + 6 * q + 8) := IntWalk.i64_in _ (by omega)
  have HFIN : Hid (bndP n q g m t l v = prod3 v (sum2 sl fi) (g * t + t + 6 * q + 8)) := by
    show bndP n q g m t l v = _
    unfold bndP
    dsimp only
    rw [HG.out, HPR.out, HSL.out, HFI.out]
  go_wp2
  go_ret
  rw [HFIN.out]
  exact ⟨ret_int wr8, ((HB.alloc HB.size _).alloc (by simp; exact Nat.le_succ_of_le HB.size) _).drew⟩
end Go.Proofs.Ytjcibnfaijdgnaa
