/- The bound of a fair row: the walk of the reference's 'Bound', and that both are the same number. -/
import Derived.Test.YtjcibnfaijdgnaaBnd2
namespace Go.Proofs.Ytjcibnfaijdgnaa
open Go.RowKit
set_option linter.unusedVariables false
set_option linter.unusedSimpArgs false

theorem quietEq {P : Program} {f : FuncId} {args : Array Value} {w : World} {n : Nat} {v : Value}
    (h : Calls P f args (w.drewN n) fun e w' => e = .returned v ∧ w.drewN n = w') : Calls P f args (w.drewN n) fun e w'' => e = .returned v ∧ ∃ m, w'' = w.drewN m :=
  h.mono fun _ _ ⟨he, hm⟩ => ⟨he, n, hm.symm⟩
theorem bitLen_half (q : Nat) (h : q ≤ 64) (h0 : 0 < q) : Lib.bitLen q = Lib.bitLen (q / 2) + 1 := by
  have : ∀ q : Fin 65, 0 < q.val → Lib.bitLen q.val = Lib.bitLen (q.val / 2) + 1 := by decide +kernel
  exact this ⟨q, by omega⟩ h0

set_option maxHeartbeats 400000 in
theorem refBound_zero (N Q G M T S l v : Int) (w : World) (h : rightB N Q G M T S = false ∨ rightB N Q G M T S = true ∧ l < 1 ∨ rightB N Q G M T S = true ∧ 1 ≤ l ∧ v < 1) :
    Calls Try.prog 6 #[.agg #[.int .i64 N, .int .i64 Q, .int .i64 G, .int .i64 M, .int .i64 T, .int .i64 S], .int .i64 l, .int .i64 v] w fun e w' => e = .returned (.int .u64 0) ∧ Below w.heap.size w w' := by
  rcases h with h | ⟨h, h1⟩ | ⟨h, h1, h2⟩
  all_goals
    go_enter Try.func6, Try.ntmps6
    go_wp2_with (go_at_call 17; refine (rightRef_any _ _ _ _ _ _ _).mono ?_; rintro e w1 ⟨rfl, hb⟩)
    go_ret
    exact ⟨rfl, ((Below.refl _ _).alloc (Nat.le_refl _) _).trans (hb.mono (by simp))⟩

def rsum3 (a b c : Int) : Int := min (min (min a MB + b) MB + c) MB
theorem rsum3_any (a b c : Int) (w : World) (bl : Nat) (c0 : w.cell? ⟨bl, 0, none⟩ = some (.int .u64 a)) (c1 : w.cell? ⟨bl, 1, none⟩ = some (.int .u64 b)) (c2 : w.cell? ⟨bl, 2, none⟩ = some (.int .u64 c))
    (ha : 0 ≤ a) (ha2 : a ≤ 4611686018427387904) (hb : 0 ≤ b) (hb2 : b ≤ 4611686018427387904) (hc : 0 ≤ c) (hc2 : c ≤ 4611686018427387904) :
    Calls Try.prog 18 #[.slice (some ⟨bl, 0, none⟩) 3 3] w fun e w' => e = .returned (.int .u64 (rsum3 a b c)) ∧ w = w' := by
  obtain ⟨a, rfl⟩ := Int.eq_ofNat_of_zero_le ha
  obtain ⟨b, rfl⟩ := Int.eq_ofNat_of_zero_le hb
  obtain ⟨c, rfl⟩ := Int.eq_ofNat_of_zero_le hc
  refine (refSum_any bl 0 3 (fun k => if k = 0 then a else if k = 1 then b else c) _ (by omega) (fun k hk => ?_) (fun k hk => ?_)).mono ?_
  · obtain rfl | rfl | rfl : k = 0 ∨ k = 1 ∨ k = 2 := by omega
    all_goals (simp; omega)
  · obtain rfl | rfl | rfl : k = 0 ∨ k = 1 ∨ k = 2 := by omega
    · simpa using c0
    · simpa using c1
    · simpa using c2
  · rintro e w' ⟨rfl, rfl⟩
    refine ⟨ret_int ?_, rfl⟩
    simp only [rsumTo, rsum3, MB]
    simp
    omega
def rmul (a b : Int) : Int := min (a * b) MB
def radd (a b : Int) : Int := min (a + b) MB
theorem rmul_any (a b : Int) (w : World) (ha : 0 ≤ a) (ha2 : a < 18446744073709551616) (hb : 0 ≤ b) (hb2 : b < 18446744073709551616) :
    Calls Try.prog 19 #[.int .u64 a, .int .u64 b] w fun e w' => e = .returned (.int .u64 (rmul a b)) ∧ w = w' := by
  obtain ⟨a, rfl⟩ := Int.eq_ofNat_of_zero_le ha
  obtain ⟨b, rfl⟩ := Int.eq_ofNat_of_zero_le hb
  refine (refMul_any a b w (by omega) (by omega)).mono ?_
  rintro e w' ⟨rfl, rfl⟩
  refine ⟨ret_int ?_, rfl⟩
  simp only [rmul, MB, castMin, Int.natCast_mul]
  rfl
theorem radd_any (a b : Int) (w : World) (ha : 0 ≤ a) (ha2 : a ≤ 4611686018427387904) (hb : 0 ≤ b) (hb2 : b ≤ 4611686018427387904) :
    Calls Try.prog 20 #[.int .u64 a, .int .u64 b] w fun e w' => e = .returned (.int .u64 (radd a b)) ∧ w = w' := by
  obtain ⟨a, rfl⟩ := Int.eq_ofNat_of_zero_le ha
  obtain ⟨b, rfl⟩ := Int.eq_ofNat_of_zero_le hb
  refine (refAdd_any a b w (by omega) (by omega)).mono ?_
  rintro e w' ⟨rfl, rfl⟩
  refine ⟨ret_int ?_, rfl⟩
  simp only [radd, MB]
  omega
theorem rmul_bd (a b : Int) (ha : 0 ≤ a) (hb : 0 ≤ b) : 0 ≤ rmul a b ∧ rmul a b ≤ 4611686018427387904 := by
  have := Int.mul_nonneg ha hb
  simp only [rmul, MB] at *
  omega
theorem radd_bd (a b : Int) (ha : 0 ≤ a) (hb : 0 ≤ b) : 0 ≤ radd a b ∧ radd a b ≤ 4611686018427387904 := by
  simp only [radd, MB]; omega
theorem rsum3_bd (a b c : Int) (ha : 0 ≤ a) (hb : 0 ≤ b) (hc : 0 ≤ c) : 0 ≤ rsum3 a b c ∧ rsum3 a b c ≤ 4611686018427387904 := by
  simp only [rsum3, MB]; omega

def bndR (n q g m t : Nat) (l v : Int) : Int :=
  let lk : Int := ((m : Int) + 2) * (n + 6)
  let put : Int := ((q : Int) / 2 + 3) * ((Lib.bitLen q : Nat) + 3)
  rmul (rmul (min v MB) (radd (rsum3 (4 * (n * (lk + 7))) (rmul (l + 2) (put + 3 * lk + 8)) (6 * lk + 8)) (2 * put + 8 * lk + q + 4 * (Lib.bitLen q : Nat) + 24))) (g * t + t + 6 * q + 8)

set_option maxHeartbeats 1000000 in
theorem refBound_yes (n q g m t : Nat) (S l v : Int) (w : World) (h : rightB n q g m t S = true) (hl : 1 ≤ l) (hv : 1 ≤ v) (hl2 : l ≤ 9223372036854775807) (hv2 : v ≤ 9223372036854775807)
    (hn : n ≤ 8) (hq : q ≤ 64) (hg : g ≤ 256) (hm : m ≤ 16) (ht : t ≤ 200) :
    Calls Try.prog 6 #[.agg #[.int .i64 n, .int .i64 q, .int .i64 g, .int .i64 m, .int .i64 t, .int .i64 S], .int .i64 l, .int .i64 v] w fun e w' => e = .returned (.int .u64 (bndR n q g m t l v)) ∧ Below w.heap.size w w' := by
  go_enter Try.func6, Try.ntmps6
  go_wp2_with fail
  refine (rightRef_any _ _ _ _ _ _ _).mono ?_
  rintro e w1 ⟨rfl, hb⟩
  obtain ⟨hc, hf⟩ := bcell hb
  have hz : w.heap.size < w1.heap.size := by have := hb.size; simp at this; omega
  have hb1 : Below w.heap.size w w1 := ((Below.refl _ _).alloc (Nat.le_refl _) _).trans (hb.mono (by simp))
  have c0 := hc w.heap.size 0 (by simp); have c1 := hc w.heap.size 1 (by simp); have c2 := hc w.heap.size 2 (by simp); have c3 := hc w.heap.size 3 (by simp); have c4 := hc w.heap.size 4 (by simp)
  clear hc hf hb
  simp at c0 c1 c2 c3 c4
  go_wp2
  go_loop [7, 8] (fun s i => ∃ k : Nat, k ≤ q ∧ i = .int .i64 k ∧ s = .int .u64 ((Lib.bitLen q - Lib.bitLen k : Nat) : Int) ∧ Lib.bitLen k ≤ Lib.bitLen q) (fun _ i => (intOf i).toNat)
  case atStart => exact ⟨q, Nat.le_refl _, rfl, by simp, Nat.le_refl _⟩
  case round =>
    obtain ⟨k, hk, rfl, rfl, hle⟩ := hrel
    by_cases hlt : 0 < k
    · have HH := Lib.hid (bitLen_half k (by omega) hlt)
      have h7 : Lib.bitLen q ≤ 7 := bitLen_64 q hq
      go_wp2
      refine ⟨⟨k / 2, by omega, val_int (by omega), val_int ?_, ?_⟩, ?_⟩
      · have := HH.out; omega
      · have := HH.out; omega
      · simp [intOf]; omega
    · obtain rfl : k = 0 := by omega
      clear hk hle hlt
      have e0 : Lib.bitLen 0 = 0 := by decide
      simp only [e0, Nat.sub_zero]
      clear e0
      have hlg : Lib.bitLen q ≤ 7 := bitLen_64 q hq
      generalize hlgq : Lib.bitLen q = lg at hlg ⊢
      have HG := Lib.hid hlgq
      clear hlgq
      have b1 : 0 ≤ ((m : Int) + 2) * (n + 6) ∧ ((m : Int) + 2) * (n + 6) ≤ 252 := mul_bd (A := 18) (B := 14) (by omega) (by omega) (by omega) (by omega) (by omega)
      have b2 : 0 ≤ ((q : Int) / 2 + 3) * (lg + 3) ∧ ((q : Int) / 2 + 3) * (lg + 3) ≤ 350 := mul_bd (A := 35) (B := 10) (by omega) (by omega) (by omega) (by omega) (by omega)
      have b3 : 0 ≤ (n : Int) * (((m : Int) + 2) * (n + 6) + 7) ∧ (n : Int) * (((m : Int) + 2) * (n + 6) + 7) ≤ 2072 := mul_bd (A := 8) (B := 259) (by omega) (by omega) (by omega) (by omega) (by omega)
      go_wp2
      go_quiet (fail)
      have c2' : (w1.drewN nq).cell? ⟨w.heap.size, 2, none⟩ = some (.int .i64 g) := c2
      have c4' : (w1.drewN nq).cell? ⟨w.heap.size, 4, none⟩ = some (.int .i64 t) := c4
      have hz1 : w.heap.size < (w1.drewN nq).heap.size := hz
      replace hb1 : Below w.heap.size w (w1.drewN nq) := belowDrewN hb1 nq
      clear hz c0 c1 c2 c3 c4
      revert hb1 hz1 c2' c4'
      generalize w1.drewN nq = W1
      intro c2 c4 hz1 hb1
      go_wp2_with fail
      refine (rmul_any _ _ _ (by omega) (by omega) (by omega) (by omega)).mono ?_
      rintro e w' ⟨rfl, rfl⟩
      have b4 := rmul_bd (l + 2) (((q : Int) / 2 + 3) * (lg + 3) + 3 * (((m : Int) + 2) * (n + 6)) + 8) (by omega) (by omega)
      revert b4
      generalize hpr : rmul (l + 2) (((q : Int) / 2 + 3) * (lg + 3) + 3 * (((m : Int) + 2) * (n + 6)) + 8) = pr
      intro b4
      have HPR := Lib.hid hpr
      clear hpr
      go_wp2_with fail
      refine (rsum3_any (4 * (n * (((m : Int) + 2) * (n + 6) + 7))) pr (6 * (((m : Int) + 2) * (n + 6)) + 8) _ _ (by go_simp) (by go_simp) (by go_simp) (by omega) (by omega) (by omega) (by omega) (by omega) (by omega)).mono ?_
      rintro e w' ⟨rfl, rfl⟩
      have b5 := rsum3_bd (4 * (n * (((m : Int) + 2) * (n + 6) + 7))) pr (6 * (((m : Int) + 2) * (n + 6)) + 8) (by omega) (by omega) (by omega)
      revert b5
      generalize hsl : rsum3 (4 * (n * (((m : Int) + 2) * (n + 6) + 7))) pr (6 * (((m : Int) + 2) * (n + 6)) + 8) = sl
      intro b5
      have HSL := Lib.hid hsl
      clear hsl
      have HB : Below w.heap.size w (W1.alloc (.cells #[.int .u64 (4 * (n * (((m : Int) + 2) * (n + 6) + 7))), .int .u64 pr, .int .u64 (6 * (((m : Int) + 2) * (n + 6)) + 8)] 25)) := hb1.alloc (by omega) _
      have c2W : (W1.alloc (.cells #[.int .u64 (4 * (n * (((m : Int) + 2) * (n + 6) + 7))), .int .u64 pr, .int .u64 (6 * (((m : Int) + 2) * (n + 6)) + 8)] 25)).cell? ⟨w.heap.size, 2, none⟩ = some (.int .i64 g) := cellAlloc c2
      have c4W : (W1.alloc (.cells #[.int .u64 (4 * (n * (((m : Int) + 2) * (n + 6) + 7))), .int .u64 pr, .int .u64 (6 * (((m : Int) + 2) * (n + 6)) + 8)] 25)).cell? ⟨w.heap.size, 4, none⟩ = some (.int .i64 t) := cellAlloc c4
      revert HB c2W c4W
      generalize (W1.alloc (.cells #[.int .u64 (4 * (n * (((m : Int) + 2) * (n + 6) + 7))), .int .u64 pr, .int .u64 (6 * (((m : Int) + 2) * (n + 6)) + 8)] 25)) = W2
      intro HB c2W c4W
      clear hb1 hz1 c2 c4
      have b6 : 0 ≤ (g : Int) * t ∧ (g : Int) * t ≤ 51200 := mul_bd (A := 256) (B := 200) (by omega) (by omega) (by omega) (by omega) (by omega)
      go_wp2_with fail
      have b7 := radd_bd sl (2 * (((q : Int) / 2 + 3) * (lg + 3)) + 8 * (((m : Int) + 2) * (n + 6)) + q + 4 * lg + 24) (by omega) (by omega)
      generalize hfi : 2 * (((q : Int) / 2 + 3) * (lg + 3)) + 8 * (((m : Int) + 2) * (n + 6)) + q + 4 * lg + 24 = fi at b7 ⊢
      have A20 : ∀ (W : World), Calls Try.prog 20 #[.int .u64 sl, .int .u64 fi] W fun e w' => e = .returned (.int .u64 (radd sl fi)) ∧ W = w' :=
        fun W => radd_any sl fi W (by omega) (by omega) (by omega) (by omega)
      have b8 := rmul_bd (min v 4611686018427387904) (radd sl fi) (by omega) (by omega)
      have A19 : ∀ (a b : Int) (W : World), 0 ≤ a ∧ a < 18446744073709551616 → 0 ≤ b ∧ b < 18446744073709551616 → Calls Try.prog 19 #[.int .u64 a, .int .u64 b] W fun e w' => e = .returned (.int .u64 (rmul a b)) ∧ W = w' :=
        fun a b W h1 h2 => rmul_any a b W h1.1 h1.2 h2.1 h2.2
      have HFI := Lib.hid hfi
      have H20 := Lib.hid A20
      have H19 := Lib.hid A19
      clear A20 A19 hfi
      have wr1 : IntKind.u64.wrap v = v := by rw [IntKind.wrap_u64]; omega
      have wr2 : IntKind.i64.wrap ((g : Int) * t) = g * t := IntWalk.i64_in _ (by omega)
      have wr3 : IntKind.i64.wrap ((g : Int) * t + t) = g * t + t := IntWalk.i64_in _ (by omega)
      have wr4 : IntKind.u64.wrap ((g : Int) * t + t) = g * t + t := by rw [IntKind.wrap_u64]; omega
      have wr5 : IntKind.u64.wrap (6 * (q : Int)) = 6 * q := by rw [IntKind.wrap_u64]; omega
      have wr6 : IntKind.u64.wrap ((g : Int) * t + t + 6 * q) = g * t + t + 6 * q := by rw [IntKind.wrap_u64]; omega
      have wr7 : IntKind.u64.wrap ((g : Int) * t + t + 6 * q + 8) = g * t + t + 6 * q + 8 := by rw [IntKind.wrap_u64]; omega
      go_quiet (first | (go_at_call 20; exact quietEq (H20.out _)) | (go_at_call 19; exact quietEq (H19.out _ _ _ ⟨by omega, by omega⟩ ⟨by omega, by omega⟩)))
      have HFIN : Hid (bndR n q g m t l v = rmul (rmul (min v 4611686018427387904) (radd sl fi)) (g * t + t + 6 * q + 8)) := by
        show bndR n q g m t l v = _
        unfold bndR
        dsimp only
        rw [HG.out, HPR.out, HSL.out, HFI.out]
        rfl
      go_wp2
      go_ret
      rw [HFIN.out]
      exact ⟨ret_int rfl, belowDrewN HB _⟩

theorem prod2_rmul (a b : Int) (ha : 0 ≤ a) (hb : 1 ≤ b) : prod2 a b = rmul a b := by
  unfold prod2 rmul
  by_cases h : a ≤ MB
  · rw [Int.min_eq_left h]
  · rw [Int.min_eq_right (show MB ≤ a by omega)]
    have h1 : MB * 1 ≤ MB * b := Int.mul_le_mul_of_nonneg_left hb (by simp only [MB]; omega)
    have h2 : MB * 1 ≤ a * b := Int.mul_le_mul (by omega) hb (by omega) (by omega)
    omega

theorem bnd_same (n q g m t : Nat) (l v : Int) (hl : 1 ≤ l) (hv : 1 ≤ v) (hn : n ≤ 8) (hq : q ≤ 64) (hg : g ≤ 256) (hm : m ≤ 16) (ht : t ≤ 200) :
    bndP n q g m t l v = bndR n q g m t l v := by
  have hlg : Lib.bitLen q ≤ 7 := bitLen_64 q hq
  unfold bndP bndR
  generalize Lib.bitLen q = lg at *
  have b1 : 0 ≤ ((m : Int) + 2) * (n + 6) ∧ ((m : Int) + 2) * (n + 6) ≤ 252 := mul_bd (A := 18) (B := 14) (by omega) (by omega) (by omega) (by omega) (by omega)
  have b2 : 0 ≤ ((q : Int) / 2 + 3) * (lg + 3) ∧ ((q : Int) / 2 + 3) * (lg + 3) ≤ 350 := mul_bd (A := 35) (B := 10) (by omega) (by omega) (by omega) (by omega) (by omega)
  have b3 : 0 ≤ (n : Int) * (((m : Int) + 2) * (n + 6) + 7) ∧ (n : Int) * (((m : Int) + 2) * (n + 6) + 7) ≤ 2072 := mul_bd (A := 8) (B := 259) (by omega) (by omega) (by omega) (by omega) (by omega)
  dsimp only
  generalize (n : Int) * (((m : Int) + 2) * (n + 6) + 7) = mo at *
  generalize ((m : Int) + 2) * (n + 6) = lk at *
  generalize ((q : Int) / 2 + 3) * (lg + 3) = pu at *
  rw [prod2_rmul (l + 2) (pu + 3 * lk + 8) (by omega) (by omega)]
  have b4 := rmul_bd (l + 2) (pu + 3 * lk + 8) (by omega) (by omega)
  generalize rmul (l + 2) (pu + 3 * lk + 8) = pr at *
  have e1 : sum3 (4 * mo) pr (6 * lk + 8) = rsum3 (4 * mo) pr (6 * lk + 8) := by
    simp only [sum3, rsum3, MB]; omega
  rw [e1]
  have b5 := rsum3_bd (4 * mo) pr (6 * lk + 8) (by omega) (by omega) (by omega)
  generalize rsum3 (4 * mo) pr (6 * lk + 8) = sl at *
  have e2 : sum2 sl (2 * pu + 8 * lk + q + 4 * lg + 24) = radd sl (2 * pu + 8 * lk + q + 4 * lg + 24) := by
    simp only [sum2, radd, MB]; omega
  rw [e2]
  rfl

/-- P30.1. -/
def bnd (N Q G M T S l v : Int) : Int :=
  if rightB N Q G M T S = true ∧ 1 ≤ l ∧ 1 ≤ v then bndP N.toNat Q.toNat G.toNat M.toNat T.toNat l v else 0

theorem bnd_bd (N Q G M T S l v : Int) : 0 ≤ bnd N Q G M T S l v ∧ bnd N Q G M T S l v ≤ 4611686018427387904 := by
  unfold bnd
  split
  · rename_i h
    unfold bndP
    have b1 := Int.mul_nonneg (show 0 ≤ (M.toNat : Int) + 2 by omega) (show 0 ≤ (N.toNat : Int) + 6 by omega)
    have b2 := Int.mul_nonneg (show 0 ≤ (Q.toNat : Int) / 2 + 3 by omega) (show 0 ≤ ((Lib.bitLen Q.toNat : Nat) : Int) + 3 by omega)
    have b3 := Int.mul_nonneg (show 0 ≤ (N.toNat : Int) by omega) (show 0 ≤ ((M.toNat : Int) + 2) * ((N.toNat : Int) + 6) + 7 by omega)
    have b4 := Int.mul_nonneg (show 0 ≤ (G.toNat : Int) by omega) (show 0 ≤ (T.toNat : Int) by omega)
    have b5 := prod2_bd (l + 2) (((Q.toNat : Int) / 2 + 3) * ((Lib.bitLen Q.toNat : Nat) + 3) + 3 * (((M.toNat : Int) + 2) * ((N.toNat : Int) + 6)) + 8) (by omega) (by omega)
    have b6 := sum3_bd (4 * ((N.toNat : Int) * (((M.toNat : Int) + 2) * ((N.toNat : Int) + 6) + 7))) _ (6 * (((M.toNat : Int) + 2) * ((N.toNat : Int) + 6)) + 8) (by omega) b5.1 (by omega)
    have b7 := sum2_bd _ (2 * (((Q.toNat : Int) / 2 + 3) * ((Lib.bitLen Q.toNat : Nat) + 3)) + 8 * (((M.toNat : Int) + 2) * ((N.toNat : Int) + 6)) + Q.toNat + 4 * (Lib.bitLen Q.toNat : Nat) + 24) b6.1 (by omega)
    exact prod3_bd v _ _ (by omega) b7.1 (by omega)
  · omega

theorem right_small {N Q G M T S : Int} (h : rightB N Q G M T S = true) : (0 ≤ N ∧ N ≤ 8) ∧ (0 ≤ Q ∧ Q ≤ 64) ∧ (0 ≤ G ∧ G ≤ 256) ∧ (0 ≤ M ∧ M ≤ 16) ∧ (0 ≤ T ∧ T ≤ 200) := by
  simp [rightB, wi] at h
  omega

theorem bound_any (N Q G M T S l v : Int) (w : World) (hl2 : l ≤ 9223372036854775807) (hv2 : v ≤ 9223372036854775807) :
    Calls Try.prog 5 #[.agg #[.int .i64 N, .int .i64 Q, .int .i64 G, .int .i64 M, .int .i64 T, .int .i64 S], .int .i64 l, .int .i64 v] w fun e w' => e = .returned (.int .i64 (bnd N Q G M T S l v)) ∧ Below w.heap.size w w' := by
  by_cases h : rightB N Q G M T S = true ∧ 1 ≤ l ∧ 1 ≤ v
  · obtain ⟨⟨a1, a2⟩, ⟨b1, b2⟩, ⟨c1, c2⟩, ⟨d1, d2⟩, ⟨e1, e2⟩⟩ := right_small h.1
    obtain ⟨n, rfl⟩ := Int.eq_ofNat_of_zero_le a1
    obtain ⟨q, rfl⟩ := Int.eq_ofNat_of_zero_le b1
    obtain ⟨g, rfl⟩ := Int.eq_ofNat_of_zero_le c1
    obtain ⟨m, rfl⟩ := Int.eq_ofNat_of_zero_le d1
    obtain ⟨t, rfl⟩ := Int.eq_ofNat_of_zero_le e1
    have := bound_yes n q g m t S l v w h.1 h.2.1 h.2.2 hl2 hv2 (by omega) (by omega) (by omega) (by omega) (by omega)
    unfold bnd
    rw [if_pos h]
    exact this
  · unfold bnd
    rw [if_neg h]
    refine bound_zero N Q G M T S l v w ?_
    by_cases h1 : rightB N Q G M T S = true
    · simp only [h1, true_and] at h ⊢
      omega
    · simp [h1]

theorem refBound_any (N Q G M T S l v : Int) (w : World) (hl2 : l ≤ 9223372036854775807) (hv2 : v ≤ 9223372036854775807) :
    Calls Try.prog 6 #[.agg #[.int .i64 N, .int .i64 Q, .int .i64 G, .int .i64 M, .int .i64 T, .int .i64 S], .int .i64 l, .int .i64 v] w fun e w' => e = .returned (.int .u64 (bnd N Q G M T S l v)) ∧ Below w.heap.size w w' := by
  by_cases h : rightB N Q G M T S = true ∧ 1 ≤ l ∧ 1 ≤ v
  · obtain ⟨⟨a1, a2⟩, ⟨b1, b2⟩, ⟨c1, c2⟩, ⟨d1, d2⟩, ⟨e1, e2⟩⟩ := right_small h.1
    obtain ⟨n, rfl⟩ := Int.eq_ofNat_of_zero_le a1
    obtain ⟨q, rfl⟩ := Int.eq_ofNat_of_zero_le b1
    obtain ⟨g, rfl⟩ := Int.eq_ofNat_of_zero_le c1
    obtain ⟨m, rfl⟩ := Int.eq_ofNat_of_zero_le d1
    obtain ⟨t, rfl⟩ := Int.eq_ofNat_of_zero_le e1
    have := refBound_yes n q g m t S l v w h.1 h.2.1 h.2.2 hl2 hv2 (by omega) (by omega) (by omega) (by omega) (by omega)
    unfold bnd
    rw [if_pos h]
    rw [← bnd_same n q g m t l v h.2.1 h.2.2 (by omega) (by omega) (by omega) (by omega) (by omega)] at this
    exact this
  · unfold bnd
    rw [if_neg h]
    refine refBound_zero N Q G M T S l v w ?_
    by_cases h1 : rightB N Q G M T S = true
    · simp only [h1, true_and] at h ⊢
      omega
    · simp [h1]
end Go.Proofs.Ytjcibnfaijdgnaa
