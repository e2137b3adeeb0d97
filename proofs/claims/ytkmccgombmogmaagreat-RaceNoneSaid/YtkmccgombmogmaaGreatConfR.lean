/- Configs: 'within' and 'Right': each call returns what the plain function 'rightB' says; nothing that was there is changed. -/
import Derived.Test.YtkmccgombmogmaaGreatRows
import Derived.WalkKit
import Derived.WalkSpells
import Derived.WalkLawsBesides
import Derived.Lib.Hide
namespace Go.Proofs.YtkmccgombmogmaaGreat
open Go.RowKit
set_option linter.unusedVariables false
set_option linter.unusedSimpArgs false

theorem bcell {W w1 : World} (hb : Below W.heap.size W w1) : (∀ b o, b < W.heap.size → w1.cell? ⟨b, o, none⟩ = W.cell? ⟨b, o, none⟩) ∧ (∀ b o, b < W.heap.size → w1.frozen? ⟨b, o, none⟩ = W.frozen? ⟨b, o, none⟩) :=
  ⟨fun b o h => hb.cell (p := ⟨b, o, none⟩) h, fun b o h => hb.frozen (p := ⟨b, o, none⟩) h⟩

def wi (n a b : Int) : Bool := decide (a ≤ n) && decide (n ≤ b)

set_option maxHeartbeats 400000 in
theorem within_any (n a b : Int) (w : World) :
    Calls Tryz.prog 45 #[.int .i64 n, .int .i64 a, .int .i64 b] w fun e w' => e = .returned (.bool (wi n a b)) ∧ w = w' := by
  by_cases h1 : a ≤ n <;> by_cases h2 : n ≤ b
  all_goals
    go_enter Tryz.func45, Tryz.ntmps45
    go_wp2
    go_ret
    exact ⟨by simp [wi, *], rfl⟩

/-- A config may be: P5.1. -/
def rightB (N Q G M T S : Int) : Bool :=
  wi N 1 8 && (Q == 2 || Q == 4 || Q == 8 || Q == 16 || Q == 32 || Q == 64) && wi G 1 256 && wi M (N + 1) 16 && wi T 2 200 && wi S 0 1000

def rightC (N Q G M T S : Int) : Bool :=
  wi N 1 8 && wi Q 2 64 && (bits .and .i64 Q (wrap64 (Q - 1)) == 0) && wi G 1 256 && wi M (wrap64 (N + 1)) 16 && wi T 2 200 && wi S 0 1000

theorem pow_two_of (q : Nat) (h : q < 65) : (2 ≤ q ∧ bits .and .i64 (q : Int) (wrap64 ((q : Int) - 1)) = 0) ↔ (q = 2 ∨ q = 4 ∨ q = 8 ∨ q = 16 ∨ q = 32 ∨ q = 64) := by
  have : ∀ q : Fin 65, (2 ≤ q.val ∧ bits .and .i64 (q.val : Int) (wrap64 ((q.val : Int) - 1)) = 0) ↔ (q.val = 2 ∨ q.val = 4 ∨ q.val = 8 ∨ q.val = 16 ∨ q.val = 32 ∨ q.val = 64) := by decide +kernel
  exact this ⟨q, h⟩

theorem rightC_eq (N Q G M T S : Int) : rightC N Q G M T S = rightB N Q G M T S := by
  unfold rightC rightB
  by_cases hN : wi N 1 8 = true
  · have e1 : wrap64 (N + 1) = N + 1 := by
      have h := hN
      simp [wi] at h
      unfold wrap64
      omega
    have e2 : (wi Q 2 64 && (bits .and .i64 Q (wrap64 (Q - 1)) == 0)) = (Q == 2 || Q == 4 || Q == 8 || Q == 16 || Q == 32 || Q == 64) := by
      by_cases hQ : wi Q 2 64 = true
      · have h := hQ
        simp [wi] at h
        obtain ⟨q, rfl⟩ := Int.eq_ofNat_of_zero_le (show 0 ≤ Q by omega)
        have hp := pow_two_of q (by omega)
        rw [Bool.eq_iff_iff]
        simp [hQ]
        rw [show (bits BinOp.and IntKind.i64 (↑q) (wrap64 (↑q - 1)) = 0 ↔ (q = 2 ∨ q = 4 ∨ q = 8 ∨ q = 16 ∨ q = 32 ∨ q = 64)) from ⟨fun x => hp.1 ⟨by omega, x⟩, fun x => (hp.2 x).2⟩]
        omega
      · have h := hQ
        simp [wi] at h
        rw [Bool.eq_iff_iff]
        simp [hQ]
        omega
    rw [e1, ← e2]
    simp [Bool.and_assoc]
  · simp [hN]

set_option maxHeartbeats 800000 in
theorem rightC_any (N Q G M T S : Int) (w : World) :
    Calls Tryz.prog 21 #[.agg #[.int .i64 N, .int .i64 Q, .int .i64 G, .int .i64 M, .int .i64 T, .int .i64 S]] w fun e w' => e = .returned (.bool (rightC N Q G M T S)) ∧ Below w.heap.size w w' := by
  go_enter Tryz.func21, Tryz.ntmps21
  go_wp2_with (go_at_call 45; refine (within_any _ _ _ _).mono ?_; rintro e w' ⟨rfl, rfl⟩)
  all_goals
    go_ret
    refine ⟨?_, (Below.refl _ _).alloc (Nat.le_refl _) _⟩
    simp [rightC, *]

theorem right_any (N Q G M T S : Int) (w : World) :
    Calls Tryz.prog 21 #[.agg #[.int .i64 N, .int .i64 Q, .int .i64 G, .int .i64 M, .int .i64 T, .int .i64 S]] w fun e w' => e = .returned (.bool (rightB N Q G M T S)) ∧ Below w.heap.size w w' := by
  rw [← rightC_eq]
  exact rightC_any N Q G M T S w

end Go.Proofs.YtkmccgombmogmaaGreat
