/- 'FairBounds': the law's own walk, out of the contracts of what it calls. -/
import Derived.Test.YtjcibnfaijdgnaaBnd3
namespace Go.Proofs.Ytjcibnfaijdgnaa
open Go.RowKit
set_option linter.unusedVariables false
set_option linter.unusedSimpArgs false

theorem keep6 {W w1 : World} (hb : Below W.heap.size W w1) {b : Nat} (hz : b < W.heap.size) {v0 v1 v2 v3 v4 v5 : Value}
    (h : W.cell? ⟨b, 0, none⟩ = some v0 ∧ W.cell? ⟨b, 1, none⟩ = some v1 ∧ W.cell? ⟨b, 2, none⟩ = some v2 ∧ W.cell? ⟨b, 3, none⟩ = some v3 ∧ W.cell? ⟨b, 4, none⟩ = some v4 ∧ W.cell? ⟨b, 5, none⟩ = some v5) :
    w1.cell? ⟨b, 0, none⟩ = some v0 ∧ w1.cell? ⟨b, 1, none⟩ = some v1 ∧ w1.cell? ⟨b, 2, none⟩ = some v2 ∧ w1.cell? ⟨b, 3, none⟩ = some v3 ∧ w1.cell? ⟨b, 4, none⟩ = some v4 ∧ w1.cell? ⟨b, 5, none⟩ = some v5 :=
  ⟨(hb.cell (p := ⟨b, 0, none⟩) hz).trans h.1, (hb.cell (p := ⟨b, 1, none⟩) hz).trans h.2.1, (hb.cell (p := ⟨b, 2, none⟩) hz).trans h.2.2.1, (hb.cell (p := ⟨b, 3, none⟩) hz).trans h.2.2.2.1, (hb.cell (p := ⟨b, 4, none⟩) hz).trans h.2.2.2.2.1, (hb.cell (p := ⟨b, 5, none⟩) hz).trans h.2.2.2.2.2⟩

set_option maxHeartbeats 1000000 in
theorem fairBounds_walk (hworks : Hid (∀ w : World, Calls Try.prog 8 #[] w fun e w' => e = .returned (.bool true) ∧ Below w.heap.size w w'))
    (N Q G M T S l v : Int) (w : World) (hl2 : l ≤ 9223372036854775807) (hv2 : v ≤ 9223372036854775807) :
    Calls Try.prog 3 #[.agg #[.int .i64 N, .int .i64 Q, .int .i64 G, .int .i64 M, .int .i64 T, .int .i64 S], .int .i64 l, .int .i64 v] w fun e w' => e = .returned (.bool true) ∧ Below w.heap.size w w' := by
  have hbd := bnd_bd N Q G M T S l v
  go_enter Try.func3, Try.ntmps3
  go_wp2
  have HB : Below w.heap.size w (w.alloc (.cells #[.int .i64 N, .int .i64 Q, .int .i64 G, .int .i64 M, .int .i64 T, .int .i64 S] 23)) := (Below.refl _ _).alloc (Nat.le_refl _) _
  have hz : w.heap.size < (w.alloc (.cells #[.int .i64 N, .int .i64 Q, .int .i64 G, .int .i64 M, .int .i64 T, .int .i64 S] 23)).heap.size := by simp
  have c0 : (w.alloc (.cells #[.int .i64 N, .int .i64 Q, .int .i64 G, .int .i64 M, .int .i64 T, .int .i64 S] 23)).cell? ⟨w.heap.size, 0, none⟩ = some (.int .i64 N) := by go_simp
  have c1 : (w.alloc (.cells #[.int .i64 N, .int .i64 Q, .int .i64 G, .int .i64 M, .int .i64 T, .int .i64 S] 23)).cell? ⟨w.heap.size, 1, none⟩ = some (.int .i64 Q) := by go_simp
  have c2 : (w.alloc (.cells #[.int .i64 N, .int .i64 Q, .int .i64 G, .int .i64 M, .int .i64 T, .int .i64 S] 23)).cell? ⟨w.heap.size, 2, none⟩ = some (.int .i64 G) := by go_simp
  have c3 : (w.alloc (.cells #[.int .i64 N, .int .i64 Q, .int .i64 G, .int .i64 M, .int .i64 T, .int .i64 S] 23)).cell? ⟨w.heap.size, 3, none⟩ = some (.int .i64 M) := by go_simp
  have c4 : (w.alloc (.cells #[.int .i64 N, .int .i64 Q, .int .i64 G, .int .i64 M, .int .i64 T, .int .i64 S] 23)).cell? ⟨w.heap.size, 4, none⟩ = some (.int .i64 T) := by go_simp
  have c5 : (w.alloc (.cells #[.int .i64 N, .int .i64 Q, .int .i64 G, .int .i64 M, .int .i64 T, .int .i64 S] 23)).cell? ⟨w.heap.size, 5, none⟩ = some (.int .i64 S) := by go_simp
  revert HB hz c0 c1 c2 c3 c4 c5
  generalize w.alloc (.cells #[.int .i64 N, .int .i64 Q, .int .i64 G, .int .i64 M, .int .i64 T, .int .i64 S] 23) = W0
  intro HB hz c0 c1 c2 c3 c4 c5
  have wr : IntKind.i64.wrap (bnd N Q G M T S l v) = bnd N Q G M T S l v := IntWalk.i64_in _ (by omega)
  generalize hbn : bnd N Q G M T S l v = bn at hbd wr
  have A5 : ∀ W : World, Calls Try.prog 5 #[.agg #[.int .i64 N, .int .i64 Q, .int .i64 G, .int .i64 M, .int .i64 T, .int .i64 S], .int .i64 l, .int .i64 v] W fun e w' => e = .returned (.int .i64 bn) ∧ Below W.heap.size W w' := by
    intro W; rw [← hbn]; exact bound_any N Q G M T S l v W hl2 hv2
  have A6 : ∀ W : World, Calls Try.prog 6 #[.agg #[.int .i64 N, .int .i64 Q, .int .i64 G, .int .i64 M, .int .i64 T, .int .i64 S], .int .i64 l, .int .i64 v] W fun e w' => e = .returned (.int .u64 bn) ∧ Below W.heap.size W w' := by
    intro W; rw [← hbn]; exact refBound_any N Q G M T S l v W hl2 hv2
  have H5 := Lib.hid A5
  have H6 := Lib.hid A6
  clear A5 A6 hbn
  go_region_held3 (fun w' => w'.cell? ⟨w.heap.size, 0, none⟩ = some (.int .i64 N) ∧ w'.cell? ⟨w.heap.size, 1, none⟩ = some (.int .i64 Q) ∧ w'.cell? ⟨w.heap.size, 2, none⟩ = some (.int .i64 G) ∧ w'.cell? ⟨w.heap.size, 3, none⟩ = some (.int .i64 M) ∧ w'.cell? ⟨w.heap.size, 4, none⟩ = some (.int .i64 T) ∧ w'.cell? ⟨w.heap.size, 5, none⟩ = some (.int .i64 S)) (first | exact keep6 hbd1 (by assumption) (by assumption) | exact keep6 hbc1 (by assumption) (by assumption) | exact keep6 hbb1 (by assumption) (by assumption) | exact keep6 hba1 (by assumption) (by assumption) | exact ⟨c0, c1, c2, c3, c4, c5⟩ | go_keep)
    (first
      | (go_at_call 5; refine (H5.out _).mono ?_; rintro e wa ⟨rfl, hba1⟩; have hza : w.heap.size < wa.heap.size := Nat.lt_of_lt_of_le (by assumption) hba1.size)
      | (go_at_call 7; refine (docsConfig_any _ _ _ _ _ _ _).mono ?_; rintro e wb ⟨rfl, hbb1⟩; have hzb : w.heap.size < wb.heap.size := Nat.lt_of_lt_of_le (by assumption) hbb1.size)
      | (go_at_call 6; refine (H6.out _).mono ?_; rintro e wc ⟨rfl, hbc1⟩; have hzc : w.heap.size < wc.heap.size := Nat.lt_of_lt_of_le (by assumption) hbc1.size)
      | (go_at_call 8; refine (hworks.out _).mono ?_; rintro e wd ⟨rfl, hbd1⟩; have hzd : w.heap.size < wd.heap.size := Nat.lt_of_lt_of_le (by assumption) hbd1.size))
  go_wp2
  go_ret
  exact ⟨rfl, (((HB.drew.trans (hba1.mono (Nat.le_of_lt hz))).trans (hbb1.mono (Nat.le_of_lt hza))).trans (hbc1.mono (Nat.le_of_lt hzb))).trans (hbd1.mono (Nat.le_of_lt hzc))⟩
end Go.Proofs.Ytjcibnfaijdgnaa
