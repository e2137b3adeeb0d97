/- Slices by what they hold: a slice that has a block of its own; append, cuts, elements. -/
import Derived.Test.YtjcibnfaijdgnaaGhc
namespace Go.Ev
open Go.RowKit
set_option linter.unusedVariables false
set_option linter.unusedSimpArgs false
set_option linter.unusedSectionVars false

theorem addMk (b off n : Nat) : (⟨b, off, none⟩ : Addr).add n = ⟨b, off + n, none⟩ := @Addr.add_mk noSig b off n
/-- A slice of n elements of type e, each of sz cells, that hold xs; F is its block. -/
def SlV (e : TypeId) (sz : Nat) (v : Value) (n : Nat) (xs : List Value) (F : Nat → Prop) (w : World) : Prop :=
  xs.length = n * sz ∧ ((v = .slice none 0 0 ∧ n = 0 ∧ ∀ j, ¬ F j) ∨
    ∃ b off c arr, v = .slice (some ⟨b, off, none⟩) n c ∧ (∀ j, F j ↔ j = b) ∧ w.heap[b]? = some (.cells arr e (0, 0)) ∧ (∀ i, i < n * sz → arr[off + i]? = xs[i]?) ∧ off + c * sz ≤ arr.size ∧ n ≤ c)

theorem SlV.keep {e : TypeId} {sz n : Nat} {v : Value} {xs : List Value} {F : Nat → Prop} {w w' : World} (h : SlV e sz v n xs F w) (hk : ∀ j, F j → w'.heap[j]? = w.heap[j]?) : SlV e sz v n xs F w' := by
  obtain ⟨h1, h2 | ⟨b, off, c, arr, k1, k2, k3, k4⟩⟩ := h
  · exact ⟨h1, .inl h2⟩
  · exact ⟨h1, .inr ⟨b, off, c, arr, k1, k2, by rw [hk b ((k2 b).2 rfl)]; exact k3, k4⟩⟩
theorem SlV.lt {e : TypeId} {sz n : Nat} {v : Value} {xs : List Value} {F : Nat → Prop} {w : World} (h : SlV e sz v n xs F w) : ∀ j, F j → j < w.heap.size := by
  intro j hj
  obtain ⟨h1, ⟨_, _, h2⟩ | ⟨b, off, c, arr, k1, k2, k3, k4⟩⟩ := h
  · exact (h2 j hj).elim
  · rw [(k2 j).1 hj]
    exact (Array.getElem?_eq_some_iff.1 k3).1
theorem SlV.code {e : TypeId} {sz n : Nat} {v : Value} {xs : List Value} {F : Nat → Prop} {w : World} (h : SlV e sz v n xs F w) : ∃ c, dec c = v := by
  obtain ⟨h1, ⟨rfl, _⟩ | ⟨b, off, c, arr, rfl, _⟩⟩ := h
  · exact ⟨_, dec_slice0⟩
  · exact ⟨_, dec_slice b off n c⟩
theorem SlV.leaf {e : TypeId} {sz n : Nat} {v : Value} {xs : List Value} {F : Nat → Prop} {w : World} (h : SlV e sz v n xs F w) : leafV v = true := by
  obtain ⟨h1, ⟨rfl, _⟩ | ⟨b, off, c, arr, rfl, _⟩⟩ := h <;> rfl
theorem SlV.nil (e : TypeId) (sz : Nat) (w : World) : SlV e sz (.slice none 0 0) 0 [] (fun _ => False) w := ⟨by simp, .inl ⟨rfl, rfl, fun _ h => h⟩⟩

theorem SlV.append {P : Program} {t u ty e : TypeId} {i : TypeInfo} {z : Value} {v y : Value} {n m : Nat} {xs cs : List Value} {F : Nat → Prop} {w : World} (h : SlV e i.size v n xs F w) (ht : P.underlying t = some (.slice e)) (hi : P.info? e = some i) (hz : i.zero = some z) (hzs : z.cells.size = i.size)
    (hs : Src P i.size u y m cs w) (hb : (n + m) * i.bytes ≤ 140737488355328) (hnm : n + m ≤ 1000000000) :
    ∃ v' w' F', (Builtin.append_ #[t, u] ty #[v, y]).run P w = .ok v' w' ∧ SlV e i.size v' (n + m) (xs ++ cs) F' w' ∧ Turn F w w' ∧ (∀ j, F' j → j < w'.heap.size ∧ (F j ∨ w.heap.size ≤ j)) := by
  obtain ⟨hl, hv⟩ := h
  have hcl := hs.newsLen
  have grow : ∀ (base : Option Addr) (c : Nat), v = .slice base n c → c < n + m → (Builtin.firstCells i.size n (.slice base n c)).run P w.drew = .ok xs.toArray w.drew →
      ∃ v' w' F', (Builtin.append_ #[t, u] ty #[v, y]).run P w = .ok v' w' ∧ SlV e i.size v' (n + m) (xs ++ cs) F' w' ∧ Turn F w w' ∧ (∀ j, F' j → j < w'.heap.size ∧ (F j ∨ w.heap.size ≤ j)) := by
    intro base c hv0 hlt hold
    have hrun := run_append_grow_src (P := P) w t u ty e i z ht hi hz base n c xs hold y m cs hs hlt (by omega) (growslice_fits hlt hb)
    have hcap := grownCap_ge w (n + m) c e
    generalize grownCap w (n + m) c e = cap at hrun hcap
    refine ⟨.slice (some ⟨w.heap.size, 0, none⟩) (n + m) cap, w.drew.alloc (.cells ((xs ++ cs).toArray ++ Builtin.zeroCells z.cells (cap - (n + m))) e), (fun j => j = w.heap.size), by rw [hv0]; exact hrun, ⟨by rw [List.length_append, hl, hcl, Nat.add_mul], .inr ⟨w.heap.size, 0, cap, (xs ++ cs).toArray ++ Builtin.zeroCells z.cells (cap - (n + m)), rfl, fun _ => Iff.rfl, ?_, ?_, ?_, hcap⟩⟩, ⟨rfl, rfl, rfl, by simp, fun k hk _ => ?_⟩, fun j hj => ?_⟩
    · show (w.heap.push _)[w.heap.size]? = _
      rw [Array.getElem?_push_size]
    · intro k hk
      rw [Nat.zero_add, Array.getElem?_append_left (by simp [hl, hcl, ← Nat.add_mul]; exact hk)]
      simp
    · have e2 : (Builtin.zeroCells z.cells (cap - (n + m))).size = (cap - (n + m)) * i.size := by simp [Builtin.zeroCells, hzs]
      rw [Array.size_append, e2]
      simp only [List.size_toArray, List.length_append, hl, hcl]
      rw [Nat.zero_add, ← Nat.add_mul, ← Nat.add_mul]
      rw [show n + m + (cap - (n + m)) = cap by omega]
      exact Nat.le_refl _
    · exact Below.heap_alloc _ _ _ hk
    · rw [hj]
      exact ⟨by simp, .inr (Nat.le_refl _)⟩
  rcases hv with ⟨hv, rfl, hF⟩ | ⟨b, off, c, arr, hv, hF, hb0, hx, hsz, hnc⟩
  · by_cases hm : m = 0
    · subst hm
      have hcs : cs = [] := List.eq_nil_of_length_eq_zero (by rw [hcl]; simp)
      subst hcs
      refine ⟨v, w, F, ?_, ⟨by simpa using hl, .inl ⟨hv, rfl, hF⟩⟩, ⟨rfl, rfl, rfl, Nat.le_refl _, fun _ _ _ => rfl⟩, fun j hj => (hF j hj).elim⟩
      rw [hv]
      exact run_append_nothing w t u ty e i ht hi none 0 0 (Nat.le_refl _) y hs
    · have hxs : xs = [] := List.eq_nil_of_length_eq_zero (by rw [hl]; simp)
      exact grow none 0 hv (by omega) (by rw [hxs]; exact run_firstCells_none _ _ _ _ _)
  · by_cases hroom : n + m ≤ c
    · have hnm' : (n + m) * i.size ≤ c * i.size := Nat.mul_le_mul_right _ hroom
      rw [Nat.add_mul] at hnm'
      have cell : ∀ j, j < cs.length → ∃ x, w.cell? ⟨b, off + n * i.size + j, none⟩ = some x := by
        intro j hj
        have hlt : off + n * i.size + j < arr.size := by omega
        exact ⟨arr[off + n * i.size + j], by simp [World.cell?, hb0, Array.getElem?_eq_getElem hlt]⟩
      have hrun := run_append_room_src (P := P) w t u ty e i ht hi b off n c y m cs hs hroom (fun j hj => by obtain ⟨x, hx⟩ := cell j hj; rw [hx]; rfl) (fun j hj => by simp [World.frozen?, hb0])
      obtain ⟨cur, s1, s2, s3, s4⟩ := @heap_setCells noSig _ _ cs (off + n * i.size) w arr hb0
      refine ⟨_, _, F, by rw [hv]; exact hrun, ⟨by rw [List.length_append, hl, hcl, Nat.add_mul], .inr ⟨b, off, c, cur, rfl, hF, s1, ?_, by rw [s2]; exact hsz, hroom⟩⟩, ⟨?_, ?_, ?_, by rw [@setCells_size noSig]; exact Nat.le_refl _, fun k _ hk => @setCells_other noSig _ _ _ _ _ (fun e => hk ((hF k).2 e))⟩, fun j hj => ⟨?_, .inl hj⟩⟩
      · intro k hk
        by_cases hkn : k < n * i.size
        · rw [s3 _ (by omega), hx k hkn, List.getElem?_append_left (by omega)]
        · have e1 : off + k = off + n * i.size + (k - n * i.size) := by omega
          rw [Nat.add_mul] at hk
          have hlt2 : k - n * i.size < cs.length := by omega
          rw [List.getElem?_append_right (by omega), hl, e1, List.getElem?_eq_getElem hlt2]
          exact s4 _ _ (List.getElem?_eq_getElem hlt2) (by omega)
      · exact (@setCells_below noSig (base := fun _ => False) (b := b) (fun h => h) cs (off + n * i.size) w).os
      · exact (@setCells_below noSig (base := fun _ => False) (b := b) (fun h => h) cs (off + n * i.size) w).tape
      · exact (@setCells_below noSig (base := fun _ => False) (b := b) (fun h => h) cs (off + n * i.size) w).output
      · rw [@setCells_size noSig, (hF j).1 hj]
        exact (Array.getElem?_eq_some_iff.1 hb0).1
    · refine grow (some ⟨b, off, none⟩) c hv (by omega) (run_firstCells_some _ _ _ _ _ _ _ hl (fun j x hj => ?_))
      have hjl : j < n * i.size := by
        rw [← hl]
        exact (List.getElem?_eq_some_iff.1 hj).1
      have := hx j hjl
      rw [hj] at this
      show w.cell? ((⟨b, off, none⟩ : Addr).add j) = some x
      rw [addMk]
      simp [World.cell?, hb0, this]

section
variable {P : Program} {t e : TypeId} {i : TypeInfo} {v : Value} {n : Nat} {xs : List Value} {F : Nat → Prop} {w : World}
theorem SlV.len (h : SlV e i.size v n xs F w) (ht : P.underlying t = some (.slice e)) (ty : TypeId) : (Builtin.len_ #[t] ty #[v]).run P w = .ok (.int .i64 n) w := by
  obtain ⟨h1, ⟨rfl, rfl, _⟩ | ⟨b, off, c, arr, rfl, _⟩⟩ := h <;> simp [Builtin.len_, run_underlying ht, goInt]
/-- From the lo-th element on. -/
theorem SlV.drop (h : SlV e i.size v n xs F w) (ht : P.underlying t = some (.slice e)) (hi : P.info? e = some i) {kd : IntKind} {lo : Nat} (hlo : lo ≤ n) :
    ∃ v', (Instr.sliceAt t v (some (.int kd lo)) none none).run P w = .ok v' w ∧ SlV e i.size v' (n - lo) (xs.drop (lo * i.size)) F w := by
  obtain ⟨h1, h2⟩ := h
  have hle := Nat.mul_le_mul_right i.size hlo
  have hbd : ∀ c : Nat, n ≤ c → (Instr.sliceBounds true n c (some (.int kd lo)) none none).run P w = .ok (lo, n, c) w := by
    intro c hc
    simp [Instr.sliceBounds, run_sliceBound, hlo, hc]
  have hs : (Instr.sliceAt t v (some (.int kd lo)) none none).run P w = (Instr.slice t v (some (.int kd lo)) none none).run P w := by
    simp [Instr.sliceAt, run_underlying ht]
  rcases h2 with ⟨rfl, rfl, hF⟩ | ⟨b, off, c, arr, rfl, hF, hb0, hx, hsz, hnc⟩
  · obtain rfl : lo = 0 := by omega
    refine ⟨.slice none 0 0, ?_, ⟨by simp [h1], .inl ⟨rfl, rfl, hF⟩⟩⟩
    rw [hs]
    simp only [Instr.slice, Sem.run_bind, run_underlying ht, Result.andThen]
    rw [hbd 0 (Nat.le_refl _)]
    simp [sizeOf, typeInfo, hi]
  · have hlc := Nat.mul_le_mul_right i.size (Nat.le_trans hlo hnc)
    by_cases e1 : c = lo
    · obtain rfl : n = lo := by omega
      subst e1
      refine ⟨.slice (some ⟨b, off, none⟩) 0 0, ?_, ⟨by simp [h1], .inr ⟨b, off, 0, arr, by rw [Nat.sub_self], hF, hb0, fun k hk => by simp at hk, by omega, by omega⟩⟩⟩
      rw [hs]
      simp only [Instr.slice, Sem.run_bind, run_underlying ht, Result.andThen]
      rw [hbd c (Nat.le_refl _)]
      simp [sizeOf, typeInfo, hi]
    · refine ⟨.slice (some ⟨b, off + lo * i.size, none⟩) (n - lo) (c - lo), ?_, ⟨by rw [List.length_drop, h1, Nat.sub_mul], .inr ⟨b, off + lo * i.size, c - lo, arr, rfl, hF, hb0, fun k hk => ?_, ?_, by omega⟩⟩⟩
      · rw [hs]
        simp only [Instr.slice, Sem.run_bind, run_underlying ht, Result.andThen]
        rw [hbd c hnc]
        simp [sizeOf, typeInfo, hi, e1, addMk]
      · rw [Nat.sub_mul] at hk
        rw [List.getElem?_drop, Nat.add_assoc]
        exact hx _ (by omega)
      · rw [Nat.sub_mul]
        omega
/-- The first hi elements. -/
theorem SlV.take (h : SlV e i.size v n xs F w) (ht : P.underlying t = some (.slice e)) (hi : P.info? e = some i) {kd : IntKind} {m : Nat} (hm : m ≤ n) :
    ∃ v', (Instr.sliceAt t v none (some (.int kd m)) none).run P w = .ok v' w ∧ SlV e i.size v' m (xs.take (m * i.size)) F w := by
  obtain ⟨h1, h2⟩ := h
  have hle := Nat.mul_le_mul_right i.size hm
  have hs : (Instr.sliceAt t v none (some (.int kd m)) none).run P w = (Instr.slice t v none (some (.int kd m)) none).run P w := by
    simp [Instr.sliceAt, run_underlying ht]
  rcases h2 with ⟨rfl, rfl, hF⟩ | ⟨b, off, c, arr, rfl, hF, hb0, hx, hsz, hnc⟩
  · obtain rfl : m = 0 := by omega
    refine ⟨.slice none 0 0, ?_, ⟨by simp, .inl ⟨rfl, rfl, hF⟩⟩⟩
    rw [hs]
    simp [Instr.slice, run_underlying ht, Instr.sliceBounds, run_sliceBound, sizeOf, typeInfo, hi]
  · refine ⟨.slice (some ⟨b, off, none⟩) m c, ?_, ⟨by rw [List.length_take, h1]; omega, .inr ⟨b, off, c, arr, rfl, hF, hb0, fun k hk => ?_, hsz, by omega⟩⟩⟩
    · rw [hs]
      have hmc : (m : Int) ≤ c := by omega
      simp [Instr.slice, run_underlying ht, Instr.sliceBounds, run_sliceBound, sizeOf, typeInfo, hi, hmc, addMk]
    · rw [List.getElem?_take, if_pos hk]
      exact hx k (by omega)
/-- Where the k-th element is. -/
theorem SlV.at (h : SlV e i.size v n xs F w) (ht : P.underlying t = some (.slice e)) (hi : P.info? e = some i) {kd : IntKind} {k : Nat} (hk : k < n) :
    ∃ b off c, v = .slice (some ⟨b, off, none⟩) n c ∧ (Instr.indexAt t v (.int kd k)).run P w = .ok (.pointer (some ⟨b, off + k * i.size, none⟩)) w ∧ F b ∧ ∀ j, j < i.size → w.cell? ⟨b, off + k * i.size + j, none⟩ = xs[k * i.size + j]? ∧ w.frozen? ⟨b, off + k * i.size + j, none⟩ = false := by
  obtain ⟨h1, h2⟩ := h
  rcases h2 with ⟨rfl, rfl, hF⟩ | ⟨b, off, c, arr, rfl, hF, hb0, hx, hsz, hnc⟩
  · omega
  · refine ⟨b, off, c, rfl, ?_, (hF b).2 rfl, fun j hj => ?_⟩
    · have hc : (0 : Int) ≤ (k : Int) ∧ (k : Int) < (n : Int) := ⟨by omega, by omega⟩
      simp [Instr.indexAt, run_underlying ht, hc, sizeOf, typeInfo, hi, addMk, asIntOf]
      intro h
      omega
    · have hlt : k * i.size + j < n * i.size := by
        have := Nat.mul_le_mul_right i.size (show k + 1 ≤ n by omega)
        rw [Nat.add_mul] at this
        omega
      refine ⟨?_, by simp [World.frozen?, hb0]⟩
      rw [← hx _ hlt]
      simp [World.cell?, hb0, Nat.add_assoc]
/-- One cell is written. -/
theorem SlV.set {sz b off c k : Nat} (h : SlV e sz v n xs F w) (hv : v = .slice (some ⟨b, off, none⟩) n c) (hk : k < n * sz) (x : Value) : SlV e sz v n (xs.set k x) F (w.setCell ⟨b, off + k, none⟩ x) := by
  obtain ⟨h1, h2⟩ := h
  rcases h2 with ⟨rfl, rfl, hF⟩ | ⟨b', off', c', arr, hv', hF, hb0, hx, hsz, hnc⟩
  · cases hv
  · rw [hv] at hv'
    cases hv'
    have hn := Nat.mul_le_mul_right sz hnc
    refine ⟨by simpa using h1, .inr ⟨b, off, c, arr.setIfInBounds (off + k) x, hv, hF, @heap_setCell_same noSig _ _ _ _ _ _ hb0, fun i hi => ?_, by simpa using hsz, hnc⟩⟩
    rw [Array.getElem?_setIfInBounds, List.getElem?_set]
    by_cases e : k = i
    · subst e
      rw [if_pos rfl, if_pos rfl, if_pos (by omega), if_pos (by omega)]
    · rw [if_neg (by omega), if_neg e]
      exact hx i hi
end
end Go.Ev
