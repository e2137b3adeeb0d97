/- Chapter 30: what is needed of types. -/
import Derived.Test.YtjcibnfaijdgnaaWorks30
import Derived.Test.YtjcibnfaijdgnaaRdo
namespace Go.Proofs.Ytjcibnfaijdgnaa
open Go.RowKit
open Go.Ev (sy)
set_option linter.unusedVariables false
set_option linter.unusedSimpArgs false

theorem info_of {P : Program} {t : TypeId} {z : Value} {n b : Nat} (h : (P.info? t).map (fun i => (i.zero, i.size, i.bytes)) = some (some z, n, b)) (hz : z.cells.size = n) : ∃ i z, P.info? t = some i ∧ i.size = n ∧ i.zero = some z ∧ z.cells.size = i.size ∧ i.bytes = b := by
  cases hi : P.info? t with
  | none => rw [hi] at h; cases h
  | some i =>
    rw [hi] at h
    simp only [Option.map_some, Option.some.injEq, Prod.mk.injEq] at h
    exact ⟨i, z, rfl, h.2.1, h.1, by rw [h.2.1]; exact hz, h.2.2⟩
theorem info_z {P : Program} {t : TypeId} {z : Value} {n b : Nat} (h : (P.info? t).map (fun i => (i.zero, i.size, i.bytes)) = some (some z, n, b)) : ∃ i, P.info? t = some i ∧ i.size = n ∧ i.zero = some z ∧ i.bytes = b := by
  cases hi : P.info? t with
  | none => rw [hi] at h; cases h
  | some i =>
    rw [hi] at h
    simp only [Option.map_some, Option.some.injEq, Prod.mk.injEq] at h
    exact ⟨i, rfl, h.2.1, h.1, h.2.2⟩
def samp0 : Value := .agg #[.int .i64 0, .int .i64 0, .int .i64 0, .slice none 0 0, .int .i64 0, .bool false]
theorem infoInt : ∃ i, Try.prog.info? 3 = some i ∧ i.size = 1 ∧ i.zero = some (.int .i64 0) ∧ i.bytes = 8 := info_z (by kernel_rfl)
theorem infoSamp : ∃ i, Try.prog.info? 47 = some i ∧ i.size = 6 ∧ i.zero = some samp0 ∧ i.bytes = 64 := info_z (by kernel_rfl)
theorem mapI : Ev.IntMap Try.prog 49 3 3 where
  ht := Try.underlying49
  hk := Try.underlying3
  he := Try.underlying3
  hz := by
    intro w
    obtain ⟨i, i1, i2, i3, i4⟩ := infoInt
    simp [zeroValue, typeInfo, i1, i3]
theorem loadInt : Ev.LoadOne Try.prog 3 := by
  intro b o x w h
  simp [Instr.loadAt, Instr.sureAddr, loadVar, isAgg, run_underlying Try.underlying3, h]
theorem loadInt64 : Ev.LoadOne Try.prog 2 := by
  intro b o x w h
  simp [Instr.loadAt, Instr.sureAddr, loadVar, isAgg, run_underlying Try.underlying2, h]
theorem loadInts : Ev.LoadOne Try.prog 45 := by
  intro b o x w h
  simp [Instr.loadAt, Instr.sureAddr, loadVar, isAgg, run_underlying Try.underlying45, h]
theorem loadSamp : Ev.LoadAgg Try.prog 47 6 := by
  intro b o cs w hl h
  obtain ⟨i, i1, i2, i3, i4⟩ := infoSamp
  match cs, hl with
  | [c0, c1, c2, c3, c4, c5], _ =>
    have h0 := h 0 (by omega)
    have h1 := h 1 (by omega)
    have h2 := h 2 (by omega)
    have h3 := h 3 (by omega)
    have h4 := h 4 (by omega)
    have h5 := h 5 (by omega)
    simp at h0 h1 h2 h3 h4 h5
    simp [Instr.loadAt, Instr.sureAddr, loadVar, isAgg, run_underlying Try.underlying47, sizeOf, typeInfo, i1, i2, loadCells, loadCellsFrom, Ev.addMk, h0, h1, h2, h3, h4, h5]
end Go.Proofs.Ytjcibnfaijdgnaa
