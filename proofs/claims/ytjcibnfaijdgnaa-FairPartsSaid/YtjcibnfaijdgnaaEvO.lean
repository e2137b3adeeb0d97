/- The evaluator, part fifteen: steps, operations and calls are local. -/
import Derived.Test.YtjcibnfaijdgnaaEvN
namespace Go.Ev
open Go.RowKit
set_option linter.unusedVariables false
set_option linter.unusedSimpArgs false
set_option linter.unusedSectionVars false
variable [Sig]

/-- A whole shape, out of a block. -/
def qShape (r : Nat) (x : Option Obj) : Option (Option (TypeId × Nat)) :=
  match gro r, x with
  | false, some (.cells c e (0, 0)) => some (some (e, c.size))
  | _, _ => none
def qFrozen (x : Option Obj) : Option Bool :=
  match x with
  | some (.cells _ _ (0, 0)) => some false
  | _ => none
def qObj (x : Option Obj) : Option Obj :=
  match x with
  | some (.map es n) => some (.map es n)
  | some (.mapIter m n se st) => some (.mapIter m n se st)
  | some (.stringIter st p) => some (.stringIter st p)
  | some (.loop l) => some (.loop l)
  | some (.deferred d) => some (.deferred d)
  | _ => none
def qSet (o : Obj) (x : Option Obj) : Option (Unit × Option Obj) :=
  match x, o with
  | some (.map _ _), .map es n => some ((), some (.map es n))
  | some (.mapIter _ _ _ _), .mapIter m n se st => some ((), some (.mapIter m n se st))
  | some (.stringIter _ _), .stringIter st p => some ((), some (.stringIter st p))
  | some (.loop _), .loop l => some ((), some (.loop l))
  | some (.deferred _), .deferred d => some ((), some (.deferred d))
  | _, _ => none

theorem shp_cells {x y : Option Obj} {c : Array Value} {e : TypeId} {f : Nat × Nat} (h : shp x = shp y) (hx : x = some (.cells c e f)) : ∃ c', y = some (.cells c' e f) ∧ c'.size = c.size := by
  subst hx
  cases y with
  | none => cases h
  | some o =>
    cases o <;> simp only [shp, Shp.cells.injEq, reduceCtorEq] at h
    obtain ⟨rfl, h3, rfl⟩ := h
    exact ⟨_, rfl, h3.symm⟩
theorem shp_noncells {x y : Option Obj} (h : shp x = shp y) (hx : ∀ c e f, x ≠ some (.cells c e f)) : y = x := by
  have hy : ∀ c e f, y ≠ some (.cells c e f) := by
    intro c e f hh
    obtain ⟨c', h2, _⟩ := shp_cells h.symm hh
    exact hx _ _ _ h2
  have hc : ∀ (z : Option Obj), (∀ c e f, z ≠ some (.cells c e f)) → ∀ k, cel z k = none := by
    intro z hz k
    cases z with
    | none => rfl
    | some o =>
      cases o with
      | cells c e f => exact (hz _ _ _ rfl).elim
      | _ => rfl
  exact obj_ext h.symm (fun k => by rw [hc y hy, hc x hx])
theorem qShape_eq {r : Nat} {x y : Option Obj} (h : shp x = shp y) : qShape r y = qShape r x := by
  cases hg : gro r with
  | true => simp [qShape, hg]
  | false =>
    cases x with
    | none => rw [shp_none (h.symm)]
    | some o =>
      cases o with
      | cells c e f =>
        obtain ⟨c', rfl, hs⟩ := shp_cells h rfl
        obtain ⟨f1, f2⟩ := f
        unfold qShape
        rw [hg]
        cases f1 <;> cases f2 <;> simp [hs]
      | _ => rw [shp_noncells h (by intro c e f hh; cases hh)]
theorem qFrozen_eq {x y : Option Obj} (h : shp x = shp y) : qFrozen y = qFrozen x := by
  cases x with
  | none => rw [shp_none (h.symm)]
  | some o =>
    cases o with
    | cells c e f =>
      obtain ⟨c', rfl, hs⟩ := shp_cells h rfl
      obtain ⟨f1, f2⟩ := f
      unfold qFrozen
      cases f1 <;> cases f2 <;> simp
    | _ => rw [shp_noncells h (by intro c e f hh; cases hh)]

theorem arun_local {α : Type} (P : Program) (m : Sem α) : Local (arun P m) := by
  induction m with
  | pure a => exact Local.congr (fun s => rfl) (Local.pure a)
  | load md a k ih =>
    obtain ⟨id, off, sp⟩ := a
    cases sp with
    | some sp => exact Local.congr (fun s => by simp only [arun]) Local.none
    | none =>
      refine Local.congr (fun s => ?_) (Local.bind (Local.read id (some off) (fun x => cel x off) (fun x y h => h.2.symm) rfl) ih)
      simp only [arun]
      cases hl : s.look id with
      | none => rfl
      | some o =>
        cases o with
        | cells c e f =>
          simp only [cel]
          cases c[off]? <;> rfl
        | _ => rfl
  | store md a v k ih =>
    obtain ⟨id, off, sp⟩ := a
    cases sp with
    | some sp => exact Local.congr (fun s => by simp only [arun]; cases oneCell v <;> rfl) Local.none
    | none =>
      cases h1 : oneCell v with
      | false => exact Local.congr (fun s => by simp only [arun, h1]) Local.none
      | true =>
        by_cases hlim : id < lim
        · refine Local.congr (fun s => ?_) (Local.bind (Local.cell id off v hlim) (fun _ => ih))
          simp only [arun, h1]
          cases hl : s.look id with
          | none => rfl
          | some o =>
            cases o with
            | cells c e f =>
              obtain ⟨f1, f2⟩ := f
              cases f1 <;> cases f2 <;> first | rfl | skip
              by_cases hk : off < c.size
              · simp [hk, hlim]
              · simp [hk]
            | _ => rfl
        · refine Local.congr (fun s => ?_) Local.none
          simp only [arun, h1]
          split
          · rw [if_neg (fun h => hlim h.2)]
          · rfl
  | new o k ih =>
    have mk : (∀ s : St, arun P (.new o k) s = if 4 * s.next < lim then arun P (k (4 * s.next)) { (s.put (4 * s.next) (some o)).touch (4 * s.next) none true with next := s.next + 1 } else none) → Local (arun P (.new o k)) := by
      intro h
      refine Local.congr (fun s => ?_) (Local.bind (Local.new 0 (by omega) o) ih)
      rw [h s]
      dsimp only [Nat.add_zero]
      split <;> rfl
    cases o with
    | cells c e f =>
      obtain ⟨f1, f2⟩ := f
      cases f1 with
      | zero =>
        cases f2 with
        | zero => exact mk (fun s => by simp only [arun])
        | succ n => exact Local.congr (fun s => by simp only [arun]; split <;> rfl) Local.none
      | succ n => exact Local.congr (fun s => by simp only [arun]; split <;> rfl) Local.none
    | map es n => exact mk (fun s => by simp only [arun])
    | mapIter m n se st => exact mk (fun s => by simp only [arun])
    | stringIter st p => exact mk (fun s => by simp only [arun])
    | loop l => exact mk (fun s => by simp only [arun])
    | deferred d => exact mk (fun s => by simp only [arun])
    | _ => exact Local.congr (fun s => by simp only [arun]; split <;> rfl) Local.none
  | shape r k ih =>
    refine Local.congr (fun s => ?_) (Local.bind (Local.read r (some 0) (qShape r) (fun x y h => qShape_eq h.1) (by unfold qShape; split <;> first | rfl | (rename_i h; cases h))) ih)
    simp only [arun]
    cases hg : gro r with
    | true => simp [qShape, hg]
    | false =>
      cases hl : s.look r with
      | none => simp [qShape, hg]
      | some o =>
        cases o with
        | cells c e f =>
          obtain ⟨f1, f2⟩ := f
          cases f1 <;> cases f2 <;> simp [qShape, hg]
        | _ => simp [qShape, hg]
  | freeze a n k ih => exact Local.congr (fun s => rfl) Local.none
  | frozen a k ih =>
    refine Local.congr (fun s => ?_) (Local.bind (Local.read a.block (some 0) qFrozen (fun x y h => qFrozen_eq h.1) rfl) ih)
    simp only [arun]
    cases hl : s.look a.block with
    | none => rfl
    | some o =>
      cases o with
      | cells c e f =>
        obtain ⟨f1, f2⟩ := f
        cases f1 <;> cases f2 <;> rfl
      | _ => rfl
  | getObj r k ih =>
    refine Local.congr (fun s => ?_) (Local.bind (Local.read r none qObj (fun x y h => by rw [show x = y from h]) rfl) ih)
    simp only [arun]
    cases hl : s.look r with
    | none => rfl
    | some o => cases o <;> rfl
  | setObj r o k ih =>
    by_cases hlim : r < lim
    · refine Local.congr (fun s => ?_) (Local.bind (Local.whole r (qSet o) hlim (by cases o <;> rfl)) (fun _ => ih))
      simp only [arun, hlim, if_true]
      cases hl : s.look r with
      | none => cases o <;> rfl
      | some x => cases x <;> cases o <;> rfl
    · refine Local.congr (fun s => ?_) Local.none
      simp only [arun]
      split
      · rw [if_neg hlim]
      · rw [if_neg hlim]
      · rw [if_neg hlim]
      · rw [if_neg hlim]
      · rw [if_neg hlim]
      · rfl
  | choose q k ih =>
    cases hq : q.forced with
    | true => exact Local.congr (fun s => by simp only [arun, hq, if_true]) (ih 0)
    | false => exact Local.congr (fun s => by simp [arun, hq]) Local.none
  | sys c k ih => exact Local.congr (fun s => rfl) Local.none
  | program k ih => exact Local.congr (fun s => rfl) (ih P)
  | mark m k ih => exact Local.congr (fun s => rfl) ih
  | halt h => exact Local.congr (fun s => rfl) Local.none
end Go.Ev
