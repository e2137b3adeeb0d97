/- The evaluator, part sixteen: operations and calls are local. -/
import Derived.Test.YtjcibnfaijdgnaaEvO
namespace Go.Ev
open Go.RowKit
set_option linter.unusedVariables false
set_option linter.unusedSimpArgs false
set_option linter.unusedSectionVars false
variable [Sig]

theorem Local.opt {α : Type} (c : Option α) : Local (fun s => match c with | some a => some (a, s) | Option.none => Option.none) := by
  cases c with
  | none => exact Local.none
  | some a => exact Local.pure a
theorem Local.map {α β : Type} {f : St → Option (α × St)} (hf : Local f) (g : α → β) : Local (fun s => (f s).map fun (a, s1) => (g a, s1)) := by
  refine Local.congr (fun s => ?_) (Local.bind hf (fun a => Local.pure (g a)))
  dsimp only
  cases f s with
  | none => rfl
  | some x => rfl
theorem Local.ite {α : Type} (c : Bool) {f : St → Option (α × St)} (hf : Local f) : Local (fun s => if c = true then f s else Option.none) := by
  cases c with
  | false => exact Local.congr (fun s => by simp) Local.none
  | true => exact Local.congr (fun s => by simp) hf
theorem sv_local {f : St → Option (Value × St)} (hf : Local f) : Local (fun s => sv (f s)) := Local.map hf Next.value
theorem su_local {α : Type} {f : St → Option (α × St)} (hf : Local f) : Local (fun s => su (f s)) := Local.map hf (fun _ => Next.skip)

def qMap (x : Option Obj) : Option (Array MapEntry × Nat) :=
  match x with
  | some (.map es n) => some (es, n)
  | _ => none

theorem aLookup_local (P : Program) (t : TypeId) (m k : Value) (ok : Bool) : Local (fun s => aLookup P s t m k ok) := by
  unfold aLookup
  cases hT : mapT P t with
  | none => exact Local.congr (fun s => by simp [hT]) Local.none
  | some x =>
    obtain ⟨kt, d, et⟩ := x
    cases hk : keyV k with
    | false => exact Local.congr (fun s => by simp [hT, hk]) Local.none
    | true =>
      have fin : ∀ es : Array MapEntry, Local (fun s1 => match Instr.findNow d k es.toList 0 with
          | some (some (_, v)) => some (if ok then Value.tuple #[v, .bool true] else v, s1)
          | some none =>
            match P.info? et with
            | some i => (match i.zero with | some z => if flatN 6 z then some (if ok then Value.tuple #[z, .bool false] else z, s1) else none | none => none)
            | none => none
          | none => none) := by
        intro es
        cases Instr.findNow d k es.toList 0 with
        | none => exact Local.none
        | some r =>
          cases r with
          | some p => exact Local.pure _
          | none =>
            dsimp only
            cases P.info? et with
            | none => exact Local.none
            | some i =>
              dsimp only
              cases i.zero with
              | none => exact Local.none
              | some z =>
                dsimp only
                exact Local.ite _ (Local.pure _)
      cases m with
      | map r =>
        cases r with
        | none => exact Local.congr (fun s => rfl) (fin #[])
        | some r =>
          refine Local.congr (fun s => ?_) (Local.bind (Local.read r none qMap (fun x y h => by rw [show x = y from h]) rfl) (fun p => fin p.1))
          dsimp only [entriesOf]
          cases hl : s.look r with
          | none => rfl
          | some o => cases o <;> rfl
      | _ => exact Local.congr (fun s => rfl) Local.none

/-- A write of a map, by what it was. -/
def qUp (P : Program) (t : TypeId) (k v : Value) (x : Option Obj) : Option (Unit × Option Obj) :=
  match mapT P t, x with
  | some (_, d, _), some (.map es n) =>
    match Instr.findNow d k es.toList 0 with
    | some (some (i, _)) => if Instr.sameBits 10000 (((es[i]?).map (·.key)).getD k) k then some ((), some (.map (es.modify i fun e => { e with key := k, val := v }) n)) else none
    | some none => some ((), some (.map (es.push { key := k, val := v, born := n }) (n + 1)))
    | none => none
  | _, _ => none
def qDel (P : Program) (t : TypeId) (k : Value) (x : Option Obj) : Option (Unit × Option Obj) :=
  match mapT P t, x with
  | some (_, d, _), some (.map es n) =>
    match Instr.findNow d k es.toList 0 with
    | some (some (i, _)) => some ((), some (.map (es.eraseIdxIfInBounds i) n))
    | some none => some ((), some (.map es n))
    | none => none
  | _, _ => none

theorem aUpdate_local (P : Program) (t : TypeId) (m k v : Value) : Local (fun s => (aUpdate P s t m k v).map fun s1 => ((), s1)) := by
  cases hT : mapT P t with
  | none => exact Local.congr (fun s => by simp [aUpdate, hT]) Local.none
  | some x =>
    obtain ⟨kt, d, et⟩ := x
    cases hk : keyV k with
    | false => exact Local.congr (fun s => by simp [aUpdate, hT, hk]) Local.none
    | true =>
      cases m with
      | map r =>
        cases r with
        | none => exact Local.congr (fun s => by simp [aUpdate, hT, hk]) Local.none
        | some r =>
          by_cases hlim : r < lim
          · refine Local.congr (fun s => ?_) (Local.whole r (qUp P t k v) hlim (by simp [qUp, hT]))
            simp only [aUpdate, hT, hk, qUp]
            cases hl : s.look r with
            | none => rfl
            | some o =>
              cases o with
              | map es n =>
                simp only [hlim, if_true]
                cases Instr.findNow d k es.toList 0 with
                | none => rfl
                | some q =>
                  cases q with
                  | none => rfl
                  | some p =>
                    dsimp only
                    split <;> rfl
              | _ => rfl
          · refine Local.congr (fun s => ?_) Local.none
            simp only [aUpdate, hT, hk, hlim, if_false]
            cases hl : s.look r with
            | none => rfl
            | some o => cases o <;> rfl
      | _ => exact Local.congr (fun s => by simp [aUpdate, hT, hk]) Local.none
def qEnt (P : Program) (t : TypeId) (k : Value) (x : Option Obj) : Option (Value × Option Obj) :=
  match mapT P t, x with
  | some (_, d, et), some (.map es n) =>
    match Instr.findNow d k es.toList 0 with
    | some (some (i, v)) => if Instr.sameBits 10000 (((es[i]?).map (·.key)).getD k) k then some (.tuple #[v, goInt (((es[i]?).map (·.born)).getD 0)], some (.map (es.modify i fun e => { e with key := k }) n)) else none
    | some none =>
      match P.info? et with
      | some i => (match i.zero with | some z => if flatN 6 z then some (.tuple #[z, goInt n], some (.map (es.push { key := k, val := z, born := n }) (n + 1))) else none | none => none)
      | none => none
    | none => none
  | _, _ => none
theorem aEntry_local (P : Program) (t : TypeId) (m k : Value) : Local (fun s => aEntry P s t m k) := by
  cases hT : mapT P t with
  | none => exact Local.congr (fun s => by simp [aEntry, hT]) Local.none
  | some x =>
    obtain ⟨kt, d, et⟩ := x
    cases hk : keyV k with
    | false => exact Local.congr (fun s => by simp [aEntry, hT, hk]) Local.none
    | true =>
      cases m with
      | map r =>
        cases r with
        | none => exact Local.congr (fun s => by simp [aEntry, hT, hk]) Local.none
        | some r =>
          by_cases hlim : r < lim
          · refine Local.congr (fun s => ?_) (Local.whole r (qEnt P t k) hlim (by simp [qEnt, hT]))
            simp only [aEntry, hT, hk, qEnt]
            cases hl : s.look r with
            | none => rfl
            | some o =>
              cases o with
              | map es n =>
                simp only [hlim, if_true]
                cases Instr.findNow d k es.toList 0 with
                | none => rfl
                | some q =>
                  cases q with
                  | none =>
                    dsimp only
                    cases P.info? et with
                    | none => rfl
                    | some i =>
                      dsimp only
                      cases i.zero with
                      | none => rfl
                      | some z =>
                        dsimp only
                        split <;> rfl
                  | some p =>
                    dsimp only
                    split <;> rfl
              | _ => rfl
          · refine Local.congr (fun s => ?_) Local.none
            simp only [aEntry, hT, hk, hlim, if_false]
            cases hl : s.look r with
            | none => rfl
            | some o => cases o <;> rfl
      | _ => exact Local.congr (fun s => by simp [aEntry, hT, hk]) Local.none
def qStp (b : Int) (v : Value) (x : Option Obj) : Option (Unit × Option Obj) :=
  match x with
  | some (.map es n) =>
    match es.findIdx? (fun e => (e.born : Int) == b) with
    | some i => some ((), some (.map (es.modify i fun e => { e with val := v }) n))
    | none => none
  | _ => none
theorem aStamp_local (m st v : Value) : Local (fun s => (aStamp s m st v).map fun s1 => ((), s1)) := by
  cases m with
  | map r =>
    cases r with
    | none => exact Local.congr (fun s => by simp [aStamp]) Local.none
    | some r =>
      cases st with
      | int ik b =>
        by_cases hlim : r < lim
        · refine Local.congr (fun s => ?_) (Local.whole r (qStp b v) hlim (by simp [qStp]))
          simp only [aStamp, qStp]
          cases hl : s.look r with
          | none => rfl
          | some o =>
            cases o with
            | map es n =>
              simp only [hlim, if_true]
              cases es.findIdx? (fun e => (e.born : Int) == b) with
              | none => rfl
              | some i => rfl
            | _ => rfl
        · refine Local.congr (fun s => ?_) Local.none
          simp only [aStamp, hlim, if_false]
          cases hl : s.look r with
          | none => rfl
          | some o => cases o <;> rfl
      | _ => exact Local.congr (fun s => by simp [aStamp]) Local.none
  | _ => exact Local.congr (fun s => by simp [aStamp]) Local.none
theorem aDelete_local (P : Program) (t : TypeId) (m k : Value) : Local (fun s => (aDelete P s t m k).map fun s1 => ((), s1)) := by
  cases hT : mapT P t with
  | none => exact Local.congr (fun s => by simp [aDelete, hT]) Local.none
  | some x =>
    obtain ⟨kt, d, et⟩ := x
    cases hk : keyV k with
    | false => exact Local.congr (fun s => by simp [aDelete, hT, hk]) Local.none
    | true =>
      cases m with
      | map r =>
        cases r with
        | none => exact Local.congr (fun s => by simp [aDelete, hT, hk]) Local.none
        | some r =>
          by_cases hlim : r < lim
          · refine Local.congr (fun s => ?_) (Local.whole r (qDel P t k) hlim (by simp [qDel, hT]))
            simp only [aDelete, hT, hk, qDel]
            cases hl : s.look r with
            | none => rfl
            | some o =>
              cases o with
              | map es n =>
                simp only [hlim, if_true]
                cases Instr.findNow d k es.toList 0 with
                | none => rfl
                | some q =>
                  cases q with
                  | none => rfl
                  | some p => rfl
              | _ => rfl
          · refine Local.congr (fun s => ?_) Local.none
            simp only [aDelete, hT, hk, hlim, if_false]
            cases hl : s.look r with
            | none => rfl
            | some o => cases o <;> rfl
      | _ => exact Local.congr (fun s => by simp [aDelete, hT, hk]) Local.none

def rdSrc (sz : Nat) (x : Value) (s : St) : Option (Array Value × St) :=
  match srcCells s sz x with
  | some (c, l) => some (c, { s with log := l ++ s.log })
  | none => none
def qSrc (off n sz : Nat) (x : Option Obj) : Option (Array Value) :=
  match x with
  | some (.cells a _ _) => if off + n * sz ≤ a.size ∧ (a.extract off (off + n * sz)).toList.all oneCell = true then some (a.extract off (off + n * sz)) else none
  | _ => none
theorem rdSrc_local (sz : Nat) (x : Value) : Local (rdSrc sz x) := by
  cases x with
  | slice a n c =>
    cases a with
    | none =>
      match n, c with
      | 0, 0 => exact Local.congr (fun s => rfl) (Local.pure #[])
      | 0, c + 1 => exact Local.congr (fun s => rfl) Local.none
      | n + 1, c => exact Local.congr (fun s => rfl) Local.none
    | some a =>
      obtain ⟨id, off, sp⟩ := a
      cases sp with
      | some q => exact Local.congr (fun s => rfl) Local.none
      | none =>
        refine Local.congr (fun s => ?_) (Local.read id none (qSrc off n sz) (fun x y h => by rw [show x = y from h]) rfl)
        simp only [rdSrc, srcCells, qSrc]
        cases hl : s.look id with
        | none => rfl
        | some o =>
          cases o with
          | cells a e f =>
            by_cases hc : off + n * sz ≤ a.size ∧ (a.extract off (off + n * sz)).toList.all oneCell = true
            · simp only [hc, and_self, if_true]; rfl
            · simp only [hc, if_false]
          | _ => rfl
  | string b =>
    by_cases h : sz = 1
    · refine Local.congr (fun s => ?_) (Local.pure (byteCells b).toArray)
      simp [rdSrc, srcCells, h]
    · refine Local.congr (fun s => ?_) Local.none
      simp [rdSrc, srcCells, h]
  | _ => exact Local.congr (fun s => rfl) Local.none

theorem srcCells_look {s s2 : St} (h : s2.look = s.look) (sz : Nat) (x : Value) : srcCells s2 sz x = srcCells s sz x := by
  unfold srcCells
  rw [h]

/-- The block that is given up. -/
def qDrop (e : TypeId) (x : Option Obj) : Option (Unit × Option Obj) :=
  match x with
  | some (.cells _ e0 _) => if e0 = e then some ((), none) else none
  | _ => none

def appNew (e : TypeId) (k : Nat) (c : Array Value) (s : St) : Option (Value × St) :=
  if 4 * s.next + 1 < lim then some (.slice (some ⟨4 * s.next + 1, 0, none⟩) k k, { (s.put (4 * s.next + 1) (some (.cells c e (0, 0)))).touch (4 * s.next + 1) none true with next := s.next + 1 }) else none
theorem appNew_local (e : TypeId) (k : Nat) (c : Array Value) : Local (appNew e k c) := by
  refine Local.congr (fun s => ?_) (Local.map (Local.new 1 (by omega) (.cells c e (0, 0))) (fun id => Value.slice (some ⟨id, 0, none⟩) k k))
  unfold appNew
  dsimp only
  split <;> rfl

def appDrop (e : TypeId) (id : Nat) (s : St) : Option (Unit × St) :=
  match qDrop e (s.look id) with
  | some (a, o) => some (a, (s.put id o).touch id none true)
  | none => none
def appEnd (e : TypeId) (k : Nat) (dr : Option Nat) (c : Array Value) (s : St) : Option (Value × St) :=
  match dr with
  | none => appNew e k c s
  | some id =>
    if id < lim then
      match appDrop e id s with
      | some (_, s1) => appNew e k c s1
      | none => none
    else none
theorem appEnd_local (e : TypeId) (k : Nat) (dr : Option Nat) (c : Array Value) : Local (appEnd e k dr c) := by
  cases dr with
  | none => exact appNew_local _ _ _
  | some id =>
    by_cases hlim : id < lim
    · refine Local.congr (fun s => ?_) (Local.bind (Local.whole id (qDrop e) hlim rfl) (fun _ => appNew_local e k c))
      simp only [appEnd, appDrop, hlim, if_true]
      cases qDrop e (s.look id) <;> rfl
    · exact Local.congr (fun s => by simp only [appEnd, hlim, if_false]) Local.none
def appMid (e : TypeId) (sz k : Nat) (src : Value) (dr : Option Nat) (olds : Array Value) (s : St) : Option (Value × St) :=
  match rdSrc sz src s with
  | some (news, s2) => appEnd e k dr (olds ++ news) s2
  | none => none
theorem appMid_local (e : TypeId) (sz k : Nat) (src : Value) (dr : Option Nat) (olds : Array Value) : Local (appMid e sz k src dr olds) :=
  Local.congr (fun s => by unfold appMid; cases rdSrc sz src s <;> rfl) (Local.bind (rdSrc_local sz src) (fun news => appEnd_local e k dr (olds ++ news)))
/-- 'append' as steps. -/
def appSteps (e : TypeId) (sz k : Nat) (dst src : Value) (dr : Option Nat) (s : St) : Option (Value × St) :=
  match rdSrc sz dst s with
  | some (olds, s1) => appMid e sz k src dr olds s1
  | none => none
theorem appSteps_local (e : TypeId) (sz k : Nat) (dst src : Value) (dr : Option Nat) : Local (appSteps e sz k dst src dr) :=
  Local.congr (fun s => by unfold appSteps; cases rdSrc sz dst s <;> rfl) (Local.bind (rdSrc_local sz dst) (fun olds => appMid_local e sz k src dr olds))
end Go.Ev
