/- The evaluator, part fourteen: what a step does hangs on what it touches alone. -/
import Derived.Test.YtjcibnfaijdgnaaEvM
namespace Go.Ev
open Go.RowKit
set_option linter.unusedVariables false
set_option linter.unusedSimpArgs false
set_option linter.unusedSectionVars false
variable [Sig]

/-- What a block is, but for its cells. -/
inductive Shp where
  | no
  | cells (e : TypeId) (n : Nat) (f : Nat × Nat)
  | obj (o : Obj)
def shp : Option Obj → Shp
  | none => .no
  | some (.cells c e f) => .cells e c.size f
  | some o => .obj o
def cel : Option Obj → Nat → Option Value
  | some (.cells c _ _), k => c[k]?
  | _, _ => none

theorem obj_ext {x y : Option Obj} (h : shp x = shp y) (hc : ∀ k, cel x k = cel y k) : x = y := by
  cases x with
  | none =>
    cases y with
    | none => rfl
    | some y => cases y <;> simp [shp] at h
  | some x =>
    cases y with
    | none => cases x <;> simp [shp] at h
    | some y =>
      cases x <;> cases y <;> simp only [shp, Shp.cells.injEq, Shp.obj.injEq, reduceCtorEq] at h
      case cells.cells c e f c' e' f' =>
        obtain ⟨rfl, hs, rfl⟩ := h
        have : c = c' := by
          apply Array.ext hs
          intro i h1 h2
          have := hc i
          simp only [cel, Array.getElem?_eq_getElem h1, Array.getElem?_eq_getElem h2, Option.some.injEq] at this
          exact this
        rw [this]
      all_goals first | (cases h; rfl) | exact congrArg some h | skip

/-- All of a block is written. -/
def allW (L : List Touch) (id : Nat) : Prop := ∃ t ∈ L, t.id = id ∧ t.wr = true ∧ t.at_ = none
def celW (L : List Touch) (id k : Nat) : Prop := ∃ t ∈ L, t.id = id ∧ t.wr = true ∧ t.at_ = some k

def agr (t : Touch) (x y : Option Obj) : Prop :=
  match t.at_ with
  | none => x = y
  | some k => shp x = shp y ∧ cel x k = cel y k

/-- What is not written is as it was. -/
def Upd (L : List Touch) (s s1 : St) : Prop := ∀ id, ¬ allW L id → shp (s1.look id) = shp (s.look id) ∧ ∀ k, ¬ celW L id k → cel (s1.look id) k = cel (s.look id) k
/-- s3 is s2, but where it was written: there it is as s1. -/
def Mrg (L : List Touch) (s1 s2 s3 : St) : Prop := ∀ id, (allW L id → s3.look id = s1.look id) ∧ (¬ allW L id → shp (s3.look id) = shp (s2.look id) ∧ ∀ k, (celW L id k → cel (s3.look id) k = cel (s1.look id) k) ∧ (¬ celW L id k → cel (s3.look id) k = cel (s2.look id) k))

/-- Names from n up to m have nothing. -/
def Win (s : St) (n m : Nat) : Prop := ∀ id, 4 * n ≤ id → id < 4 * m → s.look id = none
/-- A name that is none of those. -/
def Old (n m id : Nat) : Prop := ¬ (4 * n ≤ id ∧ id < 4 * m)

def Local {α : Type} (f : St → Option (α × St)) : Prop :=
  ∀ s r s1, f s = some (r, s1) → s.next ≤ s1.next ∧ (Win s s.next s1.next →
    ∃ L, s1.log = L ++ s.log ∧ Upd L s s1 ∧ (∀ t ∈ L, Old s.next s1.next t.id → s.look t.id ≠ none) ∧
      ∀ s2 : St, s2.next = s.next → (∀ t ∈ L, Old s.next s1.next t.id → agr t (s.look t.id) (s2.look t.id)) → Win s2 s.next s1.next →
        ∃ s3, f s2 = some (r, s3) ∧ s3.next = s1.next ∧ s3.log = L ++ s2.log ∧ Mrg L s1 s2 s3)

theorem shp_none {x : Option Obj} (h : shp x = .no) : x = none := by
  cases x with
  | none => rfl
  | some o => cases o <;> simp [shp] at h
theorem not_allW_nil (id : Nat) : ¬ allW [] id := fun ⟨t, ht, _⟩ => by cases ht
theorem not_celW_nil (id k : Nat) : ¬ celW [] id k := fun ⟨t, ht, _⟩ => by cases ht
theorem Mrg.nil (s : St) (s1 : St) : Mrg [] s1 s s := fun id => ⟨fun h => (not_allW_nil id h).elim, fun _ => ⟨rfl, fun k => ⟨fun h => (not_celW_nil id k h).elim, fun _ => rfl⟩⟩⟩

theorem Local.pure {α : Type} (a : α) : Local (fun s => some (a, s)) := by
  intro s r s1 h
  cases h
  exact ⟨Nat.le_refl _, fun hcl => ⟨[], rfl, fun id _ => ⟨rfl, fun k _ => rfl⟩, (fun t ht => by cases ht), fun s2 hn ha hc => ⟨s2, rfl, hn, rfl, Mrg.nil s2 _⟩⟩⟩

theorem allW_append {L M : List Touch} {id : Nat} : allW (L ++ M) id ↔ allW L id ∨ allW M id := by
  constructor
  · rintro ⟨t, ht, h⟩
    rcases List.mem_append.1 ht with ht | ht
    · exact .inl ⟨t, ht, h⟩
    · exact .inr ⟨t, ht, h⟩
  · rintro (⟨t, ht, h⟩ | ⟨t, ht, h⟩)
    · exact ⟨t, List.mem_append_left _ ht, h⟩
    · exact ⟨t, List.mem_append_right _ ht, h⟩
theorem celW_append {L M : List Touch} {id k : Nat} : celW (L ++ M) id k ↔ celW L id k ∨ celW M id k := by
  constructor
  · rintro ⟨t, ht, h⟩
    rcases List.mem_append.1 ht with ht | ht
    · exact .inl ⟨t, ht, h⟩
    · exact .inr ⟨t, ht, h⟩
  · rintro (⟨t, ht, h⟩ | ⟨t, ht, h⟩)
    · exact ⟨t, List.mem_append_left _ ht, h⟩
    · exact ⟨t, List.mem_append_right _ ht, h⟩

theorem Local.bind {α β : Type} {f : St → Option (α × St)} {g : α → St → Option (β × St)} (hf : Local f) (hg : ∀ a, Local (g a)) :
    Local (fun s => match f s with | some (a, s1) => g a s1 | none => none) := by
  intro s r s2 h
  dsimp only at h
  split at h
  · rename_i a s1 hfs
    obtain ⟨n1, k1⟩ := hf s a s1 hfs
    obtain ⟨n2, k2⟩ := hg a s1 r s2 h
    refine ⟨Nat.le_trans n1 n2, fun hcl => ?_⟩
    obtain ⟨L1, e1, u1, b1, l1⟩ := k1 (fun id x y => hcl id x (by omega))
    have free1 : ∀ id, 4 * s1.next ≤ id → id < 4 * s2.next → ¬ allW L1 id := by
      intro id x y ⟨t, ht, hid, _⟩
      exact b1 t ht (fun hh => by omega) (by rw [hid]; exact hcl id (by omega) y)
    have w1 : Win s1 s1.next s2.next := by
      intro id x y
      exact shp_none (by rw [(u1 id (free1 id x y)).1, hcl id (by omega) y]; rfl)
    obtain ⟨L2, e2, u2, b2, l2⟩ := k2 w1
    refine ⟨L2 ++ L1, by rw [e2, e1, List.append_assoc], ?_, ?_, ?_⟩
    · intro id hw
      rw [allW_append, not_or] at hw
      obtain ⟨p1, p2⟩ := u1 id hw.2
      obtain ⟨q1, q2⟩ := u2 id hw.1
      refine ⟨q1.trans p1, fun k hk => ?_⟩
      rw [celW_append, not_or] at hk
      exact (q2 k hk.1).trans (p2 k hk.2)
    · intro t ht hold
      rcases List.mem_append.1 ht with ht | ht
      · intro hno
        have hno1 : ¬ allW L1 t.id := fun ⟨u, hu, hid, _⟩ => b1 u hu (fun hh => hold (by omega)) (by rw [hid]; exact hno)
        exact b2 t ht (fun hh => hold (by omega)) (shp_none (by rw [(u1 t.id hno1).1, hno]; rfl))
      · exact b1 t ht (fun hh => hold (by omega))
    · intro z hz hag hzc
      obtain ⟨z1, f1, m1, g1, r1⟩ := l1 z hz (fun t ht hid => by
        by_cases hw : Old s.next s2.next t.id
        · exact hag t (List.mem_append_right _ ht) hw
        · have hw' : 4 * s.next ≤ t.id ∧ t.id < 4 * s2.next := by unfold Old at hw; omega
          exact absurd (hcl t.id hw'.1 hw'.2) (b1 t ht hid)) (fun id x y => hzc id x (by omega))
      -- what g touches is alike
      have hag2 : ∀ t ∈ L2, Old s1.next s2.next t.id → agr t (s1.look t.id) (z1.look t.id) := by
        intro t ht hid
        obtain ⟨ra, rb⟩ := r1 t.id
        by_cases hw : allW L1 t.id
        · rw [ra hw]
          unfold agr
          split
          · rfl
          · exact ⟨rfl, rfl⟩
        · obtain ⟨rc, rd⟩ := rb hw
          obtain ⟨p1, p2⟩ := u1 t.id hw
          by_cases hold : Old s.next s2.next t.id
          · have h0 := hag t (List.mem_append_left _ ht) hold
            unfold agr at h0 ⊢
            split at h0
            · apply obj_ext
              · rw [p1, rc, h0]
              · intro k
                by_cases hk : celW L1 t.id k
                · rw [(rd k).1 hk]
                · rw [(rd k).2 hk, p2 k hk, h0]
            · rename_i k hsome
              refine ⟨by rw [p1, rc]; exact h0.1, ?_⟩
              by_cases hk : celW L1 t.id k
              · rw [(rd k).1 hk]
              · rw [(rd k).2 hk, p2 k hk]; exact h0.2
          · have hw' : 4 * s.next ≤ t.id ∧ t.id < 4 * s2.next := by unfold Old at hold; omega
            have hz0 : z.look t.id = none := hzc t.id hw'.1 hw'.2
            have hs0 : s.look t.id = none := hcl t.id hw'.1 hw'.2
            have e3 : s1.look t.id = none := shp_none (by rw [p1, hs0]; rfl)
            have e4 : z1.look t.id = none := shp_none (by rw [rc, hz0]; rfl)
            rw [e3, e4]
            unfold agr
            split
            · rfl
            · exact ⟨rfl, rfl⟩
      have hcl2 : Win z1 s1.next s2.next := by
        intro id x y
        obtain ⟨ra, rb⟩ := r1 id
        exact shp_none (by rw [(rb (free1 id x y)).1, hzc id (by omega) y]; rfl)
      obtain ⟨z2, f2, m2, g2, r2⟩ := l2 z1 m1 hag2 hcl2
      refine ⟨z2, ?_, m2, by rw [g2, g1, List.append_assoc], ?_⟩
      · dsimp only
        rw [f1]
        exact f2
      · intro id
        obtain ⟨ra, rb⟩ := r1 id
        obtain ⟨rc, rd⟩ := r2 id
        constructor
        · intro hw
          rw [allW_append] at hw
          by_cases hw2 : allW L2 id
          · exact rc hw2
          · have hw1 : allW L1 id := hw.resolve_left hw2
            obtain ⟨q1, q2⟩ := u2 id hw2
            obtain ⟨s1', s2'⟩ := rd hw2
            apply obj_ext
            · rw [s1', ra hw1, q1]
            · intro k
              by_cases hk : celW L2 id k
              · exact (s2' k).1 hk
              · rw [(s2' k).2 hk, ra hw1, q2 k hk]
        · intro hw
          rw [allW_append, not_or] at hw
          obtain ⟨t1, t2⟩ := rb hw.2
          obtain ⟨t3, t4⟩ := rd hw.1
          obtain ⟨q1, q2⟩ := u2 id hw.1
          refine ⟨t3.trans t1, fun k => ⟨fun hk => ?_, fun hk => ?_⟩⟩
          · rw [celW_append] at hk
            by_cases hk2 : celW L2 id k
            · exact (t4 k).1 hk2
            · have hk1 := hk.resolve_left hk2
              rw [(t4 k).2 hk2, (t2 k).1 hk1, q2 k hk2]
          · rw [celW_append, not_or] at hk
            rw [(t4 k).2 hk.1, (t2 k).2 hk.2]
  · cases h

theorem Local.congr {α : Type} {f g : St → Option (α × St)} (h : ∀ s, g s = f s) (hf : Local f) : Local g := by
  have : g = f := funext h
  rw [this]
  exact hf
theorem Local.none {α : Type} : Local (fun _ => (Option.none : Option (α × St))) := by
  intro s r s1 h
  cases h

theorem look_touch (s : St) (id : Nat) (a : Option Nat) (w : Bool) (j : Nat) : (s.touch id a w).look j = s.look j := rfl

theorem Local.read {α : Type} (id : Nat) (at_ : Option Nat) (q : Option Obj → Option α) (hq : ∀ x y, agr ⟨id, at_, false⟩ x y → q y = q x) (hn : q Option.none = Option.none) :
    Local (fun s => match q (s.look id) with | some a => some (a, s.touch id at_ false) | Option.none => Option.none) := by
  intro s r s1 h
  dsimp only at h
  split at h
  · rename_i a hqa
    cases h
    refine ⟨Nat.le_refl _, fun hcl => ⟨[⟨id, at_, false⟩], rfl, fun j _ => ⟨rfl, fun k _ => rfl⟩, ?_, ?_⟩⟩
    · intro t ht _
      rw [List.mem_singleton] at ht
      subst ht
      exact fun hno => by have hno : s.look id = Option.none := hno; rw [hno, hn] at hqa; cases hqa
    · intro z hz hag hzc
      have h0 := hag ⟨id, at_, false⟩ (List.mem_singleton.2 rfl) (fun ⟨x, y⟩ => Nat.lt_irrefl _ (Nat.lt_of_le_of_lt x y))
      refine ⟨z.touch id at_ false, ?_, hz, rfl, ?_⟩
      · dsimp only
        rw [hq _ _ h0, hqa]
      · intro j
        have nw : ¬ allW [⟨id, at_, false⟩] j := fun ⟨t, ht, _, hw, _⟩ => by rw [List.mem_singleton] at ht; subst ht; cases hw
        exact ⟨fun h => (nw h).elim, fun _ => ⟨rfl, fun k => ⟨(fun ⟨t, ht, _, hw, _⟩ => by rw [List.mem_singleton] at ht; subst ht; cases hw), fun _ => rfl⟩⟩⟩
  · cases h

/-- A write of one cell. -/
theorem Local.cell (id k : Nat) (v : Value) (hlim : id < lim) : Local (fun s => match s.look id with
    | some (.cells c e (0, 0)) => if k < c.size then some ((), (s.put id (some (.cells (c.setIfInBounds k v) e (0, 0)))).touch id (some k) true) else Option.none
    | _ => Option.none) := by
  intro s r s1 h
  dsimp only at h
  split at h
  · rename_i c e hl
    split at h
    · rename_i hk
      cases h
      have lk : ∀ j, ((s.put id (some (.cells (c.setIfInBounds k v) e (0, 0)))).touch id (some k) true).look j = if j = id then some (.cells (c.setIfInBounds k v) e (0, 0)) else s.look j := by
        intro j
        by_cases ej : j = id
        · subst ej; rw [if_pos rfl]; exact St.look_put_same _ _ _ hlim
        · rw [if_neg ej]; exact St.look_put_other _ _ _ _ ej
      have nall : ∀ j, ¬ allW [⟨id, some k, true⟩] j := fun j ⟨t, ht, _, _, hn⟩ => by rw [List.mem_singleton] at ht; subst ht; cases hn
      refine ⟨Nat.le_refl _, fun hcl => ⟨[⟨id, some k, true⟩], rfl, ?_, ?_, ?_⟩⟩
      · intro j _
        rw [lk j]
        by_cases ej : j = id
        · subst ej
          rw [if_pos rfl, hl]
          refine ⟨by simp [shp], fun m hm => ?_⟩
          have hne : k ≠ m := fun e => hm ⟨_, List.mem_singleton.2 rfl, rfl, rfl, by rw [e]⟩
          simp only [cel]
          rw [Array.getElem?_setIfInBounds, if_neg hne]
        · rw [if_neg ej]; exact ⟨rfl, fun _ _ => rfl⟩
      · intro t ht _
        rw [List.mem_singleton] at ht
        subst ht
        exact fun hno => by have hno : s.look id = Option.none := hno; rw [hno] at hl; cases hl
      · intro z hz hag hzc
        have h0 := hag ⟨id, some k, true⟩ (List.mem_singleton.2 rfl) (fun ⟨x, y⟩ => Nat.lt_irrefl _ (Nat.lt_of_le_of_lt x y))
        obtain ⟨h1, h2⟩ := h0
        rw [hl] at h1
        have hz2 : ∃ c2 : Array Value, z.look id = some (.cells c2 e (0, 0)) ∧ c2.size = c.size := by
          cases hzl : z.look id with
          | none => rw [hzl] at h1; cases h1
          | some o =>
            rw [hzl] at h1
            cases o <;> simp only [shp, Shp.cells.injEq, reduceCtorEq] at h1
            obtain ⟨rfl, h3, rfl⟩ := h1
            exact ⟨_, rfl, h3.symm⟩
        obtain ⟨c2, hzl, hsz⟩ := hz2
        have lz : ∀ j, ((z.put id (some (.cells (c2.setIfInBounds k v) e (0, 0)))).touch id (some k) true).look j = if j = id then some (.cells (c2.setIfInBounds k v) e (0, 0)) else z.look j := by
          intro j
          by_cases ej : j = id
          · subst ej; rw [if_pos rfl]; exact St.look_put_same _ _ _ hlim
          · rw [if_neg ej]; exact St.look_put_other _ _ _ _ ej
        refine ⟨(z.put id (some (.cells (c2.setIfInBounds k v) e (0, 0)))).touch id (some k) true, ?_, hz, rfl, ?_⟩
        · dsimp only
          rw [hzl]
          show (if k < c2.size then _ else _) = _
          rw [if_pos (by omega)]
        · intro j
          refine ⟨fun h => (nall j h).elim, fun _ => ?_⟩
          rw [lz j, lk j]
          by_cases ej : j = id
          · subst ej
            rw [if_pos rfl, if_pos rfl, hzl]
            refine ⟨by simp [shp], fun m => ⟨fun hm => ?_, fun hm => ?_⟩⟩
            · obtain ⟨t, ht, _, _, hn⟩ := hm
              rw [List.mem_singleton] at ht
              subst ht
              cases hn
              simp only [cel]
              rw [Array.getElem?_setIfInBounds, Array.getElem?_setIfInBounds, if_pos rfl, if_pos rfl, if_pos (by omega), if_pos hk]
            · have hne : k ≠ m := fun e => hm ⟨_, List.mem_singleton.2 rfl, rfl, rfl, by rw [e]⟩
              simp only [cel]
              rw [Array.getElem?_setIfInBounds, if_neg hne]
          · rw [if_neg ej, if_neg ej]
            refine ⟨rfl, fun m => ⟨fun ⟨t, ht, hid2, _⟩ => ?_, fun _ => rfl⟩⟩
            rw [List.mem_singleton] at ht
            subst ht
            exact (ej hid2.symm).elim
    · cases h
  · cases h

/-- All of a block is looked at and written. -/
theorem Local.whole {α : Type} (id : Nat) (q : Option Obj → Option (α × Option Obj)) (hlim : id < lim) (hn : q Option.none = Option.none) :
    Local (fun s => match q (s.look id) with | some (a, o) => some (a, (s.put id o).touch id Option.none true) | Option.none => Option.none) := by
  intro s r s1 h
  dsimp only at h
  split at h
  · rename_i a o hqa
    cases h
    have lk : ∀ (z : St) j, ((z.put id o).touch id Option.none true).look j = if j = id then o else z.look j := by
      intro z j
      by_cases ej : j = id
      · subst ej; rw [if_pos rfl]; exact St.look_put_same _ _ _ hlim
      · rw [if_neg ej]; exact St.look_put_other _ _ _ _ ej
    have ncel : ∀ j k, ¬ celW [⟨id, Option.none, true⟩] j k := fun j k ⟨t, ht, _, _, hn⟩ => by rw [List.mem_singleton] at ht; subst ht; cases hn
    have nall : ∀ j, j ≠ id → ¬ allW [⟨id, Option.none, true⟩] j := fun j hj ⟨t, ht, hid2, _⟩ => by rw [List.mem_singleton] at ht; subst ht; exact hj hid2.symm
    refine ⟨Nat.le_refl _, fun hcl => ⟨[⟨id, Option.none, true⟩], rfl, ?_, ?_, ?_⟩⟩
    · intro j hj
      have ej : j ≠ id := fun e => hj ⟨_, List.mem_singleton.2 rfl, e.symm, rfl, rfl⟩
      rw [lk s j, if_neg ej]
      exact ⟨rfl, fun _ _ => rfl⟩
    · intro t ht _
      rw [List.mem_singleton] at ht
      subst ht
      exact fun hno => by have hno : s.look id = Option.none := hno; rw [hno, hn] at hqa; cases hqa
    · intro z hz hag hzc
      have h0 : s.look id = z.look id := hag ⟨id, Option.none, true⟩ (List.mem_singleton.2 rfl) (fun ⟨x, y⟩ => Nat.lt_irrefl _ (Nat.lt_of_le_of_lt x y))
      refine ⟨(z.put id o).touch id Option.none true, ?_, hz, rfl, ?_⟩
      · dsimp only
        rw [← h0, hqa]
      · intro j
        rw [lk z j, lk s j]
        by_cases ej : j = id
        · subst ej
          rw [if_pos rfl, if_pos rfl]
          exact ⟨fun _ => rfl, fun hw => (hw ⟨_, List.mem_singleton.2 rfl, rfl, rfl, rfl⟩).elim⟩
        · rw [if_neg ej, if_neg ej]
          exact ⟨fun hw => (nall j ej hw).elim, fun _ => ⟨rfl, fun k => ⟨fun hk => (ncel j k hk).elim, fun _ => rfl⟩⟩⟩
  · cases h

/-- A new block, by a name of its own. -/
theorem Local.new (d : Nat) (hd : d < 4) (o : Obj) : Local (fun s => if 4 * s.next + d < lim then some (4 * s.next + d, { (s.put (4 * s.next + d) (some o)).touch (4 * s.next + d) Option.none true with next := s.next + 1 }) else Option.none) := by
  intro s r s1 h
  dsimp only at h
  split at h
  · rename_i hlim
    cases h
    have lk : ∀ (z : St) (n : Nat) j, (({ (z.put (4 * s.next + d) (some o)).touch (4 * s.next + d) Option.none true with next := n } : St)).look j = if j = 4 * s.next + d then some o else z.look j := by
      intro z n j
      by_cases ej : j = 4 * s.next + d
      · rw [if_pos ej, ej]; exact St.look_put_same _ _ _ hlim
      · rw [if_neg ej]; exact St.look_put_other _ _ _ _ ej
    have ncel : ∀ j k, ¬ celW [⟨4 * s.next + d, Option.none, true⟩] j k := fun j k ⟨t, ht, _, _, hn⟩ => by rw [List.mem_singleton] at ht; subst ht; cases hn
    have nall : ∀ j, j ≠ 4 * s.next + d → ¬ allW [⟨4 * s.next + d, Option.none, true⟩] j := fun j hj ⟨t, ht, hid2, _⟩ => by rw [List.mem_singleton] at ht; subst ht; exact hj hid2.symm
    refine ⟨Nat.le_succ _, fun hcl => ⟨[⟨4 * s.next + d, Option.none, true⟩], rfl, ?_, ?_, ?_⟩⟩
    · intro j hj
      have ej : j ≠ 4 * s.next + d := fun e => hj ⟨_, List.mem_singleton.2 rfl, e.symm, rfl, rfl⟩
      rw [lk s _ j, if_neg ej]
      exact ⟨rfl, fun _ _ => rfl⟩
    · intro t ht hold
      rw [List.mem_singleton] at ht
      subst ht
      exact absurd (show 4 * s.next ≤ 4 * s.next + d ∧ 4 * s.next + d < 4 * (s.next + 1) by omega) hold
    · intro z hz hag hzc
      refine ⟨{ (z.put (4 * s.next + d) (some o)).touch (4 * s.next + d) Option.none true with next := s.next + 1 }, ?_, rfl, rfl, ?_⟩
      · dsimp only
        rw [hz, if_pos hlim]
      · intro j
        rw [lk z _ j, lk s _ j]
        by_cases ej : j = 4 * s.next + d
        · rw [if_pos ej, if_pos ej]
          exact ⟨fun _ => rfl, fun hw => (hw ⟨_, List.mem_singleton.2 rfl, ej.symm, rfl, rfl⟩).elim⟩
        · rw [if_neg ej, if_neg ej]
          exact ⟨fun hw => (nall j ej hw).elim, fun _ => ⟨rfl, fun k => ⟨fun hk => (ncel j k hk).elim, fun _ => rfl⟩⟩⟩
  · cases h
end Go.Ev
