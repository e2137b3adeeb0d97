/- The fast evaluator, part two: its pieces are what they should be. -/
import Derived.Test.YtjcibnfaijdgnaaFvA
namespace Go.Ev
open Go.RowKit
set_option linter.unusedVariables false
set_option linter.unusedSimpArgs false
set_option linter.unusedSectionVars false
variable [Sig]

theorem brec {α : Sort _} (b : Bool) (x y : α) : @Bool.rec (fun _ => α) x y b = if b = true then y else x := by cases b <;> rfl
theorem nbeq (a b : Nat) : (Nat.beq a b = true) = (a = b) := by
  simp

/-! ### Temporaries -/
theorem TV.get_node (v : Value) (l r : TV) (n : Nat) : (TV.node v l r).get n = if n = 0 then v else if n % 2 = 1 then l.get (n / 2) else r.get (n / 2 - 1) := by
  show @Bool.rec (fun _ => Value) (@Bool.rec (fun _ => Value) (r.get (Nat.sub (Nat.div n 2) 1)) (l.get (Nat.div n 2)) (Nat.beq (Nat.mod n 2) 1)) v (Nat.beq n 0) = _
  rw [brec, brec]
  simp only [nbeq]
  rfl
theorem TV.get_leaf (n : Nat) : TV.leaf.get n = undef := rfl

def TV.val : TV → Value
  | .leaf => undef
  | .node v _ _ => v
def TV.lef : TV → TV
  | .leaf => .leaf
  | .node _ l _ => l
def TV.rig : TV → TV
  | .leaf => .leaf
  | .node _ _ r => r
def TV.set : Nat → TV → Nat → Value → TV
  | 0, t, _, _ => t
  | d + 1, t, n, x => if n = 0 then .node x t.lef t.rig else if n % 2 = 1 then .node t.val (t.lef.set d (n / 2) x) t.rig else .node t.val t.lef (t.rig.set d (n / 2 - 1) x)
theorem TV.setK_eq {β : Type} : ∀ (d : Nat) (t : TV) (n : Nat) (x : Value) (k : TV → β), TV.setK d t n x k = k (TV.set d t n x) := by
  intro d
  induction d with
  | zero => intro t n x k; rfl
  | succ d ih =>
    intro t n x k
    cases t with
    | leaf =>
      show @Bool.rec (fun _ => β) (@Bool.rec (fun _ => β) (TV.setK d .leaf (Nat.sub (Nat.div n 2) 1) x (fun r => k (.node undef .leaf r))) (TV.setK d .leaf (Nat.div n 2) x (fun l => k (.node undef l .leaf))) (Nat.beq (Nat.mod n 2) 1)) (k (.node x .leaf .leaf)) (Nat.beq n 0) = _
      rw [brec, brec]
      simp only [nbeq, ih]
      by_cases h0 : n = 0
      · rw [if_pos h0]; subst h0; rfl
      · rw [if_neg h0]
        by_cases h1 : n.mod 2 = 1
        · have e : TV.set (d + 1) .leaf n x = .node undef (TV.set d .leaf (n / 2) x) .leaf := by
            show (if n = 0 then _ else if n % 2 = 1 then _ else _) = _
            rw [if_neg h0, if_pos (show n % 2 = 1 from h1)]
            rfl
          rw [if_pos h1, e]; rfl
        · have e : TV.set (d + 1) .leaf n x = .node undef .leaf (TV.set d .leaf (n / 2 - 1) x) := by
            show (if n = 0 then _ else if n % 2 = 1 then _ else _) = _
            rw [if_neg h0, if_neg (show ¬ n % 2 = 1 from h1)]
            rfl
          rw [if_neg h1, e]; rfl
    | node v l r =>
      show @Bool.rec (fun _ => β) (@Bool.rec (fun _ => β) (TV.setK d r (Nat.sub (Nat.div n 2) 1) x (fun r' => k (.node v l r'))) (TV.setK d l (Nat.div n 2) x (fun l' => k (.node v l' r))) (Nat.beq (Nat.mod n 2) 1)) (k (.node x l r)) (Nat.beq n 0) = _
      rw [brec, brec]
      simp only [nbeq, ih]
      by_cases h0 : n = 0
      · rw [if_pos h0]; subst h0; rfl
      · rw [if_neg h0]
        by_cases h1 : n.mod 2 = 1
        · have e : TV.set (d + 1) (.node v l r) n x = .node v (TV.set d l (n / 2) x) r := by
            show (if n = 0 then _ else if n % 2 = 1 then _ else _) = _
            rw [if_neg h0, if_pos (show n % 2 = 1 from h1)]
            rfl
          rw [if_pos h1, e]; rfl
        · have e : TV.set (d + 1) (.node v l r) n x = .node v l (TV.set d r (n / 2 - 1) x) := by
            show (if n = 0 then _ else if n % 2 = 1 then _ else _) = _
            rw [if_neg h0, if_neg (show ¬ n % 2 = 1 from h1)]
            rfl
          rw [if_neg h1, e]; rfl
theorem TV.get_eq (t : TV) (n : Nat) : t.get n = if n = 0 then t.val else if n % 2 = 1 then t.lef.get (n / 2) else t.rig.get (n / 2 - 1) := by
  cases t with
  | leaf => simp [TV.get_leaf, TV.val, TV.lef, TV.rig]
  | node v l r => exact TV.get_node v l r n
theorem TV.get_set (d : Nat) : ∀ (t : TV) (n m : Nat) (x : Value), n + 1 < 2 ^ d → (t.set d n x).get m = if m = n then x else t.get m := by
  induction d with
  | zero => intro t n m x h; simp at h
  | succ d ih =>
    intro t n m x h
    have hp : 2 ^ (d + 1) = 2 * 2 ^ d := by rw [Nat.pow_succ, Nat.mul_comm]
    unfold TV.set
    by_cases h0 : n = 0
    · subst h0
      rw [if_pos rfl, TV.get_node, TV.get_eq t]
      by_cases hm : m = 0
      · simp [hm]
      · simp [hm]
    · rw [if_neg h0]
      by_cases h1 : n % 2 = 1
      · rw [if_pos h1, TV.get_node, TV.get_eq t]
        by_cases hm : m = 0
        · subst hm
          rw [if_pos rfl, if_pos rfl, if_neg (fun e => h0 e.symm)]
        · rw [if_neg hm, if_neg hm]
          by_cases hm1 : m % 2 = 1
          · rw [if_pos hm1, if_pos hm1, ih _ _ _ _ (by omega)]
            by_cases e : m = n
            · rw [if_pos e, if_pos (by omega)]
            · rw [if_neg e, if_neg (by omega)]
          · rw [if_neg hm1, if_neg hm1, if_neg (by omega)]
      · rw [if_neg h1, TV.get_node, TV.get_eq t]
        by_cases hm : m = 0
        · subst hm
          rw [if_pos rfl, if_pos rfl, if_neg (fun e => h0 e.symm)]
        · rw [if_neg hm, if_neg hm]
          by_cases hm1 : m % 2 = 1
          · rw [if_pos hm1, if_pos hm1, if_neg (by omega)]
          · rw [if_neg hm1, if_neg hm1, ih _ _ _ _ (by omega)]
            by_cases e : m = n
            · rw [if_pos e, if_pos (by omega)]
            · rw [if_neg e, if_neg (by omega)]

/-! ### What is brought to its head stays what it is -/
theorem frcN_eq {β : Type} (n : Nat) (k : Nat → β) : frcN n k = k n := by cases n <;> rfl
theorem frcI_eq {β : Type} (n : Int) (k : Int → β) : frcI n k = k n := by
  cases n with
  | ofNat n => exact frcN_eq n (fun n => k (.ofNat n))
  | negSucc n => exact frcN_eq n (fun n => k (.negSucc n))
theorem frcA_eq {β : Type} (a : Option Addr) (k : Option Addr → β) : frcA a k = k a := by
  cases a with
  | none => rfl
  | some a =>
    obtain ⟨b, off, sp⟩ := a
    show frcN b (fun b => frcN off (fun off => k (some ⟨b, off, sp⟩))) = _
    rw [frcN_eq, frcN_eq]
theorem frcV_eq {β : Type} (v : Value) (k : Value → β) : frcV v k = k v := by
  cases v with
  | pointer a => exact frcA_eq a (fun a => k (.pointer a))
  | slice a n c =>
    show frcA a (fun a => frcN n (fun n => frcN c (fun c => k (.slice a n c)))) = _
    rw [frcA_eq, frcN_eq, frcN_eq]
  | _ => rfl
theorem frcL_eq {α β : Type} : ∀ (l : List α) (k : List α → β), frcL l k = k l := by
  intro l
  induction l with
  | nil => intro k; rfl
  | cons v l ih =>
    intro k
    show frcL l (fun l => k (v :: l)) = _
    rw [ih]

/-! ### Memory -/
theorem Tr.gt_eq : ∀ (d : Nat) (t : Tr) (n : Nat), Tr.gt d t n = Tr.get d t n := by
  intro d
  induction d with
  | zero => intro t n; rfl
  | succ d ih =>
    intro t n
    cases t with
    | leaf => rfl
    | node v l r =>
      show @Bool.rec (fun _ => Option Obj) (@Bool.rec (fun _ => Option Obj) (Tr.gt d r (Nat.div n 2)) (Tr.gt d l (Nat.div n 2)) (Nat.beq (Nat.mod n 2) 0)) v (Nat.beq n 0) = _
      rw [brec, brec]
      simp only [nbeq, ih]
      rfl
theorem Tr.stK_eq {β : Type} : ∀ (d : Nat) (t : Tr) (n : Nat) (x : Option Obj) (k : Tr → β), Tr.stK d t n x k = k (Tr.set d t n x) := by
  intro d
  induction d with
  | zero => intro t n x k; rfl
  | succ d ih =>
    intro t n x k
    cases t with
    | leaf =>
      show @Bool.rec (fun _ => β) (@Bool.rec (fun _ => β) (Tr.stK d .leaf (Nat.div n 2) x (fun r => k (.node none .leaf r))) (Tr.stK d .leaf (Nat.div n 2) x (fun l => k (.node none l .leaf))) (Nat.beq (Nat.mod n 2) 0)) (k (.node x .leaf .leaf)) (Nat.beq n 0) = _
      rw [brec, brec]
      simp only [nbeq, ih]
      by_cases h0 : n = 0
      · rw [if_pos h0]; subst h0; rfl
      · rw [if_neg h0]
        by_cases h1 : n.mod 2 = 0
        · have e : Tr.set (d + 1) .leaf n x = .node none (Tr.set d .leaf (n / 2) x) .leaf := by
            show (if n = 0 then _ else if n % 2 = 0 then _ else _) = _
            rw [if_neg h0, if_pos (show n % 2 = 0 from h1)]
            rfl
          rw [if_pos h1, e]; rfl
        · have e : Tr.set (d + 1) .leaf n x = .node none .leaf (Tr.set d .leaf (n / 2) x) := by
            show (if n = 0 then _ else if n % 2 = 0 then _ else _) = _
            rw [if_neg h0, if_neg (show ¬ n % 2 = 0 from h1)]
            rfl
          rw [if_neg h1, e]; rfl
    | node v l r =>
      show @Bool.rec (fun _ => β) (@Bool.rec (fun _ => β) (Tr.stK d r (Nat.div n 2) x (fun r' => k (.node v l r'))) (Tr.stK d l (Nat.div n 2) x (fun l' => k (.node v l' r))) (Nat.beq (Nat.mod n 2) 0)) (k (.node x l r)) (Nat.beq n 0) = _
      rw [brec, brec]
      simp only [nbeq, ih]
      by_cases h0 : n = 0
      · rw [if_pos h0]; subst h0; rfl
      · rw [if_neg h0]
        by_cases h1 : n.mod 2 = 0
        · have e : Tr.set (d + 1) (.node v l r) n x = .node v (Tr.set d l (n / 2) x) r := by
            show (if n = 0 then _ else if n % 2 = 0 then _ else _) = _
            rw [if_neg h0, if_pos (show n % 2 = 0 from h1)]
            rfl
          rw [if_pos h1, e]; rfl
        · have e : Tr.set (d + 1) (.node v l r) n x = .node v l (Tr.set d r (n / 2) x) := by
            show (if n = 0 then _ else if n % 2 = 0 then _ else _) = _
            rw [if_neg h0, if_neg (show ¬ n % 2 = 0 from h1)]
            rfl
          rw [if_neg h1, e]; rfl
theorem lget_eq : ∀ (l : List Value) (n : Nat), lget l n = l[n]? := by
  intro l
  induction l with
  | nil => intro n; rfl
  | cons v l ih =>
    intro n
    cases n with
    | zero => rfl
    | succ n => exact ih n
theorem lsetK_eq {β : Type} (x : Value) : ∀ (l : List Value) (n : Nat) (k : List Value → β), lsetK l x n k = k (l.set n x) := by
  intro l
  induction l with
  | nil => intro n k; rfl
  | cons v l ih =>
    intro n k
    cases n with
    | zero => rfl
    | succ n =>
      show lsetK l x n (fun l' => k (v :: l')) = _
      rw [ih]
      rfl

/-! ### Rows by digits -/
theorem Tri.get_node {α : Type} (v : Option α) (l r : Tri α) (n : Nat) : (Tri.node v l r).get n = if n = 0 then v else if n % 2 = 1 then l.get (n / 2) else r.get (n / 2 - 1) := by
  show @Bool.rec (fun _ => Option α) (@Bool.rec (fun _ => Option α) (r.get (Nat.sub (Nat.div n 2) 1)) (l.get (Nat.div n 2)) (Nat.beq (Nat.mod n 2) 1)) v (Nat.beq n 0) = _
  rw [brec, brec]
  simp only [nbeq]
  rfl
theorem Tri.setK_ok {α β : Type} : ∀ (d : Nat) (t : Tri α) (n : Nat) (x : α) (k : Tri α → β), ∃ t', Tri.setK d t n x k = k t' ∧ ∀ m y, t'.get m = some y → (m = n ∧ y = x) ∨ t.get m = some y := by
  intro d
  induction d with
  | zero => intro t n x k; exact ⟨t, rfl, fun m y h => .inr h⟩
  | succ d ih =>
    intro t n x k
    have key : ∀ (v : Option α) (l r : Tri α), (∀ m, t.get m = (Tri.node v l r).get m) →
        Tri.setK (d + 1) t n x k = @Bool.rec (fun _ => β) (@Bool.rec (fun _ => β) (Tri.setK d r (Nat.sub (Nat.div n 2) 1) x (fun r' => k (.node v l r'))) (Tri.setK d l (Nat.div n 2) x (fun l' => k (.node v l' r))) (Nat.beq (Nat.mod n 2) 1)) (k (.node (some x) l r)) (Nat.beq n 0) →
        ∃ t', Tri.setK (d + 1) t n x k = k t' ∧ ∀ m y, t'.get m = some y → (m = n ∧ y = x) ∨ t.get m = some y := by
      intro v l r hg he
      rw [he, brec, brec]
      simp only [nbeq]
      by_cases h0 : n = 0
      · rw [if_pos h0]
        refine ⟨_, rfl, fun m y hy => ?_⟩
        rw [Tri.get_node] at hy
        by_cases hm : m = 0
        · rw [if_pos hm] at hy
          cases hy
          exact .inl ⟨by omega, rfl⟩
        · rw [if_neg hm] at hy
          refine .inr ?_
          rw [hg, Tri.get_node, if_neg hm]
          exact hy
      · rw [if_neg h0]
        by_cases h1 : n.mod 2 = 1
        · rw [if_pos h1]
          obtain ⟨t', e, ht⟩ := ih l (n / 2) x (fun l' => k (.node v l' r))
          refine ⟨_, e, fun m y hy => ?_⟩
          rw [Tri.get_node] at hy
          rw [hg, Tri.get_node]
          have h1' : n % 2 = 1 := h1
          by_cases hm : m = 0
          · rw [if_pos hm] at hy ⊢
            exact .inr hy
          · rw [if_neg hm] at hy ⊢
            by_cases hm1 : m % 2 = 1
            · rw [if_pos hm1] at hy ⊢
              rcases ht _ _ hy with ⟨a, b⟩ | a
              · exact .inl ⟨by omega, b⟩
              · exact .inr a
            · rw [if_neg hm1] at hy ⊢
              exact .inr hy
        · rw [if_neg h1]
          obtain ⟨t', e, ht⟩ := ih r (n / 2 - 1) x (fun r' => k (.node v l r'))
          refine ⟨_, e, fun m y hy => ?_⟩
          rw [Tri.get_node] at hy
          rw [hg, Tri.get_node]
          have h1' : ¬ n % 2 = 1 := h1
          by_cases hm : m = 0
          · rw [if_pos hm] at hy ⊢
            exact .inr hy
          · rw [if_neg hm] at hy ⊢
            by_cases hm1 : m % 2 = 1
            · rw [if_pos hm1] at hy ⊢
              exact .inr hy
            · rw [if_neg hm1] at hy ⊢
              rcases ht _ _ hy with ⟨a, b⟩ | a
              · exact .inl ⟨by omega, b⟩
              · exact .inr a
    cases t with
    | leaf =>
      refine key none .leaf .leaf (fun m => ?_) rfl
      rw [Tri.get_node]
      by_cases hm : m = 0
      · rw [if_pos hm]; rfl
      · rw [if_neg hm]
        split <;> rfl
    | node v l r => exact key v l r (fun m => rfl) rfl
theorem Tri.ofK_ok {α β : Type} : ∀ (l : List α) (i : Nat) (t : Tri α) (k : Tri α → β), ∃ t', Tri.ofK l i t k = k t' ∧ ∀ m y, t'.get m = some y → (i ≤ m ∧ l[m - i]? = some y) ∨ t.get m = some y := by
  intro l
  induction l with
  | nil => intro i t k; exact ⟨t, rfl, fun m y h => .inr h⟩
  | cons v l ih =>
    intro i t k
    obtain ⟨t1, e1, h1⟩ := Tri.setK_ok 16 t i v (fun t1 => Tri.ofK l (i + 1) t1 k)
    obtain ⟨t2, e2, h2⟩ := ih (i + 1) t1 k
    refine ⟨t2, ?_, fun m y hy => ?_⟩
    · show Tri.setK 16 t i v (fun t1 => Tri.ofK l (Nat.succ i) t1 k) = _
      rw [e1]
      exact e2
    · rcases h2 m y hy with ⟨a, b⟩ | a
      · refine .inl ⟨by omega, ?_⟩
        rw [show m - i = (m - (i + 1)) + 1 by omega]
        exact b
      · rcases h1 m y a with ⟨b, c⟩ | b
        · subst b c
          exact .inl ⟨Nat.le_refl _, by simp⟩
        · exact .inr b

structure BOK (B : Base) : Prop where
  T : ∀ t i, B.T.get t = some i → B.P.info? t = some i
  F : ∀ f fn, B.F.get f = some fn → B.P.funcs[f]? = some fn

theorem info_of_types {P : Program} {t : TypeId} {i : TypeInfo} (h : P.types[t]? = some i) : P.info? t = some i := by
  have hlt : t < P.types.size := (Array.getElem?_eq_some_iff.1 h).1
  show (if t < P.types.size then P.types[t]? else Made.infoAt P.toTables Made.depth t) = _
  rw [if_pos hlt]
  exact h

theorem withB_ok {β : Type} (P : Program) (k : Base → β) : ∃ B, BOK B ∧ B.P = P ∧ withB P k = k B := by
  obtain ⟨⟨a1, a2, a3, a4, types, a6, a7, a8, a9, a10, a11⟩, funcs⟩ := P
  obtain ⟨T, e1, h1⟩ := Tri.ofK_ok types.toList 0 .leaf (fun T => Tri.ofK funcs.toList 0 .leaf (fun F => k ⟨⟨⟨a1, a2, a3, a4, ⟨types.toList⟩, a6, a7, a8, a9, a10, a11⟩, ⟨funcs.toList⟩⟩, T, F⟩))
  obtain ⟨F, e2, h2⟩ := Tri.ofK_ok funcs.toList 0 .leaf (fun F => k ⟨⟨⟨a1, a2, a3, a4, ⟨types.toList⟩, a6, a7, a8, a9, a10, a11⟩, ⟨funcs.toList⟩⟩, T, F⟩)
  refine ⟨⟨⟨⟨a1, a2, a3, a4, ⟨types.toList⟩, a6, a7, a8, a9, a10, a11⟩, ⟨funcs.toList⟩⟩, T, F⟩, ⟨fun t i h => ?_, fun f fn h => ?_⟩, rfl, ?_⟩
  · rcases h1 t i h with ⟨_, b⟩ | b
    · exact info_of_types (by simpa using b)
    · cases b
  · rcases h2 f fn h with ⟨_, b⟩ | b
    · simpa using b
    · cases b
  · show frcL types.toList (fun L => frcL funcs.toList (fun M => Tri.ofK L 0 .leaf (fun T => Tri.ofK M 0 .leaf (fun F => k ⟨⟨⟨a1, a2, a3, a4, ⟨L⟩, a6, a7, a8, a9, a10, a11⟩, ⟨M⟩⟩, T, F⟩)))) = _
    rw [frcL_eq, frcL_eq, e1]
    exact e2

/-! ### Numbers -/
theorem fwrap_eq (k : IntKind) (n : Int) : fwrap k n = k.wrap n := by
  have pos : ∀ (m : Nat), IntKind.i64.wrap (.ofNat m) = if Nat.ble m 9223372036854775807 = true then Int.ofNat m else IntKind.i64.wrap (.ofNat m) := by
    intro m
    split
    · rename_i h
      have h' : m ≤ 9223372036854775807 := Nat.le_of_ble_eq_true h
      have : (m : Int) ≤ 9223372036854775807 := by omega
      exact IntWalk.i64_in (Int.ofNat m) (by show (-9223372036854775808 : Int) ≤ (m : Int) ∧ (m : Int) ≤ 9223372036854775807; omega)
    · rfl
  have neg : ∀ (m : Nat), IntKind.i64.wrap (.negSucc m) = if Nat.ble m 9223372036854775807 = true then Int.negSucc m else IntKind.i64.wrap (.negSucc m) := by
    intro m
    split
    · rename_i h
      have h' : m ≤ 9223372036854775807 := Nat.le_of_ble_eq_true h
      have e : Int.negSucc m = -((m : Int) + 1) := by omega
      exact IntWalk.i64_in (Int.negSucc m) (by rw [e]; omega)
    · rfl
  have un : ∀ (m b : Nat), ((m : Int) % ((2 : Int) ^ b)) = ((m % 2 ^ b : Nat) : Int) := by
    intro m b
    rw [Int.natCast_emod]
    simp
  have uns : ∀ (k : IntKind) (m : Nat), k.signed = false → k.wrap (.ofNat m) = .ofNat (m % 2 ^ k.bits) := by
    intro k m hk
    unfold IntKind.wrap
    simp only [hk, Bool.false_and, Bool.false_eq_true, if_false]
    exact un m _
  cases n with
  | ofNat m =>
    cases k with
    | i64 =>
      show @Bool.rec (fun _ => Int) (IntKind.i64.wrap (.ofNat m)) (.ofNat m) (Nat.ble m 9223372036854775807) = _
      rw [brec]
      exact (pos m).symm
    | u64 => exact (uns .u64 m rfl).symm
    | u32 => exact (uns .u32 m rfl).symm
    | u8 => exact (uns .u8 m rfl).symm
    | i8 => rfl
    | i16 => rfl
    | i32 => rfl
    | u16 => rfl
  | negSucc m =>
    cases k with
    | i64 =>
      show @Bool.rec (fun _ => Int) (IntKind.i64.wrap (.negSucc m)) (.negSucc m) (Nat.ble m 9223372036854775807) = _
      rw [brec]
      exact (neg m).symm
    | u64 => rfl
    | u32 => rfl
    | u8 => rfl
    | i8 => rfl
    | i16 => rfl
    | i32 => rfl
    | u16 => rfl
theorem ible_eq (a b : Int) : ible a b = decide (a ≤ b) := by
  cases a <;> cases b <;> unfold ible <;> rename_i a b
  · rw [Bool.eq_iff_iff]; simp
  · symm; rw [decide_eq_false_iff_not]; show ¬ ((a : Int) ≤ _); omega
  · symm; rw [decide_eq_true_eq]; show _ ≤ (b : Int); omega
  · rw [Bool.eq_iff_iff]; simp; omega
theorem ibeq_eq (a b : Int) : ibeq a b = (a == b) := by
  cases a <;> cases b <;> unfold ibeq <;> rename_i a b <;> rw [Bool.eq_iff_iff] <;> simp <;> omega
theorem not_le_lt (a b : Int) : (!decide (b ≤ a)) = decide (a < b) := by
  rw [Bool.eq_iff_iff]; simp
theorem ikn_eq {k k' : IntKind} (h : Nat.beq (ikn k) (ikn k') = true) : k = k' := by
  cases k <;> cases k' <;> first | rfl | (simp [ikn] at h)
end Go.Ev
