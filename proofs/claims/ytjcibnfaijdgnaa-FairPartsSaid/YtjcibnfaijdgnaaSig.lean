/- Symbols: what is known of them, as rows. -/
import Derived.Test.YtjcibnfaijdgnaaFvD
namespace Go.Ev
open Go.RowKit
set_option linter.unusedVariables false
set_option linter.unusedSimpArgs false

noncomputable def ikq (a b : IntKind) : Bool := Nat.beq (ikn a) (ikn b)
def inq : Int → Int → Bool
  | .ofNat a, .ofNat b => Nat.beq a b
  | .negSucc a, .negSucc b => Nat.beq a b
  | _, _ => false
def bnn : BinOp → Nat
  | .add => 0 | .sub => 1 | .mul => 2 | .quo => 3 | .rem => 4 | .and => 5 | .or => 6 | .xor => 7 | .shl => 8 | .shr => 9 | .andNot => 10 | .eql => 11 | .neq => 12 | .lss => 13 | .leq => 14 | .gtr => 15 | .geq => 16
def unn : UnOp → Nat
  | .neg => 0 | .xor => 1 | .not => 2 | .plus => 3
/-- The same number, truth or symbol? -/
noncomputable def sameV : Value → Value → Bool
  | .int k n, .int k' n' => ikq k k' && inq n n'
  | .bool a, .bool b => match a, b with | true, true => true | false, false => true | _, _ => false
  | .complex .f64 n 0, .complex .f64 n' 0 => Nat.beq n n'
  | _, _ => false
noncomputable def sameL : List Value → List Value → Bool
  | [], [] => true
  | x :: l, y :: m => sameV x y && sameL l m
  | _, _ => false
/-- .. or a struct of such. -/
noncomputable def sameD : Value → Value → Bool
  | .agg ⟨l⟩, .agg ⟨m⟩ => sameL l m
  | x, y => sameV x y
noncomputable def sameA : List Value → List Value → Bool
  | [], [] => true
  | x :: l, y :: m => sameD x y && sameA l m
  | _, _ => false

theorem sameV_eq {x y : Value} (h : sameV x y = true) : x = y ∧ symV x = true := by
  unfold sameV at h
  split at h
  · rename_i k n k' n'
    rw [Bool.and_eq_true] at h
    have hk := @ikn_eq noSig _ _ h.1
    have hn : n = n' := by
      have h2 := h.2
      unfold inq at h2
      split at h2
      · rw [Nat.eq_of_beq_eq_true h2]
      · rw [Nat.eq_of_beq_eq_true h2]
      · cases h2
    rw [hk, hn]
    exact ⟨rfl, rfl⟩
  · rename_i a b
    cases a <;> cases b <;> first | exact ⟨rfl, rfl⟩ | cases h
  · rename_i n n'
    rw [Nat.eq_of_beq_eq_true h]
    exact ⟨rfl, rfl⟩
  · cases h
theorem sameL_eq : ∀ {l m : List Value}, sameL l m = true → l = m ∧ l.all symV = true := by
  intro l
  induction l with
  | nil =>
    intro m h
    cases m with
    | nil => exact ⟨rfl, rfl⟩
    | cons y m => cases h
  | cons x l ih =>
    intro m h
    cases m with
    | nil => cases h
    | cons y m =>
      have h' : (sameV x y && sameL l m) = true := h
      rw [Bool.and_eq_true] at h'
      obtain ⟨h1, h2⟩ := sameV_eq h'.1
      obtain ⟨h3, h4⟩ := ih h'.2
      rw [h1, h3]
      refine ⟨rfl, ?_⟩
      rw [← h1, ← h3]
      simp [h2, h4]
/-- What a value stands for, structs too. -/
def cvD (val : Nat → Value) : Value → Value
  | .agg cs => .agg (cs.toList.map (cvV val)).toArray
  | v => cvV val v
def symD : Value → Bool
  | .agg cs => cs.toList.all symV
  | v => symV v
theorem sameD_eq {x y : Value} (h : sameD x y = true) : x = y ∧ symD x = true := by
  unfold sameD at h
  split at h
  · rename_i l m
    obtain ⟨h1, h2⟩ := sameL_eq h
    subst h1
    exact ⟨rfl, h2⟩
  · rename_i hne
    obtain ⟨h1, h2⟩ := sameV_eq h
    refine ⟨h1, ?_⟩
    cases x <;> first | exact h2 | cases h2
theorem sameA_eq : ∀ {l m : List Value}, sameA l m = true → l = m ∧ ∀ x ∈ l, symD x = true := by
  intro l
  induction l with
  | nil =>
    intro m h
    cases m with
    | nil => exact ⟨rfl, fun x hx => by cases hx⟩
    | cons y m => cases h
  | cons x l ih =>
    intro m h
    cases m with
    | nil => cases h
    | cons y m =>
      have h' : (sameD x y && sameA l m) = true := h
      rw [Bool.and_eq_true] at h'
      obtain ⟨h1, h2⟩ := sameD_eq h'.1
      obtain ⟨h3, h4⟩ := ih h'.2
      subst h1 h3
      refine ⟨rfl, fun z hz => ?_⟩
      rcases List.mem_cons.1 hz with e | e
      · rw [e]; exact h2
      · exact h4 z e

abbrev BFact := BinOp × Value × Value × Value
abbrev UFact := UnOp × Value × Value
abbrev CFact := IntKind × Value × Value
abbrev KFact := FuncId × List Value × Value
noncomputable def findB (op : BinOp) (x y : Value) : List BFact → Option Value
  | [] => none
  | (o, a, b, r) :: l => if Nat.beq (bnn op) (bnn o) && (sameV x a && (sameV y b && symV r)) then some r else findB op x y l
noncomputable def findU (op : UnOp) (x : Value) : List UFact → Option Value
  | [] => none
  | (o, a, r) :: l => if Nat.beq (unn op) (unn o) && (sameV x a && symV r) then some r else findU op x l
noncomputable def findC (k : IntKind) (x : Value) : List CFact → Option Value
  | [] => none
  | (o, a, r) :: l => if ikq k o && (sameV x a && symV r) then some r else findC k x l
noncomputable def findK (f : FuncId) (l : List Value) : List KFact → Option Value
  | [] => none
  | (g, m, r) :: ks => if Nat.beq f g && (sameA l m && symV r) then some r else findK f l ks

theorem bnn_eq {a b : BinOp} (h : Nat.beq (bnn a) (bnn b) = true) : a = b := by
  cases a <;> cases b <;> first | rfl | (simp [bnn] at h)
theorem unn_eq {a b : UnOp} (h : Nat.beq (unn a) (unn b) = true) : a = b := by
  cases a <;> cases b <;> first | rfl | (simp [unn] at h)

theorem findB_ok {op : BinOp} {x y r : Value} : ∀ {l : List BFact}, findB op x y l = some r → (op, x, y, r) ∈ l ∧ symV x = true ∧ symV y = true ∧ symV r = true := by
  intro l
  induction l with
  | nil => intro h; cases h
  | cons q l ih =>
    intro h
    obtain ⟨o, a, b, z⟩ := q
    simp only [findB] at h
    split at h
    · rename_i hc
      simp only [Bool.and_eq_true] at hc
      cases h
      obtain ⟨h1, h2⟩ := sameV_eq hc.2.1
      obtain ⟨h3, h4⟩ := sameV_eq hc.2.2.1
      rw [bnn_eq hc.1, ← h1, ← h3]
      exact ⟨List.mem_cons_self .., h2, h4, hc.2.2.2⟩
    · obtain ⟨h1, h2⟩ := ih h
      exact ⟨List.mem_cons_of_mem _ h1, h2⟩
theorem findU_ok {op : UnOp} {x r : Value} : ∀ {l : List UFact}, findU op x l = some r → (op, x, r) ∈ l ∧ symV x = true ∧ symV r = true := by
  intro l
  induction l with
  | nil => intro h; cases h
  | cons q l ih =>
    intro h
    obtain ⟨o, a, z⟩ := q
    simp only [findU] at h
    split at h
    · rename_i hc
      simp only [Bool.and_eq_true] at hc
      cases h
      obtain ⟨h1, h2⟩ := sameV_eq hc.2.1
      rw [unn_eq hc.1, ← h1]
      exact ⟨List.mem_cons_self .., h2, hc.2.2⟩
    · obtain ⟨h1, h2⟩ := ih h
      exact ⟨List.mem_cons_of_mem _ h1, h2⟩
theorem findC_ok {k : IntKind} {x r : Value} : ∀ {l : List CFact}, findC k x l = some r → (k, x, r) ∈ l ∧ symV x = true ∧ symV r = true := by
  intro l
  induction l with
  | nil => intro h; cases h
  | cons q l ih =>
    intro h
    obtain ⟨o, a, z⟩ := q
    simp only [findC] at h
    split at h
    · rename_i hc
      simp only [Bool.and_eq_true] at hc
      cases h
      obtain ⟨h1, h2⟩ := sameV_eq hc.2.1
      rw [@ikn_eq noSig _ _ hc.1, ← h1]
      exact ⟨List.mem_cons_self .., h2, hc.2.2⟩
    · obtain ⟨h1, h2⟩ := ih h
      exact ⟨List.mem_cons_of_mem _ h1, h2⟩
theorem findK_ok {f : FuncId} {args : List Value} {r : Value} : ∀ {l : List KFact}, findK f args l = some r → (f, args, r) ∈ l ∧ (∀ x ∈ args, symD x = true) ∧ symV r = true := by
  intro l
  induction l with
  | nil => intro h; cases h
  | cons q l ih =>
    intro h
    obtain ⟨o, a, z⟩ := q
    simp only [findK] at h
    split at h
    · rename_i hc
      simp only [Bool.and_eq_true] at hc
      cases h
      obtain ⟨h1, h2⟩ := sameA_eq hc.2.1
      rw [Nat.eq_of_beq_eq_true hc.1, ← h1]
      exact ⟨List.mem_cons_self .., h2, hc.2.2⟩
    · obtain ⟨h1, h2⟩ := ih h
      exact ⟨List.mem_cons_of_mem _ h1, h2⟩

/-- What a row of each kind must say. -/
def BTrue (val : Nat → Value) (q : BFact) : Prop := ∀ t ox oy, (do eqGuard q.1 t ox oy (cvV val q.2.1) (cvV val q.2.2.1); binOp q.1 t (cvV val q.2.1) (cvV val q.2.2.1) : Sem Value) = pure (cvV val q.2.2.2)
def UTrue (val : Nat → Value) (q : UFact) : Prop := Op.unary q.1 (cvV val q.2.1) = pure (cvV val q.2.2)
def CTrue (val : Nat → Value) (q : CFact) : Prop := ∃ k0 n, cvV val q.2.1 = .int k0 n ∧ cvV val q.2.2 = .int q.1 (q.1.wrap n)
def KTrue (P : Program) (val : Nat → Value) (q : KFact) : Prop := ∀ w, Calls P q.1 (q.2.1.map (cvD val)).toArray w fun e w' => e = .returned (cvV val q.2.2) ∧ Below w.heap.size w w'

@[reducible] noncomputable def mkSig (val : Nat → Value) (leaf : ∀ n, leafV (val n) = true) (bs : List BFact) (us : List UFact) (cs : List CFact) (ks : List KFact) (hb : ∀ q ∈ bs, BTrue val q) (hu : ∀ q ∈ us, UTrue val q) (hc : ∀ q ∈ cs, CTrue val q) : Sig where
  val := val
  leaf := leaf
  bin := fun op x y => findB op x y bs
  bin_ok := fun op x y r h => by
    obtain ⟨h1, h2, h3, h4⟩ := findB_ok h
    exact ⟨h2, h3, h4, hb _ h1⟩
  una := fun op x => findU op x us
  una_ok := fun op x r h => by
    obtain ⟨h1, h2, h3⟩ := findU_ok h
    exact ⟨h2, h3, hu _ h1⟩
  cnv := fun k x => findC k x cs
  cnv_ok := fun k x r h => by
    obtain ⟨h1, h2, h3⟩ := findC_ok h
    exact ⟨h2, h3, hc _ h1⟩
  cal := fun f l => findK f l ks
  cal_sym := fun f l r h => (findK_ok h).2.2
  GR := fun _ _ _ _ => False
  GR_keep := fun _ _ _ _ _ _ h => h
  GR_mono := fun _ _ _ _ _ _ h => h
  gop := fun _ _ => none
  gcal := fun _ _ => none

theorem symD_eq [Sig] {ι : Ren} {x x' : Value} (h : VRel ι x x') (hs : symD x = true) : x' = cvD Sig.val x := by
  cases h with
  | agg f f' hf hr =>
    have hs' : ∀ y ∈ f.toList, symV y = true := by
      have : f.toList.all symV = true := hs
      rwa [List.all_eq_true] at this
    show Value.agg f' = .agg (f.toList.map (cvV Sig.val)).toArray
    congr 1
    apply Array.ext (by simp [hf])
    intro i h1 h2
    have h3 : i < f.size := by rw [hf]; exact h1
    have := sym_eq (hr i _ _ (Array.getElem?_eq_getElem h3) (Array.getElem?_eq_getElem h1)) (hs' _ (by rw [Array.mem_toList_iff]; exact Array.getElem_mem h3))
    rw [this]
    simp
  | sym n m _ hh => exact hh.symm
  | _ => first | rfl | cases hs

theorem symD_rel [Sig] {ι : Ren} {x : Value} (hs : symD x = true) : VRel ι x (cvD Sig.val x) := by
  cases x with
  | agg cs =>
    have hs' : ∀ y ∈ cs.toList, symV y = true := by
      have : cs.toList.all symV = true := hs
      rwa [List.all_eq_true] at this
    refine .agg _ _ (by simp) (fun i v v' h1 h2 => ?_)
    have h3 : v' = cvV Sig.val v := by
      rw [List.getElem?_toArray, List.getElem?_map, Array.getElem?_toList, h1] at h2
      cases h2
      rfl
    rw [h3]
    exact sym_rel (hs' v (by rw [Array.mem_toList_iff]; exact Array.mem_of_getElem? h1))
  | _ => exact sym_rel hs
theorem symArgs [Sig] {ι : Ren} {args : Array Value} (h : args.toList.all symD = true) : ARel ι args (args.toList.map (cvD Sig.val)).toArray := by
  rw [List.all_eq_true] at h
  refine ⟨by simp, fun i v v' h1 h2 => ?_⟩
  have h3 : v' = cvD Sig.val v := by
    rw [List.getElem?_toArray, List.getElem?_map, Array.getElem?_toList, h1] at h2
    cases h2
    rfl
  rw [h3]
  exact symD_rel (h v (by rw [Array.mem_toList_iff]; exact Array.mem_of_getElem? h1))

theorem mkSig_cal {P : Program} {val : Nat → Value} {leaf : ∀ n, leafV (val n) = true} {bs : List BFact} {us : List UFact} {cs : List CFact} {ks : List KFact} {hb : ∀ q ∈ bs, BTrue val q} {hu : ∀ q ∈ us, UTrue val q} {hc : ∀ q ∈ cs, CTrue val q} (hk : ∀ q ∈ ks, KTrue P val q) :
    @CalOK (mkSig val leaf bs us cs ks hb hu hc) P := by
  letI : Sig := mkSig val leaf bs us cs ks hb hu hc
  refine ⟨?_, (fun _ _ _ h => by cases h), (fun _ _ _ h => by cases h)⟩
  intro f args r h ι args' w ha
  obtain ⟨h1, h2, h3⟩ := findK_ok h
  have he : args' = (args.toList.map (cvD val)).toArray := by
    apply Array.ext (by simp [ha.1])
    intro i g1 g2
    have g3 : i < args.size := by rw [ha.1]; exact g1
    have := symD_eq (ha.2 i _ _ (Array.getElem?_eq_getElem g3) (Array.getElem?_eq_getElem g1)) (h2 _ (by rw [Array.mem_toList_iff]; exact Array.getElem_mem g3))
    rw [this]
    simp
    rfl
  rw [he]
  refine (hk _ h1 w).mono ?_
  rintro e w' ⟨rfl, hb'⟩
  exact ⟨_, rfl, sym_rel h3, hb'⟩

/-! ### Rows of numbers -/
theorem guard_int (op : BinOp) (t : TypeId) (ox oy : Operand) (k k' : IntKind) (x y : Int) : eqGuard op t ox oy (.int k x) (.int k' y) = pure () := by
  unfold eqGuard
  split <;> rfl
theorem bt_cmp {op : BinOp} {t : TypeId} {ox oy : Operand} {k : IntKind} {x y : Int} {b : Bool} (h : Op.intCmp op x y = pure (.bool b)) (ho : op = .eql ∨ op = .neq ∨ op = .lss ∨ op = .leq ∨ op = .gtr ∨ op = .geq) : (do eqGuard op t ox oy (.int k x) (.int k y); binOp op t (.int k x) (.int k y) : Sem Value) = pure (.bool b) := by
  rw [guard_int]
  show binOp op t (.int k x) (.int k y) = _
  rcases ho with rfl | rfl | rfl | rfl | rfl | rfl <;> simp [binOp, h]
theorem bt_geq {t : TypeId} {ox oy : Operand} {k : IntKind} {x y : Int} {b : Bool} (h : decide (x ≥ y) = b) : (do eqGuard .geq t ox oy (.int k x) (.int k y); binOp .geq t (.int k x) (.int k y) : Sem Value) = pure (.bool b) := bt_cmp (by unfold Op.intCmp; rw [h]) (by simp)
theorem bt_leq {t : TypeId} {ox oy : Operand} {k : IntKind} {x y : Int} {b : Bool} (h : decide (x ≤ y) = b) : (do eqGuard .leq t ox oy (.int k x) (.int k y); binOp .leq t (.int k x) (.int k y) : Sem Value) = pure (.bool b) := bt_cmp (by unfold Op.intCmp; rw [h]) (by simp)
theorem bt_lss {t : TypeId} {ox oy : Operand} {k : IntKind} {x y : Int} {b : Bool} (h : decide (x < y) = b) : (do eqGuard .lss t ox oy (.int k x) (.int k y); binOp .lss t (.int k x) (.int k y) : Sem Value) = pure (.bool b) := bt_cmp (by unfold Op.intCmp; rw [h]) (by simp)
theorem bt_gtr {t : TypeId} {ox oy : Operand} {k : IntKind} {x y : Int} {b : Bool} (h : decide (x > y) = b) : (do eqGuard .gtr t ox oy (.int k x) (.int k y); binOp .gtr t (.int k x) (.int k y) : Sem Value) = pure (.bool b) := bt_cmp (by unfold Op.intCmp; rw [h]) (by simp)
theorem bt_eql {t : TypeId} {ox oy : Operand} {k : IntKind} {x y : Int} {b : Bool} (h : decide (x = y) = b) : (do eqGuard .eql t ox oy (.int k x) (.int k y); binOp .eql t (.int k x) (.int k y) : Sem Value) = pure (.bool b) := bt_cmp (by unfold Op.intCmp; rw [← h]; rfl) (by simp)
theorem bt_neq {t : TypeId} {ox oy : Operand} {k : IntKind} {x y : Int} {b : Bool} (h : decide (x ≠ y) = b) : (do eqGuard .neq t ox oy (.int k x) (.int k y); binOp .neq t (.int k x) (.int k y) : Sem Value) = pure (.bool b) := bt_cmp (by unfold Op.intCmp; rw [← h]; simp [bne]; rfl) (by simp)
theorem bt_add {t : TypeId} {ox oy : Operand} {k : IntKind} {x y z : Int} (h : k.wrap (x + y) = z) : (do eqGuard .add t ox oy (.int k x) (.int k y); binOp .add t (.int k x) (.int k y) : Sem Value) = pure (.int k z) := by
  rw [guard_int]
  show binOp .add t (.int k x) (.int k y) = _
  simp [binOp, Op.intArith, h]
theorem bt_sub {t : TypeId} {ox oy : Operand} {k : IntKind} {x y z : Int} (h : k.wrap (x - y) = z) : (do eqGuard .sub t ox oy (.int k x) (.int k y); binOp .sub t (.int k x) (.int k y) : Sem Value) = pure (.int k z) := by
  rw [guard_int]
  show binOp .sub t (.int k x) (.int k y) = _
  simp [binOp, Op.intArith, h]
theorem bt_mul {t : TypeId} {ox oy : Operand} {k : IntKind} {x y z : Int} (h : k.wrap (x * y) = z) : (do eqGuard .mul t ox oy (.int k x) (.int k y); binOp .mul t (.int k x) (.int k y) : Sem Value) = pure (.int k z) := by
  rw [guard_int]
  show binOp .mul t (.int k x) (.int k y) = _
  simp [binOp, Op.intArith, h]
theorem bt_quo {t : TypeId} {ox oy : Operand} {k : IntKind} {x y z : Int} (hy : y ≠ 0) (h : k.wrap (x.tdiv y) = z) : (do eqGuard .quo t ox oy (.int k x) (.int k y); binOp .quo t (.int k x) (.int k y) : Sem Value) = pure (.int k z) := by
  rw [guard_int]
  show binOp .quo t (.int k x) (.int k y) = _
  simp [binOp, Op.intDiv, h, hy]
theorem bt_rem {t : TypeId} {ox oy : Operand} {k : IntKind} {x y z : Int} (hy : y ≠ 0) (h : x.tmod y = z) : (do eqGuard .rem t ox oy (.int k x) (.int k y); binOp .rem t (.int k x) (.int k y) : Sem Value) = pure (.int k z) := by
  rw [guard_int]
  show binOp .rem t (.int k x) (.int k y) = _
  simp [binOp, Op.intDiv, h, hy]
theorem ut_neg {k : IntKind} {x z : Int} (h : k.wrap (0 - x) = z) : Op.unary .neg (.int k x) = pure (.int k z) := by
  simp only [Op.unary, Op.intArith, h]
/-- A symbol. -/
abbrev sy (n : Nat) : Value := .complex .f64 n 0

/-- Is it this number, truth or symbol? -/
noncomputable def resIs (r : Value) : Option (Value × St) → Bool
  | some (v, _) => sameV v r
  | none => false
/-- What the fast evaluator finds of a call holds in the model, at every world. -/
theorem fast_sym [Sig] {P : Program} (hP : P.check = .ok ()) (hcal : CalOK P) (hm : P.follows .mixedOrders = true) {n : Nat} {f : FuncId} {args args' : Array Value} {r : Value} (h : withB P (fun B => resIs r (fcallF B (fev B n) f args.toList s0)) = true) (ha : ARel (fun _ => none) args args') (w : World) :
    Calls P f args' w fun e w1 => e = .returned (cvV Sig.val r) ∧ Below w.heap.size w w1 := by
  obtain ⟨B, hB, hBP, e⟩ := withB_ok P (fun B => resIs r (fcallF B (fev B n) f args.toList s0))
  rw [e] at h
  subst hBP
  unfold resIs at h
  split at h
  · rename_i v s1 hc
    obtain ⟨h1, h2⟩ := sameV_eq h
    refine (closed hP hcal hm (fcallF_ok hB (fev_ok hB n) f args s0 _ _ hc) ha w).mono ?_
    rintro e w1 ⟨κ, v', rfl, g, hv⟩
    refine ⟨?_, g.below.below⟩
    rw [sym_eq hv h2, h1]
  · cases h
theorem ct_in {val : Nat → Value} {k k0 : IntKind} {x r : Value} {n m : Int} (hx : cvV val x = .int k0 n) (hr : cvV val r = .int k m) (h : k.wrap n = m) : CTrue val (k, x, r) := ⟨k0, n, hx, by rw [h]; exact hr⟩
end Go.Ev
