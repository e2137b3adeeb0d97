/- Rows of what is known of steps by the state outside. -/
import Derived.Test.YtjcibnfaijdgnaaGho
namespace Go.Ev
open Go.RowKit
set_option linter.unusedVariables false
set_option linter.unusedSimpArgs false
set_option linter.unusedSectionVars false

/-- What holds of some blocks: kept while they are, and while names are. -/
structure Asr where
  p : Ren → (Nat → Prop) → World → Prop
  keep : ∀ ι F w w', (∀ j, F j → w'.heap[j]? = w.heap[j]?) → p ι F w → p ι F w'
  mono : ∀ ι κ F w, RLe ι κ → p ι F w → p κ F w

/-- A kind of operation, whatever its operands. -/
noncomputable def gkey : Op → Option (List Nat)
  | .load t _ => some [1, t]
  | .store t _ _ => some [2, t]
  | .indexAddr t _ _ => some [3, t]
  | .slice t _ lo hi mx => some [4, t, (match lo with | some _ => 1 | none => 0), (match hi with | some _ => 1 | none => 0), (match mx with | some _ => 1 | none => 0)]
  | .lookup t _ _ ok => some [5, t, (match ok with | true => 1 | false => 0)]
  | .mapUpdate t _ _ _ => some [6, t]
  | .fieldAddr t _ f => some [7, t, f]
  | .index t _ _ => some [8, t]
  | .nilCheck _ => some [9]
  | .call { callee := .builtin .len, args := ⟨[_]⟩, argTypes := ⟨[t]⟩ } => some [10, t]
  | .call { callee := .builtin .append, args := ⟨[_, _]⟩, argTypes := ⟨[t, u]⟩ } => some [11, t, u]
  | .call { callee := .builtin .delete, args := ⟨[_, _]⟩, argTypes := ⟨[t, u]⟩ } => some [12, t, u]
  | .call { callee := .builtin .min, args := ⟨[_, _]⟩, argTypes := ⟨[t, u]⟩ } => some [16, t, u]
  | .call { callee := .builtin .max, args := ⟨[_, _]⟩, argTypes := ⟨[t, u]⟩ } => some [17, t, u]
  | .range t _ => some [13, t]
  | .next _ b => some [14, (match b with | true => 1 | false => 0)]
  | .entry _ => some [15]
  | .makeMap t none => some [18, t]
  | _ => none
noncomputable def eqL : List Nat → List Nat → Bool
  | [], [] => true
  | x :: l, y :: m => Nat.beq x y && eqL l m
  | _, _ => false
theorem eqL_eq : ∀ {l m : List Nat}, eqL l m = true → l = m := by
  intro l
  induction l with
  | nil => intro m h; cases m with | nil => rfl | cons y m => cases h
  | cons x l ih =>
    intro m h
    cases m with
    | nil => cases h
    | cons y m =>
      have h' : (Nat.beq x y && eqL l m) = true := h
      rw [Bool.and_eq_true] at h'
      rw [Nat.eq_of_beq_eq_true h'.1, ih h'.2]

/-- A row: the operation's kind, its operands, what the source's cells hold (the cells of an element, which operand, what they hold), the state, the new value's name, the result, the state behind it. -/
structure GRow where
  key : List Nat
  vals : List Value
  src : Option (Nat × Nat × List Value)
  g : Nat
  d : Option Nat
  r : Value
  ng : Option Nat
/-- The same of a call. -/
structure GCRow where
  f : FuncId
  args : List Value
  g : Nat
  d : Option Nat
  r : Value
  ng : Option Nat
noncomputable def dIs : Option Nat → Nat → Bool
  | none, _ => true
  | some x, d => Nat.beq x d
theorem dIs_eq {x : Option Nat} {d : Nat} (h : dIs x d = true) : ∀ y, x = some y → y = d := by
  intro y e
  subst e
  exact Nat.eq_of_beq_eq_true h
noncomputable def srcIs (c : List Value) : Option (Nat × Nat × List Value) → Bool
  | none => false
  | some (_, _, l) => allL (eqV 4) c l
noncomputable def srcOk : Bool → List Value → Option (Nat × Nat × List Value) → Bool
  | true, c, x => srcIs c x
  | false, _, none => true
  | false, _, some _ => false
noncomputable def findR (src : Bool) (key : List Nat) (vals c : List Value) (g d : Nat) : List GRow → Option (Value × Option Nat)
  | [] => none
  | q :: l => if eqL key q.key && (allL (eqV 4) (vals.take q.vals.length) q.vals && (Nat.beq g q.g && (dIs q.d d && srcOk src c q.src))) then some (q.r, q.ng) else findR src key vals c g d l
noncomputable def reqOf (rows : List GRow) (key : List Nat) (vals : List Value) : List GRow → Option GReq
  | [] => none
  | q :: l => if eqL key q.key && allL (eqV 4) (vals.take q.vals.length) q.vals then (match q.src with | none => some (.now (fun g d => findR false key vals [] g d rows)) | some (sz, j, _) => some (.src sz j (fun c g d => findR true key vals c g d (rows.filter (fun r => match r.src with | some (sz', j', _) => Nat.beq sz' sz && Nat.beq j' j | none => false))))) else reqOf rows key vals l
noncomputable def isSy : List Value → Bool
  | .complex _ _ _ :: _ => true
  | _ :: .complex _ _ _ :: _ => true
  | _ => false
noncomputable def isMk : Op → Bool
  | .makeMap _ _ => true
  | _ => false
noncomputable def gopOf (rows : List GRow) (op : Op) (vals : List Value) : Option GReq :=
  @Bool.rec (fun _ => Option GReq) none (match gkey op with | some k => reqOf rows k vals rows | none => none) (isMk op || isSy vals)
noncomputable def findGC (f : FuncId) (args : List Value) (g d : Nat) : List GCRow → Option (Value × Option Nat)
  | [] => none
  | q :: l => if Nat.beq f q.f && (allL (eqV 4) args q.args && (Nat.beq g q.g && dIs q.d d)) then some (q.r, q.ng) else findGC f args g d l
noncomputable def gcalOf (rows : List GCRow) (f : FuncId) (args : List Value) : List GCRow → Option GQ
  | [] => none
  | q :: l => if Nat.beq f q.f && allL (eqV 4) args q.args then some (fun g d => findGC f args g d rows) else gcalOf rows f args l

theorem findR_ok {src : Bool} {key : List Nat} {vals c : List Value} {g d : Nat} {r : Value} {ng : Option Nat} : ∀ {l : List GRow}, findR src key vals c g d l = some (r, ng) →
    ∃ q ∈ l, q.key = key ∧ q.vals = vals.take q.vals.length ∧ q.g = g ∧ (∀ y, q.d = some y → y = d) ∧ q.r = r ∧ q.ng = ng ∧ (match src with | true => ∃ sz j, q.src = some (sz, j, c) | false => q.src = none) := by
  intro l
  induction l with
  | nil => intro h; cases h
  | cons q l ih =>
    intro h
    unfold findR at h
    split at h
    · rename_i hc
      simp only [Bool.and_eq_true] at hc
      obtain ⟨h1, h2, h3, h4, h5⟩ := hc
      cases h
      refine ⟨q, List.mem_cons_self .., (eqL_eq h1).symm, (allL_eq (eqV_eq 4) h2).symm, (Nat.eq_of_beq_eq_true h3).symm, dIs_eq h4, rfl, rfl, ?_⟩
      cases src with
      | true =>
        cases hs : q.src with
        | none => rw [hs] at h5; cases h5
        | some x =>
          obtain ⟨sz, j, l0⟩ := x
          rw [hs] at h5
          exact ⟨sz, j, by rw [allL_eq (eqV_eq 4) (show allL (eqV 4) c l0 = true from h5)]⟩
      | false =>
        cases hs : q.src with
        | none => rfl
        | some x => rw [hs] at h5; cases h5
    · obtain ⟨q', h1, h2⟩ := ih h
      exact ⟨q', List.mem_cons_of_mem _ h1, h2⟩
theorem findGC_ok {f : FuncId} {args : List Value} {g d : Nat} {r : Value} {ng : Option Nat} : ∀ {l : List GCRow}, findGC f args g d l = some (r, ng) →
    ∃ q ∈ l, q.f = f ∧ q.args = args ∧ q.g = g ∧ (∀ y, q.d = some y → y = d) ∧ q.r = r ∧ q.ng = ng := by
  intro l
  induction l with
  | nil => intro h; cases h
  | cons q l ih =>
    intro h
    unfold findGC at h
    split at h
    · rename_i hc
      simp only [Bool.and_eq_true] at hc
      obtain ⟨h1, h2, h3, h4⟩ := hc
      cases h
      exact ⟨q, List.mem_cons_self .., (Nat.eq_of_beq_eq_true h1).symm, (allL_eq (eqV_eq 4) h2).symm, (Nat.eq_of_beq_eq_true h3).symm, dIs_eq h4, rfl, rfl⟩
    · obtain ⟨q', h1, h2⟩ := ih h
      exact ⟨q', List.mem_cons_of_mem _ h1, h2⟩

/-- All that is known. -/
structure Kn where
  val : Nat → Value
  leaf : ∀ n, leafV (val n) = true
  bs : List BFact
  us : List UFact
  cs : List CFact
  ks : List KFact
  hb : ∀ q ∈ bs, BTrue val q
  hu : ∀ q ∈ us, UTrue val q
  hc : ∀ q ∈ cs, CTrue val q
  gs : List Asr
  ops : List GRow
  cls : List GCRow

@[reducible] noncomputable def Kn.sig (k : Kn) : Sig where
  val := k.val
  leaf := k.leaf
  bin := fun op x y => findB op x y k.bs
  bin_ok := fun op x y r h => by
    obtain ⟨h1, h2, h3, h4⟩ := findB_ok h
    exact ⟨h2, h3, h4, k.hb _ h1⟩
  una := fun op x => findU op x k.us
  una_ok := fun op x r h => by
    obtain ⟨h1, h2, h3⟩ := findU_ok h
    exact ⟨h2, h3, k.hu _ h1⟩
  cnv := fun kd x => findC kd x k.cs
  cnv_ok := fun kd x r h => by
    obtain ⟨h1, h2, h3⟩ := findC_ok h
    exact ⟨h2, h3, k.hc _ h1⟩
  cal := fun f l => findK f l k.ks
  cal_sym := fun f l r h => (findK_ok h).2.2
  GR := fun g ι F w => ∃ a, k.gs[g]? = some a ∧ a.p ι F w
  GR_keep := fun g ι F w w' h ⟨a, h1, h2⟩ => ⟨a, h1, a.keep ι F w w' h h2⟩
  GR_mono := fun g ι κ F w h ⟨a, h1, h2⟩ => ⟨a, h1, a.mono ι κ F w h h2⟩
  gop := fun op vals => gopOf k.ops op vals
  gcal := fun f args => gcalOf k.cls f args k.cls

/-- What a row of an operation must say. -/
def GTrue (k : Kn) (P : Program) (q : GRow) : Prop :=
  letI : Sig := k.sig
  ∀ (o : Oper), gkey o.op = some q.key → ∀ (ev : Operand → Value) (ι : Ren) (F : Nat → Prop) (w : World) (d : Nat), LRel ι q.vals ((o.op.operands.toList.map ev).take q.vals.length) →
    (∀ sz j c, q.src = some (sz, j, c) → ∃ (y : Value) (c' : Array Value) (m : Nat), (o.op.operands.toList.map ev)[j]? = some y ∧ LRel ι c c'.toList ∧ c.length = m * sz ∧ c.all oneCell = true ∧ (∀ w' : World, w'.heap = w.heap → (Builtin.firstCells sz m y).run P w' = .ok c' w') ∧ (∀ w' : World, (Builtin.lenOf y).run P w' = .ok m w')) →
    (∃ a, k.gs[q.g]? = some a ∧ a.p ι F w) → (∀ j, F j → j < w.heap.size) → (ι d = none ∨ q.ng = none) → (∀ y, q.d = some y → y = d) →
    ∃ n v' w', (execOp ev o).run P w = .ok n w' ∧ (n = .value v' ∨ n = .skip ∧ v' = undef) ∧ GEnd ι d F w q.r q.ng v' w'
/-- What a row of a call must say. -/
def GCTrue (k : Kn) (P : Program) (q : GCRow) : Prop :=
  letI : Sig := k.sig
  ∀ (ι : Ren) (args' : Array Value) (F : Nat → Prop) (w : World) (d : Nat), LRel ι q.args args'.toList →
    (∃ a, k.gs[q.g]? = some a ∧ a.p ι F w) → (∀ j, F j → j < w.heap.size) → (ι d = none ∨ q.ng = none) → (∀ y, q.d = some y → y = d) →
    Calls P q.f args' w fun e w' => ∃ v', e = .returned v' ∧ GEnd ι d F w q.r q.ng v' w'

theorem gkey_noDefer {op : Op} {k : List Nat} (h : gkey op = some k) : ∀ c, op ≠ .defer c := by
  intro c e
  subst e
  cases h
theorem reqOf_ok {rows : List GRow} {key : List Nat} {vals : List Value} {rq : GReq} : ∀ {l : List GRow}, reqOf rows key vals l = some rq → ∀ c g d r ng, rq.q c g d = some (r, ng) →
    ∃ q ∈ rows, q.key = key ∧ q.vals = vals.take q.vals.length ∧ q.g = g ∧ (∀ y, q.d = some y → y = d) ∧ q.r = r ∧ q.ng = ng ∧ (∀ sz j c', q.src = some (sz, j, c') → c' = c ∧ ∃ q', rq = .src sz j q') := by
  intro l
  induction l with
  | nil => intro h; cases h
  | cons q0 l ih =>
    intro h
    unfold reqOf at h
    split at h
    · split at h
      · cases h
        intro c g d r ng hx
        obtain ⟨q, h1, h2, h3, h4, h5, h6, h7, h8⟩ := findR_ok hx
        exact ⟨q, h1, h2, h3, h4, h5, h6, h7, fun sz j c' e => by rw [h8] at e; cases e⟩
      · rename_i sz j c0 e0
        cases h
        intro c g d r ng hx
        obtain ⟨q, h1, h2, h3, h4, h5, h6, h7, sz2, j2, h8⟩ := findR_ok hx
        obtain ⟨m1, m2⟩ := List.mem_filter.1 h1
        rw [h8] at m2
        simp only [Bool.and_eq_true] at m2
        have e1 := Nat.eq_of_beq_eq_true m2.1
        have e2 := Nat.eq_of_beq_eq_true m2.2
        subst e1 e2
        refine ⟨q, m1, h2, h3, h4, h5, h6, h7, fun sz j c' e => ?_⟩
        rw [h8] at e
        cases e
        exact ⟨rfl, _, rfl⟩
    · exact ih h
theorem gcalOf_ok {rows : List GCRow} {f : FuncId} {args : List Value} {q : GQ} : ∀ {l : List GCRow}, gcalOf rows f args l = some q → q = fun g d => findGC f args g d rows := by
  intro l
  induction l with
  | nil => intro h; cases h
  | cons q0 l ih =>
    intro h
    unfold gcalOf at h
    split at h
    · cases h; rfl
    · exact ih h

theorem Kn.ok (k : Kn) {P : Program} (hk : ∀ q ∈ k.ks, KTrue P k.val q) (ho : ∀ q ∈ k.ops, GTrue k P q) (hl : ∀ q ∈ k.cls, GCTrue k P q) : @CalOK k.sig P := by
  letI : Sig := k.sig
  refine ⟨?_, ?_, ?_⟩
  · intro f args r h ι args' w ha
    obtain ⟨h1, h2, h3⟩ := findK_ok h
    have he : args' = (args.toList.map (cvD k.val)).toArray := by
      apply Array.ext (by simp [ha.1])
      intro i g1 g2
      have g3 : i < args.size := by rw [ha.1]; exact g1
      have := symD_eq (ha.2 i _ _ (Array.getElem?_eq_getElem g3) (Array.getElem?_eq_getElem g1)) (h2 _ (by rw [Array.mem_toList_iff]; exact Array.getElem_mem g3))
      rw [this]
      simp
      rfl
    rw [he]
    refine (hk _ h1 w).mono ?_
    rintro e w' ⟨rfl, hb'⟩
    exact ⟨_, rfl, sym_rel h3, hb'⟩
  · intro op vals rq h
    have h' : gopOf k.ops op vals = some rq := h
    unfold gopOf at h'
    obtain ⟨_, h2⟩ := brec_some h'
    split at h2
    case h_2 => cases h2
    rename_i key hkey
    refine ⟨gkey_noDefer hkey, fun c g d r ng hx o ev ι F w hop hv hsrc hg hF hd => ?_⟩
    obtain ⟨q, m1, e1, e2, e3, e4, e5, e6, e7⟩ := reqOf_ok h2 c g d r ng hx
    subst e3 e5 e6 hop
    have hv0 : ∀ m, LRel ι (vals.take m) ((o.op.operands.toList.map ev).take m) := by
      intro m
      refine ⟨by rw [List.length_take, List.length_take, hv.1], fun j x y h1 h2 => ?_⟩
      rw [List.getElem?_take] at h1 h2
      split at h1
      · rw [if_pos (by assumption)] at h2
        exact hv.2 j x y h1 h2
      · cases h1
    have hv' := hv0 q.vals.length
    rw [← e2] at hv'
    exact ho q m1 o (by rw [hkey, e1]) ev ι F w d hv' (fun sz j c' e => by
      obtain ⟨rfl, q', hq'⟩ := e7 sz j c' e
      exact hsrc sz j q' hq') hg hF hd e4
  · intro f args q h g d r ng hx ι args' F w ha hg hF hd
    have h' : gcalOf k.cls f args.toList k.cls = some q := h
    rw [gcalOf_ok h'] at hx
    obtain ⟨q', m1, e1, e2, e3, e4, e5, e6⟩ := findGC_ok hx
    subst e1 e3 e5 e6
    exact hl q' m1 ι args' F w d (by rw [e2]; exact ha.list) hg hF hd e4
end Go.Ev
