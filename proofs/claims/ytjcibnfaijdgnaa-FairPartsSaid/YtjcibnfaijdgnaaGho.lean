/- Calls over memory that is there: blocks with names, and a state kept outside them; a start, a call, what it leaves. -/
import Derived.Test.YtjcibnfaijdgnaaSig
namespace Go.Ev
open Go.RowKit
set_option linter.unusedVariables false
set_option linter.unusedSimpArgs false
set_option linter.unusedSectionVars false

/-! ### What a run leaves, compared -/
noncomputable def eqA : Option Addr → Option Addr → Bool
  | none, none => true
  | some ⟨b, o, none⟩, some ⟨b', o', none⟩ => Nat.beq b b' && Nat.beq o o'
  | _, _ => false
noncomputable def eqN : Option Nat → Option Nat → Bool
  | none, none => true
  | some b, some b' => Nat.beq b b'
  | _, _ => false
noncomputable def eqF : FloatKind → FloatKind → Bool
  | .f32, .f32 => true
  | .f64, .f64 => true
  | _, _ => false
noncomputable def allL (f : Value → Value → Bool) : List Value → List Value → Bool
  | [], [] => true
  | x :: l, y :: m => f x y && allL f l m
  | _, _ => false
noncomputable def eqV : Nat → Value → Value → Bool
  | 0, _, _ => false
  | n + 1, x, y =>
    match x, y with
    | .bool a, .bool b => (match a, b with | true, true => true | false, false => true | _, _ => false)
    | .int k a, .int k' b => Nat.beq (ikn k) (ikn k') && ibeq a b
    | .complex k a b, .complex k' a' b' => eqF k k' && (Nat.beq a a' && Nat.beq b b')
    | .pointer a, .pointer b => eqA a b
    | .slice a n c, .slice a' n' c' => eqA a a' && (Nat.beq n n' && Nat.beq c c')
    | .map a, .map b => eqN a b
    | .nilFunc, .nilFunc => true
    | .nilIface, .nilIface => true
    | .iface t a, .iface t' a' => Nat.beq t t' && eqV n a a'
    | .agg a, .agg b => allL (eqV n) a.toList b.toList
    | .tuple a, .tuple b => allL (eqV n) a.toList b.toList
    | _, _ => false
theorem eqA_eq {a b : Option Addr} (h : eqA a b = true) : a = b := by
  unfold eqA at h
  split at h
  · rfl
  · rw [Bool.and_eq_true] at h
    rw [Nat.eq_of_beq_eq_true h.1, Nat.eq_of_beq_eq_true h.2]
  · cases h
theorem eqN_eq {a b : Option Nat} (h : eqN a b = true) : a = b := by
  unfold eqN at h
  split at h
  · rfl
  · rw [Nat.eq_of_beq_eq_true h]
  · cases h
theorem eqF_eq {a b : FloatKind} (h : eqF a b = true) : a = b := by cases a <;> cases b <;> first | rfl | cases h
theorem allL_eq {f : Value → Value → Bool} (hf : ∀ x y, f x y = true → x = y) : ∀ {l m : List Value}, allL f l m = true → l = m := by
  intro l
  induction l with
  | nil => intro m h; cases m with | nil => rfl | cons y m => cases h
  | cons x l ih =>
    intro m h
    cases m with
    | nil => cases h
    | cons y m =>
      have h' : (f x y && allL f l m) = true := h
      rw [Bool.and_eq_true] at h'
      rw [hf x y h'.1, ih h'.2]
theorem eqV_eq : ∀ (n : Nat) (x y : Value), eqV n x y = true → x = y := by
  intro n
  induction n with
  | zero => intro x y h; cases h
  | succ n ih =>
    intro x y h
    unfold eqV at h
    split at h
    · split at h <;> first | rfl | cases h
    · rw [Bool.and_eq_true] at h
      rw [@ikn_eq noSig _ _ h.1, show _ = _ from of_decide_eq_true ((@ibeq_eq noSig _ _).symm.trans h.2)]
    · simp only [Bool.and_eq_true] at h
      rw [eqF_eq h.1, Nat.eq_of_beq_eq_true h.2.1, Nat.eq_of_beq_eq_true h.2.2]
    · rw [eqA_eq h]
    · simp only [Bool.and_eq_true] at h
      rw [eqA_eq h.1, Nat.eq_of_beq_eq_true h.2.1, Nat.eq_of_beq_eq_true h.2.2]
    · rw [eqN_eq h]
    · rfl
    · rfl
    · rw [Bool.and_eq_true] at h
      rw [Nat.eq_of_beq_eq_true h.1, ih _ _ h.2]
    · congr 1; exact Array.ext' (allL_eq ih h)
    · congr 1; exact Array.ext' (allL_eq ih h)
    · cases h

/-! ### Starts -/
variable [Sig]
/-- Blocks with names. -/
def stH : List (Nat × Obj) → Tr
  | [] => .leaf
  | (id, o) :: l => (stH l).set deep id (some o)
def stOf (l : List (Nat × Obj)) (n : Nat) : St := ⟨stH l, n, []⟩
def renOf (l : List (Nat × Nat)) : Ren := fun id => (l.find? fun p => p.1 == id).map (·.2)

theorem stOf_look (n : Nat) : ∀ (l : List (Nat × Obj)) (id : Nat), (∀ p ∈ l, p.1 < lim) → (stOf l n).look id = (l.find? fun p => p.1 == id).map (·.2) := by
  intro l
  induction l with
  | nil => intro id _; exact Tr.get_leaf _ _
  | cons p l ih =>
    intro id h
    obtain ⟨j, o⟩ := p
    have hl : j < lim := h (j, o) (List.mem_cons_self ..)
    show ((stH l).set deep j (some o)).get deep id = _
    rw [List.find?_cons]
    by_cases e : j = id
    · subst e
      simp only [beq_self_eq_true]
      exact Tr.get_set_same 29 _ _ _ hl
    · rw [show ((j, o).1 == id) = false by simpa using e]
      rw [Tr.get_set_other _ _ _ _ _ (fun e' => e e'.symm)]
      exact ih id (fun p hp => h p (List.mem_cons_of_mem _ hp))

theorem renOf_mem {l : List (Nat × Nat)} {id b : Nat} (h : renOf l id = some b) : (id, b) ∈ l := by
  unfold renOf at h
  cases hf : l.find? (fun p => p.1 == id) with
  | none => rw [hf] at h; cases h
  | some p =>
    rw [hf] at h
    cases h
    have h1 := List.find?_some hf
    have h2 := List.mem_of_find?_eq_some hf
    obtain ⟨x, y⟩ := p
    simp only [beq_iff_eq] at h1
    subst h1
    exact h2
theorem find_mem {l : List (Nat × Obj)} {id : Nat} {o : Obj} (h : (l.find? fun p => p.1 == id).map (·.2) = some o) : (id, o) ∈ l := by
  cases hf : l.find? (fun p => p.1 == id) with
  | none => rw [hf] at h; cases h
  | some p =>
    rw [hf] at h
    cases h
    have h1 := List.find?_some hf
    have h2 := List.mem_of_find?_eq_some hf
    obtain ⟨x, y⟩ := p
    simp only [beq_iff_eq] at h1
    subst h1
    exact h2

/-- All blocks but those with names and those of the state outside. -/
def Rest (l : List (Nat × Nat)) (F : Nat → Prop) (w : World) (j : Nat) : Prop := j < w.heap.size ∧ ¬ F j ∧ ∀ p ∈ l, p.2 ≠ j
theorem open_start {P : Program} {w : World} {objs : List (Nat × Obj)} {l : List (Nat × Nat)} {n : Nat} {F : Nat → Prop} (hlim : ∀ p ∈ objs, p.1 < lim)
    (hobj : ∀ p ∈ objs, gnum p.2 = none → ∃ b o', renOf l p.1 = some b ∧ w.heap[b]? = some o' ∧ ORel P (renOf l) p.1 p.2 o') (hinj : ∀ p ∈ l, ∀ q ∈ l, p.2 = q.2 → p.1 = q.1)
    (hF : ∀ j, F j → j < w.heap.size) (hFl : ∀ p ∈ l, ¬ F p.2)
    (hg : ∀ p ∈ objs, ∀ g, gnum p.2 = some g → p.1 = 3 ∧ renOf l 3 = none ∧ Sig.GR g (renOf l) F w) : Rep P (Rest l F w) (renOf l) (stOf objs n).look w := by
  refine ⟨fun id id' o o' b _ _ h1 h2 => ?_, fun id o ho hrl => ?_, fun k hk => hk.1, fun id o g ho hgn => ?_⟩
  · exact hinj _ (renOf_mem h1) _ (renOf_mem h2) rfl
  · rw [stOf_look n objs id hlim] at ho
    obtain ⟨b, o', h1, h2, h3⟩ := hobj _ (find_mem ho) hrl
    exact ⟨b, o', h1, h2, h3, fun hk => hk.2.2 _ (renOf_mem h1) rfl⟩
  · rw [stOf_look n objs id hlim] at ho
    obtain ⟨h1, h2, h3⟩ := hg _ (find_mem ho) g hgn
    exact ⟨h1, h2, F, h3, fun j hj => ⟨hF j hj, fun hk => hk.2.1 hj⟩, fun x ox b _ h5 => hFl _ (renOf_mem h5)⟩

/-- A call over such memory. -/
theorem open_call {P : Program} (hP : P.check = .ok ()) (hcal : CalOK P) (hm : P.follows .mixedOrders = true) {n m : Nat} {f : FuncId} {args args' : Array Value} {objs : List (Nat × Obj)} {l : List (Nat × Nat)} {F : Nat → Prop} {c : Option (Value × St) → Bool}
    (h : withB P (fun B => c (fcallF B (fev B n) f args.toList (stOf objs m))) = true) (hc : c none = false) {w : World} (hlim : ∀ p ∈ objs, p.1 < lim) (hnew : ∀ p ∈ objs, p.1 < 4 * m) (hren : ∀ p ∈ l, p.1 < 4 * m)
    (hr : Rep P (Rest l F w) (renOf l) (stOf objs m).look w) (ha : ARel (renOf l) args args') :
    Calls P f args' w fun e w1 => ∃ κ v v' s1, c (some (v, s1)) = true ∧ e = .returned v' ∧ Goes P (Rest l F w) (renOf l) κ (stOf objs m) s1 w w1 ∧ VRel κ v v' := by
  obtain ⟨B, hB, hBP, e⟩ := withB_ok P (fun B => c (fcallF B (fev B n) f args.toList (stOf objs m)))
  rw [e] at h
  subst hBP
  cases hx : fcallF B (fev B n) f args.toList (stOf objs m) with
  | none => rw [hx, hc] at h; cases h
  | some x =>
    obtain ⟨v, s1⟩ := x
    rw [hx] at h
    have h1 := fcallF_ok hB (fev_ok hB n) f args _ _ _ hx
    refine ((call_ok hP hcal hm n).1 f args _ v s1 h1 (fun id x y => ?_) (renOf l) args' w hr ha (fun id x y => ?_)).mono ?_
    · rw [stOf_look m objs id hlim]
      cases hf : (objs.find? fun p => p.1 == id).map (·.2) with
      | none => rfl
      | some o =>
        have := hnew _ (find_mem hf)
        have x' : 4 * m ≤ id := x
        simp only at this
        omega
    · cases hf : renOf l id with
      | none => rfl
      | some b =>
        have := hren _ (renOf_mem hf)
        have x' : 4 * m ≤ id := x
        simp only at this
        omega
    · rintro e w1 ⟨κ, v', rfl, g, hv⟩
      exact ⟨κ, v, v', s1, h, rfl, g, hv⟩

/-! ### What is left -/
/-- Values that are plainly known: numbers, symbols, pointers to the head of a block with a name. -/
def knV : Value → Bool
  | .pointer (some ⟨_, _, none⟩) => true
  | .pointer none | .slice none 0 0 | .map none | .nilFunc | .nilIface => true
  | .complex .f32 _ 0 => true
  | v => symV v
/-- What such a value is. -/
def conc (κ : Ren) : Value → Value
  | .pointer (some ⟨id, off, none⟩) => .pointer (some ⟨(κ id).getD 0, off, none⟩)
  | .complex .f32 id 0 => dec ((κ id).getD 0)
  | v => cvV Sig.val v
theorem conc_eq {κ : Ren} {v v' : Value} (h : VRel κ v v') (hk : knV v = true) : v' = conc κ v := by
  cases h with
  | ptr id off b h => simp [conc, h]
  | ptr0 => rfl
  | slice0 => rfl
  | map0 => rfl
  | nilFunc => rfl
  | nilIface => rfl
  | sym n m _ h => exact h.symm
  | dyn id c _ h h' => simp [conc, h, h']
  | bool => rfl
  | int => rfl
  | float => rfl
  | string => rfl
  | _ => first | cases hk | (simp [knV, symV] at hk)

/-- A block with a name, behind a call. -/
theorem left_cells {P : Program} {base : Nat → Prop} {ι κ : Ren} {s s1 : St} {w w1 : World} (g : Goes P base ι κ s s1 w w1) {id : Nat} {c : Array Value} {e : TypeId} (h : s1.look id = some (.cells c e (0, 0))) (hg : gro id = false) :
    ∃ b c', κ id = some b ∧ w1.heap[b]? = some (.cells c' e (0, 0)) ∧ ¬ base b ∧ ARel κ c c' := by
  obtain ⟨b, o', h1, h2, h3, h4⟩ := g.rep.there id _ h rfl
  obtain ⟨_, c', rfl, k1, k2, k3, _⟩ := h3
  exact ⟨b, c', h1, h2, h4, k2 hg, k3⟩
theorem conc_cells {κ : Ren} {c c' : Array Value} (h : ARel κ c c') (hk : c.toList.all knV = true) : c' = (c.toList.map (conc κ)).toArray := by
  rw [List.all_eq_true] at hk
  apply Array.ext (by simp [h.1])
  intro i h1 h2
  have h3 : i < c.size := by rw [h.1]; exact h1
  rw [conc_eq (h.2 i _ _ (Array.getElem?_eq_getElem h3) (Array.getElem?_eq_getElem h1)) (hk _ (by rw [Array.mem_toList_iff]; exact Array.getElem_mem h3))]
  simp
/-- The state outside, behind a call. -/
theorem left_state {P : Program} {base : Nat → Prop} {ι κ : Ren} {s s1 : St} {w w1 : World} (g : Goes P base ι κ s s1 w w1) {k : Nat} (h : s1.look 3 = some (gobj k)) :
    ∃ F : Nat → Prop, Sig.GR k κ F w1 ∧ (∀ j, F j → j < w1.heap.size ∧ ¬ base j) ∧ ∀ x ox b, s1.look x = some ox → κ x = some b → ¬ F b := by
  obtain ⟨_, _, F, h1, h2, h3⟩ := g.rep.gh 3 _ k h rfl
  exact ⟨F, h1, h2, h3⟩
/-- A block that is new. -/
theorem left_new {P : Program} {l : List (Nat × Nat)} {F : Nat → Prop} {κ : Ren} {s s1 : St} {w w1 : World} (g : Goes P (Rest l F w) (renOf l) κ s s1 w w1) {b : Nat} (h : ¬ Rest l F w b) (hF : ¬ F b) (hl : ∀ p ∈ l, p.2 ≠ b) : w.heap.size ≤ b := by
  rcases Nat.lt_or_ge b w.heap.size with h1 | h1
  · exact absurd ⟨h1, hF, hl⟩ h
  · exact h1
/-- A block of cells: its name, what stands in it, its elements' type. -/
abbrev Blk := Nat × List Value × TypeId
noncomputable def blkIs (s : St) (q : Blk) : Bool :=
  match Tr.gt deep s.heap q.1 with
  | some (.cells c e (0, 0)) => allL (eqV 4) c.toList q.2.1 && Nat.beq e q.2.2
  | _ => false
noncomputable def ghIs (s : St) : Option Nat → Bool
  | none => true
  | some g => (match Tr.gt deep s.heap 3 with | some (.view ⟨b, 0, none⟩ 0) => Nat.beq b g | _ => false)
/-- Does a run return this, and leave these blocks, and the state outside in that state? -/
noncomputable def outIs (r : Value) (bl : List Blk) (g : Option Nat) : Option (Value × St) → Bool
  | some (v, s) => eqV 4 v r && (bl.all (blkIs s) && ghIs s g)
  | none => false
theorem outIs_ok {r : Value} {bl : List Blk} {g : Option Nat} {v : Value} {s : St} (h : outIs r bl g (some (v, s)) = true) :
    v = r ∧ (∀ q ∈ bl, s.look q.1 = some (.cells q.2.1.toArray q.2.2 (0, 0))) ∧ ∀ k, g = some k → s.look 3 = some (gobj k) := by
  unfold outIs at h
  simp only [Bool.and_eq_true] at h
  obtain ⟨h1, h2, h3⟩ := h
  rw [List.all_eq_true] at h2
  refine ⟨eqV_eq _ _ _ h1, fun q hq => ?_, fun k hk => ?_⟩
  · have := h2 q hq
    unfold blkIs at this
    split at this
    · rename_i c e hl
      rw [Bool.and_eq_true] at this
      rw [Tr.gt_eq] at hl
      show s.heap.get deep q.1 = _
      rw [hl, ← allL_eq (eqV_eq 4) this.1, Nat.eq_of_beq_eq_true this.2]
    · cases this
  · subst hk
    simp only [ghIs] at h3
    split at h3
    · rename_i b hl
      rw [Tr.gt_eq] at hl
      show s.heap.get deep 3 = _
      rw [hl, Nat.eq_of_beq_eq_true h3]
      rfl
    · cases h3
/-- One block with a name, and a state outside. -/
theorem open_one {P : Program} (hP : P.check = .ok ()) (hcal : CalOK P) (hm : P.follows .mixedOrders = true) {n m : Nat} {f : FuncId} {args args' : Array Value} {cs c1 : List Value} {T : TypeId} {g g' : Nat} {r : Value} {bm : Nat} {F : Nat → Prop} {w : World}
    (h : withB P (fun B => outIs r [(4, c1, T)] (some g') (fcallF B (fev B n) f args.toList (stOf [(4, .cells cs.toArray T (0, 0)), (3, gobj g)] m))) = true) (h4 : 2 ≤ m) {cs' : List Value} (hb : w.heap[bm]? = some (.cells cs'.toArray T (0, 0)))
    (hcs : LRel (renOf [(4, bm)]) cs cs') (hg : Sig.GR g (renOf [(4, bm)]) F w) (hF : ∀ j, F j → j < w.heap.size) (hFb : ¬ F bm) (ha : ARel (renOf [(4, bm)]) args args') (hk : c1.all knV = true) :
    Calls P f args' w fun e w1 => ∃ κ v', e = .returned v' ∧ VRel κ r v' ∧ κ 4 = some bm ∧ w1.heap[bm]? = some (.cells (c1.map (conc κ)).toArray T (0, 0)) ∧ (∃ F' : Nat → Prop, Sig.GR g' κ F' w1 ∧ ¬ F' bm ∧ (∀ j, F' j → j < w1.heap.size ∧ (F j ∨ w.heap.size ≤ j))) ∧ Turn (fun j => j = bm ∨ F j) w w1 := by
  have hbl : bm < w.heap.size := (Array.getElem?_eq_some_iff.1 hb).1
  have r4 : renOf [(4, bm)] 4 = some bm := rfl
  have hr : Rep P (Rest [(4, bm)] F w) (renOf [(4, bm)]) (stOf [(4, .cells cs.toArray T (0, 0)), (3, gobj g)] m).look w := by
    refine open_start ?_ ?_ ?_ hF ?_ ?_
    · intro p hp
      simp only [List.mem_cons, List.not_mem_nil, or_false] at hp
      rcases hp with rfl | rfl <;> (show _ < lim; unfold lim; omega)
    · intro p hp hgn
      simp only [List.mem_cons, List.not_mem_nil, or_false] at hp
      rcases hp with rfl | rfl
      · refine ⟨bm, _, r4, hb, rfl, cs'.toArray, rfl, by simp [hcs.1], (fun _ => by simp [hcs.1]), fun i v v' h1 h2 => hcs.2 i v v' (by simpa using h1) (by simpa using h2), fun h => absurd h (by show ¬ gro 4 = true; decide)⟩
      · cases hgn
    · intro p hp q hq _
      simp only [List.mem_cons, List.not_mem_nil, or_false] at hp hq
      rw [hp, hq]
    · intro p hp
      simp only [List.mem_cons, List.not_mem_nil, or_false] at hp
      rw [hp]
      exact hFb
    · intro p hp k hk
      simp only [List.mem_cons, List.not_mem_nil, or_false] at hp
      rcases hp with rfl | rfl
      · cases hk
      · cases hk
        exact ⟨rfl, rfl, hg⟩
  refine (open_call hP hcal hm h rfl ?_ ?_ ?_ hr ha).mono ?_
  · intro p hp
    simp only [List.mem_cons, List.not_mem_nil, or_false] at hp
    rcases hp with rfl | rfl <;> (show _ < lim; unfold lim; omega)
  · intro p hp
    simp only [List.mem_cons, List.not_mem_nil, or_false] at hp
    rcases hp with rfl | rfl <;> (show _ < 4 * m; omega)
  · intro p hp
    simp only [List.mem_cons, List.not_mem_nil, or_false] at hp
    rw [hp]
    show 4 < 4 * m
    omega
  · rintro e w1 ⟨κ, v, v', s1, ho, rfl, gg, hv⟩
    obtain ⟨rfl, o1, o2⟩ := outIs_ok ho
    have l4 := o1 _ (List.mem_singleton.2 rfl)
    obtain ⟨b, c', k1, k2, k3, k4⟩ := left_cells gg l4 (by show gro 4 = false; decide)
    have e4 : κ 4 = some bm := by
      rw [gg.ext 4 (.inl (by show 4 < 4 * m; omega))]
      rfl
    rw [e4] at k1
    cases k1
    obtain ⟨F', q1, q2, q3⟩ := left_state gg (o2 g' rfl)
    refine ⟨κ, v', rfl, hv, e4, ?_, ⟨F', q1, q3 4 _ bm l4 e4, fun j hj => ⟨(q2 j hj).1, ?_⟩⟩, ⟨gg.below.os, gg.below.tape, gg.below.output, gg.below.size, fun k hk hn => ?_⟩⟩
    · rw [k2, conc_cells k4 (by simpa using hk)]
    · by_cases hFj : F j
      · exact .inl hFj
      · refine .inr ?_
        rcases Nat.lt_or_ge j w.heap.size with hlt | hge
        · exfalso
          have hjb : j ≠ bm := fun e => q3 4 _ bm l4 e4 (e ▸ hj)
          exact (q2 j hj).2 ⟨hlt, hFj, fun p hp => by
            simp only [List.mem_cons, List.not_mem_nil, or_false] at hp
            rw [hp]
            exact fun e => hjb e.symm⟩
        · exact hge
    · refine gg.below.block k ⟨hk, fun h => hn (.inr h), fun p hp e => ?_⟩
      simp only [List.mem_cons, List.not_mem_nil, or_false] at hp
      rw [hp] at e
      exact hn (.inl e.symm)
end Go.Ev
