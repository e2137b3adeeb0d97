/- The evaluator, part twenty-two: a region that draws its order. -/
import Derived.Test.YtjcibnfaijdgnaaEvU
namespace Go.Ev
open Go.RowKit
set_option linter.unusedVariables false
set_option linter.unusedSimpArgs false
set_option linter.unusedSectionVars false
variable [Sig]

/-! ### What a region's check says -/

theorem ok_parts {types : Array TypeInfo} {ops : Array Oper} {draw : Bool} (h : Region.ok types ops draw = true) :
    (∀ (i : Nat) (o : Oper), ops[i]? = some o → ∀ e ∈ o.after, Region.binds .any e = true → e.on < i) ∧
    (∀ (i : Nat) (o : Oper) (j : Nat) (b : Bool), ops[i]? = some o → o.guard = some (j, b) → (∃ e ∈ o.after, e.on = j ∧ Region.binds .any e = true) ∧ ∃ d, (ops[j]?).bind (·.dst) = some d) ∧
    Region.temporariesOk ops (Region.before ops) = true := by
  unfold Region.ok at h
  simp only [Bool.and_eq_true] at h
  obtain ⟨⟨⟨⟨h1, h2⟩, _⟩, _⟩, _⟩ := h
  rw [Array.all_eq_true_iff_forall_mem] at h1
  have at_ : ∀ i o, ops[i]? = some o → (o, i) ∈ ops.zipIdx := fun i o hi => by
    rw [Array.mem_zipIdx_iff_getElem?]
    exact hi
  refine ⟨fun i o hi e he hb => ?_, fun i o j b hi hg => ?_, h2⟩
  · have h3 := h1 (o, i) (at_ i o hi)
    simp only [Bool.and_eq_true, Array.all_eq_true_iff_forall_mem] at h3
    have h4 := h3.1 e he
    rw [Bool.or_eq_true] at h4
    rcases h4 with h4 | h4
    · simpa using h4
    · unfold Region.binds at hb
      split at h4
      · rename_i d hgr
        rw [hgr] at hb
        simp at hb
      · cases h4
  · have h3 := h1 (o, i) (at_ i o hi)
    simp only [Bool.and_eq_true, hg] at h3
    obtain ⟨_, h4, h5⟩ := h3
    rw [Array.any_eq_true'] at h4
    obtain ⟨e, he, hh⟩ := h4
    simp only [Bool.and_eq_true, beq_iff_eq] at hh
    exact ⟨⟨e, he, hh⟩, by rw [Option.isSome_iff_exists] at h5; exact h5⟩

abbrev Bkt := Array (List (Tmp × Nat))
def bktStep (N : Nat) (w : Bkt) (x : Oper × Nat) : Bkt :=
  match x.1.dst with
  | some d => w.modify (d % N) ((d, x.2) :: ·)
  | none => w
theorem bkt_size (N : Nat) (w : Bkt) (x : Oper × Nat) : (bktStep N w x).size = w.size := by
  unfold bktStep
  split <;> simp
theorem bkt_keep (N : Nat) (w : Bkt) (x : Oper × Nat) (k : Nat) (p : Tmp × Nat) (h : p ∈ w.getD k []) : p ∈ (bktStep N w x).getD k [] := by
  unfold bktStep
  split
  · rename_i d hd
    have hk : k < w.size := by
      rcases Nat.lt_or_ge k w.size with g | g
      · exact g
      · rw [Array.getD, dif_neg (by omega)] at h; cases h
    rw [Array.getD, dif_pos (by simpa using hk)]
    rw [Array.getD, dif_pos hk] at h
    show p ∈ (w.modify (d % N) _)[k]'_
    rw [Array.getElem_modify]
    split
    · exact List.mem_cons_of_mem _ h
    · exact h
  · exact h
theorem bkt_keeps (N : Nat) : ∀ (l : List (Oper × Nat)) (w : Bkt) (k : Nat) (p : Tmp × Nat), p ∈ w.getD k [] → p ∈ (l.foldl (bktStep N) w).getD k [] := by
  intro l
  induction l with
  | nil => intro w k p h; exact h
  | cons x rest ih => intro w k p h; exact ih _ k p (bkt_keep N w x k p h)
theorem bkt_mem (N : Nat) (hN : 0 < N) : ∀ (l : List (Oper × Nat)) (w : Bkt), w.size = N → ∀ x ∈ l, ∀ d, x.1.dst = some d → (d, x.2) ∈ (l.foldl (bktStep N) w).getD (d % N) [] := by
  intro l
  induction l with
  | nil => intro w hw x hx; cases hx
  | cons y rest ih =>
    intro w hw x hx d hd
    rw [List.foldl_cons]
    rcases List.mem_cons.1 hx with e | e
    · subst e
      refine bkt_keeps N rest _ _ _ ?_
      unfold bktStep
      rw [hd]
      dsimp only
      have hk : d % N < w.size := by rw [hw]; exact Nat.mod_lt _ hN
      rw [Array.getD, dif_pos (by simpa using hk)]
      show _ ∈ (w.modify (d % N) _)[d % N]'_
      rw [Array.getElem_modify, if_pos rfl]
      exact List.mem_cons_self ..
    · exact ih _ (by rw [bkt_size]; exact hw) x e d hd

def nameOf (o : Oper) (t : Tmp) : Prop := o.dst = some t ∨ .tmp t ∈ o.op.operands

theorem tmps_ordered {ops : Array Oper} (h : Region.temporariesOk ops (Region.before ops) = true) {i m : Nat} {o p : Oper} {t : Tmp} (hi : ops[i]? = some o) (hm : ops[m]? = some p) (hn : nameOf o t) (hd : p.dst = some t) (hne : m ≠ i) :
    ((Region.before ops).getD (max m i) 0).testBit (min m i) = true := by
  have hlt : i < ops.size := (Array.getElem?_eq_some_iff.1 hi).1
  unfold Region.temporariesOk at h
  simp only [List.all_eq_true] at h
  have h1 := h (o, i) (by rw [List.mem_zipIdx_iff_getElem?]; simpa using hi) t (by
    rw [List.mem_append]
    rcases hn with e | e
    · exact .inl (by simp [e])
    · refine .inr ?_
      rw [List.mem_filterMap]
      exact ⟨.tmp t, by simpa using e, rfl⟩)
  have hw := bkt_mem ops.size (by omega) ops.toList.zipIdx (Array.replicate ops.size []) (by simp) (p, m) (by rw [List.mem_zipIdx_iff_getElem?]; simpa using hm) t hd
  have h2 := h1 (t, m) hw
  simp only [bne_self_eq_false, Bool.false_or, Bool.or_eq_true, beq_iff_eq] at h2
  rcases h2 with h2 | h2
  · exact absurd h2 hne
  · exact h2

theorem guards_one {ops : Array Oper} (h : guardsOk ops = true) {i m : Nat} {o p : Oper} {g : Nat} {b : Bool} {t : Tmp} (hi : ops[i]? = some o) (hg : o.guard = some (g, b)) (ht : (ops[g]?).bind (·.dst) = some t) (hm : ops[m]? = some p) (hd : p.dst = some t) : m = g := by
  unfold guardsOk at h
  rw [List.all_eq_true] at h
  have h1 := h o (by rw [Array.mem_toList_iff]; exact Array.mem_of_getElem? hi)
  rw [hg] at h1
  dsimp only at h1
  rw [List.all_eq_true] at h1
  have h2 := h1 (p, m) (by rw [List.mem_zipIdx_iff_getElem?]; simpa using hm)
  simp only [Bool.or_eq_true, beq_iff_eq, ht, hd, bne_self_eq_false, Bool.false_eq_true, or_false] at h2
  exact h2

/-! ### Places in memory -/

abbrev Loc := Nat × Option Nat
def val (H : Nat → Option Obj) : Loc → Shp ⊕ Option Value
  | (id, none) => .inl (shp (H id))
  | (id, some k) => .inr (cel (H id) k)
def Wr (L : List Touch) : Loc → Prop
  | (id, none) => allW L id
  | (id, some k) => allW L id ∨ celW L id k
def Tch (t : Touch) (x : Loc) : Prop := x = (t.id, none) ∨ ∃ k, x = (t.id, some k) ∧ (t.at_ = none ∨ t.at_ = some k)

theorem Upd.val {L : List Touch} {s s1 : St} (h : Upd L s s1) (x : Loc) (hx : ¬ Wr L x) : val s1.look x = val s.look x := by
  obtain ⟨id, k⟩ := x
  cases k with
  | none => exact congrArg Sum.inl (h id hx).1
  | some k =>
    have hx' := not_or.1 hx
    exact congrArg Sum.inr ((h id hx'.1).2 k hx'.2)
theorem Mrg.val {L : List Touch} {s1 s2 s3 : St} (h : Mrg L s1 s2 s3) (x : Loc) : (Wr L x → val s3.look x = val s1.look x) ∧ (¬ Wr L x → val s3.look x = val s2.look x) := by
  obtain ⟨id, k⟩ := x
  obtain ⟨ha, hb⟩ := h id
  cases k with
  | none => exact ⟨fun hw => by unfold Ev.val; dsimp only; rw [ha hw], fun hw => congrArg Sum.inl (hb hw).1⟩
  | some k =>
    refine ⟨fun hw => ?_, fun hw => ?_⟩
    · by_cases ha' : allW L id
      · unfold Ev.val; dsimp only; rw [ha ha']
      · exact congrArg Sum.inr (((hb ha').2 k).1 (hw.resolve_left ha'))
    · have hx' := not_or.1 hw
      exact congrArg Sum.inr (((hb hx'.1).2 k).2 hx'.2)
theorem look_of_val {H H' : Nat → Option Obj} (h : ∀ x, val H x = val H' x) : H = H' := by
  funext id
  exact obj_ext (Sum.inl.inj (h (id, none))) (fun k => Sum.inr.inj (h (id, some k)))
theorem agr_of_val {H H' : Nat → Option Obj} (t : Touch) (h : ∀ x, Tch t x → val H x = val H' x) : agr t (H t.id) (H' t.id) := by
  unfold agr
  split
  · rename_i hn
    exact obj_ext (Sum.inl.inj (h (t.id, none) (.inl rfl))) (fun k => Sum.inr.inj (h (t.id, some k) (.inr ⟨k, rfl, .inl hn⟩)))
  · rename_i k hk
    exact ⟨Sum.inl.inj (h (t.id, none) (.inl rfl)), Sum.inr.inj (h (t.id, some k) (.inr ⟨k, rfl, .inr hk⟩))⟩

theorem Wr.tch {L : List Touch} {x : Loc} (h : Wr L x) : ∃ t ∈ L, Tch t x := by
  obtain ⟨id, k⟩ := x
  cases k with
  | none =>
    obtain ⟨t, ht, e, _, _⟩ := h
    exact ⟨t, ht, .inl (by rw [e])⟩
  | some k =>
    rcases h with ⟨t, ht, e, _, hn⟩ | ⟨t, ht, e, _, hn⟩
    · exact ⟨t, ht, .inr ⟨k, by rw [e], .inl hn⟩⟩
    · exact ⟨t, ht, .inr ⟨k, by rw [e], .inr hn⟩⟩
theorem clash_symm (t u : Touch) : clash t u = clash u t := by
  unfold clash
  rw [Bool.beq_comm, Bool.or_comm]
  congr 1
  cases t.at_ with
  | none => cases u.at_ <;> rfl
  | some i =>
    cases u.at_ with
    | none => rfl
    | some j => exact Bool.beq_comm
theorem clashes_of {L M : List Touch} {t : Touch} {x : Loc} (ht : t ∈ L) (hx : Tch t x) (hw : Wr M x) : clashes L M = true ∧ clashes M L = true := by
  have key : ∃ u ∈ M, clash t u = true := by
    rcases hx with e | ⟨k, e, hk⟩
    · subst e
      obtain ⟨u, hu, e1, e2, e3⟩ := hw
      refine ⟨u, hu, ?_⟩
      unfold clash
      rw [e1, e2, e3]
      cases t.at_ <;> simp
    · subst e
      rcases hw with ⟨u, hu, e1, e2, e3⟩ | ⟨u, hu, e1, e2, e3⟩
      · refine ⟨u, hu, ?_⟩
        unfold clash
        rw [e1, e2, e3]
        cases t.at_ <;> simp
      · refine ⟨u, hu, ?_⟩
        unfold clash
        rw [e1, e2, e3]
        rcases hk with hk | hk <;> rw [hk] <;> simp
  obtain ⟨u, hu, hc⟩ := key
  constructor
  · exact List.any_eq_true.2 ⟨t, ht, List.any_eq_true.2 ⟨u, hu, hc⟩⟩
  · exact List.any_eq_true.2 ⟨u, hu, List.any_eq_true.2 ⟨t, ht, by rw [clash_symm]; exact hc⟩⟩
end Go.Ev
