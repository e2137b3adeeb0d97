/- The evaluator, part six: ranges, interfaces, lengths, copies. -/
import Derived.Test.YtjcibnfaijdgnaaEvE
namespace Go.Ev
open Go.RowKit
set_option linter.unusedVariables false
set_option linter.unusedSimpArgs false
set_option linter.unusedSectionVars false
variable [Sig]

theorem sim_newObj {P : Program} {base : Nat → Prop} {ι : Ren} {o o' : Obj} (ho : ORel P ι 0 o o') : Sim P base (fun κ id b => κ id = some b) ι (Go.newObj o) (Go.newObj o') := by
  unfold Go.newObj
  exact Sim.new ho (fun κ id b _ hb _ => Sim.pure hb)

theorem sim_range {P : Program} {base : Nat → Prop} {ι : Ren} {x x' : Value} (t : TypeId) (hx : VRel ι x x') : Sim P base VV ι (Instr.range t x) (Instr.range t x') := by
  unfold Instr.range
  refine Sim.bnd (sim_underlying t) (fun κ d d' hle hd => ?_)
  obtain ⟨rfl, h2⟩ := hd
  have hx2 := hx.mono hle
  have fin : ∀ (κ : Ren) (o o' : Obj), ORel P κ 0 o o' → Sim P base VV κ (do pure (Value.pointer (some ⟨← Go.newObj o, 0, none⟩))) (do pure (Value.pointer (some ⟨← Go.newObj o', 0, none⟩))) :=
    fun κ o o' ho => Sim.bnd (sim_newObj ho) (fun κ2 id b _ hb => Sim.ret (.ptr id 0 b hb))
  cases d' with
  | string =>
    cases hx2 with
    | string s => exact fin κ (.stringIter s 0) (.stringIter s 0) rfl
    | _ => exact Sim.halt
  | map kt et =>
    cases hx2 with
    | map0 => exact fin κ (.mapIter none 0 #[] 0) (.mapIter none 0 #[] 0) rfl
    | map id b hb =>
      dsimp only
      refine Sim.bnd (R := fun κ (o o' : Obj) => ORel P κ id o o') (Sim.getObj hb (fun o o' ho _ => Sim.pure ho)) (fun κ2 o o' hle2 ho => ?_)
      cases o with
      | map es n =>
        obtain ⟨es', rfl, he⟩ := ho
        exact fin κ2 (.mapIter (some id) n #[] n) (.mapIter (some b) n #[] n) ⟨b, hle2 _ _ hb, rfl⟩
      | _ => exact Sim.halt
    | _ => exact Sim.halt
  | _ => exact Sim.halt

theorem ERel.filter {ι : Ren} {es es' : Array MapEntry} (p : Nat → Bool) (h : ERel ι es es') : ERel ι (es.filter fun e => p e.born) (es'.filter fun e => p e.born) := by
  apply ELRel.arr
  rw [Array.toList_filter, Array.toList_filter]
  have hl := h.list
  generalize es.toList = l at hl
  generalize es'.toList = l' at hl
  clear h
  induction l generalizing l' with
  | nil =>
    have := hl.nil_right
    subst this
    exact ⟨rfl, fun i e e' h => by simp at h⟩
  | cons e l ih =>
    obtain ⟨e', l2, rfl⟩ := hl.cons_right
    have h0 := hl.2 0 e e' rfl rfl
    have ht := ih l2 hl.tail
    simp only [List.filter_cons]
    rw [← h0.2.2.1]
    split
    · refine ⟨by simp [ht.1], fun i x x' a b => ?_⟩
      match i with
      | 0 => simp at a b; subst a b; exact h0
      | i + 1 => exact ht.2 i x x' (by simpa using a) (by simpa using b)
    · exact ht
theorem ERel.all {ι : Ren} {es es' : Array MapEntry} (p : Nat → Bool) (h : ERel ι es es') : (es'.all fun e => p e.born) = (es.all fun e => p e.born) := by
  rw [← Array.all_toList, ← Array.all_toList]
  have hl := h.list
  generalize es.toList = l at hl
  generalize es'.toList = l' at hl
  clear h
  induction l generalizing l' with
  | nil =>
    have := hl.nil_right
    subst this
    rfl
  | cons e l ih =>
    obtain ⟨e', l2, rfl⟩ := hl.cons_right
    have h0 := hl.2 0 e e' rfl rfl
    simp only [List.all_cons, ih l2 hl.tail, h0.2.2.1]
theorem ERel.isEmpty {ι : Ren} {es es' : Array MapEntry} (h : ERel ι es es') : es'.isEmpty = es.isEmpty := by
  simp [Array.isEmpty, h.1]
theorem ERel.append {ι : Ren} {a a' b b' : Array MapEntry} (h : ERel ι a a') (k : ERel ι b b') : ERel ι (a ++ b) (a' ++ b') := by
  refine ⟨by simp [h.1, k.1], fun i e e' h1 h2 => ?_⟩
  rw [Array.getElem?_append] at h1 h2
  rw [h.1] at h1
  split at h1
  · rename_i c
    rw [if_pos c] at h2
    exact h.2 i e e' h1 h2
  · rename_i c
    rw [if_neg c] at h2
    exact k.2 _ e e' h1 h2

def CRel (ι : Ren) (a a' : Array (Option MapEntry)) : Prop :=
  a.size = a'.size ∧ ∀ (i : Nat) x x', a[i]? = some x → a'[i]? = some x' → (x = none ∧ x' = none) ∨ ∃ e e' : MapEntry, x = some e ∧ x' = some e' ∧ VRel ι e.key e'.key ∧ VRel ι e.val e'.val ∧ e.born = e'.born

theorem CRel.mk {ι : Ren} {o o' n n' : Array MapEntry} (ho : ERel ι o o') (hn : ERel ι n n') :
    CRel ι ((if o.isEmpty = true then #[none] else #[]) ++ (o ++ n).map some) ((if o'.isEmpty = true then #[none] else #[]) ++ (o' ++ n').map some) := by
  rw [ho.isEmpty]
  have ha := ho.append hn
  have hsz : (o ++ n).size = (o' ++ n').size := ha.1
  generalize o.isEmpty = b
  have hm : ∀ (i : Nat) x x', ((o ++ n).map some)[i]? = some x → ((o' ++ n').map some)[i]? = some x' → (x = none ∧ x' = none) ∨ ∃ e e' : MapEntry, x = some e ∧ x' = some e' ∧ VRel ι e.key e'.key ∧ VRel ι e.val e'.val ∧ e.born = e'.born := by
    intro i x x' h1 h2
    rw [Array.getElem?_map, Option.map_eq_some_iff] at h1 h2
    obtain ⟨e, e1, rfl⟩ := h1
    obtain ⟨e', e1', rfl⟩ := h2
    have hh := ha.2 _ e e' e1 e1'
    exact .inr ⟨e, e', rfl, rfl, hh.1, hh.2.1, hh.2.2.1⟩
  have hs2 : ((o ++ n).map some).size = ((o' ++ n').map some).size := by rw [Array.size_map, Array.size_map]; exact hsz
  generalize (o ++ n).map some = A at hm hs2 ⊢
  generalize (o' ++ n').map some = A' at hm hs2 ⊢
  cases b with
  | false =>
    simp only [Bool.false_eq_true, if_false, Array.empty_append]
    exact ⟨hs2, hm⟩
  | true =>
    simp only [if_true]
    refine ⟨by simp [hs2], fun i x x' h1 h2 => ?_⟩
    match i with
    | 0 =>
      rw [Array.getElem?_append_left (by simp)] at h1 h2
      cases h1
      cases h2
      exact .inl ⟨rfl, rfl⟩
    | i + 1 =>
      rw [Array.getElem?_append_right (by simp)] at h1 h2
      exact hm i x x' h1 h2

theorem tup1 {ι : Ren} {a a' : Value} (h : VRel ι a a') : VRel ι (.tuple #[a]) (.tuple #[a']) := by
  refine .tuple _ _ rfl (fun i x x' h1 h2 => ?_)
  match i with
  | 0 => simp at h1 h2; subst h1 h2; exact h
  | i + 1 => simp at h1
theorem tup2 {ι : Ren} {a a' b b' : Value} (h : VRel ι a a') (k : VRel ι b b') : VRel ι (.tuple #[a, b]) (.tuple #[a', b']) := by
  refine .tuple _ _ rfl (fun i x x' h1 h2 => ?_)
  match i with
  | 0 => simp at h1 h2; subst h1 h2; exact h
  | 1 => simp at h1 h2; subst h1 h2; exact k
  | i + 2 => simp at h1
theorem tup3 {ι : Ren} {a a' b b' c c' : Value} (h : VRel ι a a') (k : VRel ι b b') (l : VRel ι c c') : VRel ι (.tuple #[a, b, c]) (.tuple #[a', b', c']) := by
  refine .tuple _ _ rfl (fun i x x' h1 h2 => ?_)
  match i with
  | 0 => simp at h1 h2; subst h1 h2; exact h
  | 1 => simp at h1 h2; subst h1 h2; exact k
  | 2 => simp at h1 h2; subst h1 h2; exact l
  | i + 3 => simp at h1

theorem sim_next {P : Program} {base : Nat → Prop} {ι : Ren} {x x' : Value} (str : Bool) (ty : TypeId) (hx : VRel ι x x') : Sim P base VV ι (Instr.next x str ty) (Instr.next x' str ty) := by
  unfold Instr.next
  dsimp only
  cases hx with
  | ptr id off b hb =>
    cases off with
    | succ n => exact Sim.halt
    | zero =>
      refine Sim.bnd (R := fun κ (o o' : Obj) => ORel P κ id o o') (Sim.getObj hb (fun o o' ho _ => Sim.pure ho)) (fun κ2 o o' hle2 ho => ?_)
      cases o with
      | stringIter s pos =>
        cases ho
        cases str with
        | false => exact Sim.halt
        | true =>
          dsimp only
          split
          · unfold Go.setObj
            exact Sim.bnd (R := fun _ _ _ => True) (Sim.setObj (hle2 _ _ hb) rfl (by intro c e f h; cases h) (Sim.pure trivial)) (fun κ3 _ _ _ _ => Sim.ret (tup3 (.bool true) (.int _ _) (.int _ _)))
          · exact Sim.ret (tup1 (.bool false))
      | mapIter m since seen last =>
        cases str with
        | true =>
          cases m with
          | none => exact Sim.halt
          | some m => exact Sim.halt
        | false =>
          cases m with
          | none =>
            cases ho
            exact Sim.ret (tup1 (.bool false))
          | some m =>
            obtain ⟨m', hm, rfl⟩ := ho
            dsimp only
            refine Sim.bnd (R := fun κ (o o' : Obj) => ORel P κ m o o') (Sim.getObj hm (fun o o' ho _ => Sim.pure ho)) (fun κ3 o o' hle3 ho => ?_)
            cases o with
            | map es clock =>
              obtain ⟨es', rfl, he⟩ := ho
              dsimp only
              rw [he.isEmpty, he.all (fun n => decide (n ≥ last))]
              split
              · exact Sim.halt
              · have hl := he.filter (fun n => !seen.contains n)
                have ho := hl.filter (fun n => decide (n < since))
                have hn := hl.filter (fun n => decide (n ≥ since))
                have hc := CRel.mk ho hn
                unfold Go.choose
                refine Sim.bnd (R := fun _ n n' => n = 0 ∧ n' = 0) (Sim.choose (by simp only [Question.forced]; rw [hc.1]; exact fun h => h) (Sim.pure ⟨rfl, rfl⟩)) (fun κ4 n n' hle4 hnn => ?_)
                obtain ⟨rfl, rfl⟩ := hnn
                generalize ((if (Array.filter (fun x => decide (x.born < since)) (Array.filter (fun e => !seen.contains e.born) es)).isEmpty = true then #[none] else #[]) ++ Array.map some (Array.filter (fun x => decide (x.born < since)) (Array.filter (fun e => !seen.contains e.born) es) ++ Array.filter (fun x => decide (x.born ≥ since)) (Array.filter (fun e => !seen.contains e.born) es))) = ca at hc ⊢
                generalize ((if (Array.filter (fun x => decide (x.born < since)) (Array.filter (fun e => !seen.contains e.born) es')).isEmpty = true then #[none] else #[]) ++ Array.map some (Array.filter (fun x => decide (x.born < since)) (Array.filter (fun e => !seen.contains e.born) es') ++ Array.filter (fun x => decide (x.born ≥ since)) (Array.filter (fun e => !seen.contains e.born) es'))) = ca' at hc ⊢
                by_cases hlt : 0 < ca.size
                · have hlt' : 0 < ca'.size := by rw [← hc.1]; exact hlt
                  have e1 : ca[0]? = some ca[0] := Array.getElem?_eq_getElem hlt
                  have e2 : ca'[0]? = some ca'[0] := Array.getElem?_eq_getElem hlt'
                  rcases hc.2 0 _ _ e1 e2 with ⟨h1, h2⟩ | ⟨e, e', h1, h2, k1, k2, k3⟩
                  · rw [e1, e2, h1, h2]
                    exact Sim.ret (tup1 (.bool false))
                  · rw [e1, e2, h1, h2]
                    dsimp only
                    unfold Go.setObj
                    rw [← k3]
                    refine Sim.bnd (R := fun _ _ _ => True) (Sim.setObj (hle4 _ _ (hle3 _ _ (hle2 _ _ hb))) ⟨m', hle4 _ _ (hle3 _ _ hm), rfl⟩ (by intro c e f h; cases h) (Sim.pure trivial)) (fun κ5 _ _ hle5 _ => ?_)
                    exact Sim.ret (tup3 (.bool true) ((k1.mono hle4).mono hle5) ((k2.mono hle4).mono hle5))
                · have hlt' : ¬ 0 < ca'.size := by rw [← hc.1]; exact hlt
                  rw [Array.getElem?_eq_none (Nat.le_of_not_lt hlt)]
                  exact Sim.halt
            | _ => exact Sim.halt
      | _ => cases str <;> exact Sim.halt
  | _ => exact Sim.halt

theorem find_born {ι : Ren} {es es' : Array MapEntry} (h : ERel ι es es') (st : Nat) :
    (es.find? (fun e => e.born == st) = none ∧ es'.find? (fun e => e.born == st) = none) ∨ ∃ e e', es.find? (fun e => e.born == st) = some e ∧ es'.find? (fun e => e.born == st) = some e' ∧ VRel ι e.key e'.key ∧ VRel ι e.val e'.val := by
  rw [← Array.find?_toList, ← Array.find?_toList]
  have hl := h.list
  generalize es.toList = l at hl
  generalize es'.toList = l' at hl
  clear h
  induction l generalizing l' with
  | nil =>
    have := hl.nil_right
    subst this
    exact .inl ⟨rfl, rfl⟩
  | cons e l ih =>
    obtain ⟨e', l2, rfl⟩ := hl.cons_right
    have h0 := hl.2 0 e e' rfl rfl
    simp only [List.find?_cons]
    rw [← h0.2.2.1]
    split
    · exact .inr ⟨e, e', rfl, rfl, h0.1, h0.2.1⟩
    · exact ih l2 hl.tail

theorem sim_entry {P : Program} {base : Nat → Prop} {ι : Ren} {x x' : Value} (hx : VRel ι x x') : Sim P base VV ι (Instr.entry x) (Instr.entry x') := by
  unfold Instr.entry
  cases hx with
  | ptr id off b hb =>
    cases off with
    | succ n => exact Sim.halt
    | zero =>
      refine Sim.bnd (R := fun κ (o o' : Obj) => ORel P κ id o o') (Sim.getObj hb (fun o o' ho _ => Sim.pure ho)) (fun κ2 o o' hle2 ho => ?_)
      cases o with
      | mapIter m since seen last =>
        cases m with
        | none => exact Sim.halt
        | some m =>
          obtain ⟨m', hm, rfl⟩ := ho
          dsimp only
          cases hs : seen.back? with
          | none => exact Sim.halt
          | some st =>
            dsimp only
            refine Sim.bnd (R := fun κ (o o' : Obj) => ORel P κ m o o') (Sim.getObj hm (fun o o' ho _ => Sim.pure ho)) (fun κ3 o o' hle3 ho => ?_)
            cases o with
            | map es clock =>
              obtain ⟨es', rfl, he⟩ := ho
              dsimp only
              split
              · exact Sim.halt
              · rcases find_born he st with ⟨h1, h2⟩ | ⟨e, e', h1, h2, k1, k2⟩
                · rw [h1]; exact Sim.halt
                · rw [h1, h2]; exact Sim.ret (tup2 k1 k2)
            | _ => exact Sim.halt
      | _ => exact Sim.halt
  | _ => exact Sim.halt

/-! ### Interfaces -/
theorem arun_bind_none {α β : Type} {P : Program} (m : Sem α) (f : α → Sem β) (h : ∀ a s, arun P (f a) s = none) (s : St) : arun P (m >>= f) s = none := by
  show arun P (m.bind f) s = none
  rw [arun_bind]
  cases arun P m s with
  | none => rfl
  | some x => exact h _ _
theorem arun_panic {α : Type} {P : Program} (e : RuntimeError) (s : St) : arun P (Go.runtimePanic e : Sem α) s = none := by
  unfold Go.runtimePanic
  refine arun_bind_none _ _ (fun p s => ?_) s
  dsimp only
  cases e with
  | typeAssertion i c a m => exact arun_bind_none _ _ (fun x s => arun_bind_none _ _ (fun y s => rfl) s) s
  | panicNil => exact arun_bind_none _ _ (fun x s => arun_bind_none _ _ (fun y s => rfl) s) s
  | _ => rfl
theorem Sim.panics {α β : Type} {P : Program} {base : Nat → Prop} {R : Ren → α → β → Prop} {ι : Ren} {e : RuntimeError} {m' : Sem β} : Sim P base R ι (Go.runtimePanic e : Sem α) m' := by
  intro s w a s1 hr ha
  rw [arun_panic] at ha
  cases ha

theorem sim_typeAssert {P : Program} {base : Nat → Prop} {ι : Ren} {x x' : Value} (xt as : TypeId) (ok : Bool) (hz : ok = true → zOk P as = true) (hx : VRel ι x x') : Sim P base VV ι (Instr.typeAssert x xt as ok) (Instr.typeAssert x' xt as ok) := by
  unfold Instr.typeAssert
  dsimp only
  refine Sim.bnd (sim_underlying as) (fun κ d d' hle hd => ?_)
  obtain ⟨rfl, h2⟩ := hd
  have hx2 := hx.mono hle
  have holds : ∀ (κ : Ren) (v v' : Value), VRel κ v v' → Sim P base VV κ (pure (if ok = true then .tuple #[v, .bool true] else v)) (pure (if ok = true then .tuple #[v', .bool true] else v')) := by
    intro κ v v' hv
    refine Sim.ret ?_
    show VRel κ (if ok = true then _ else _) (if ok = true then _ else _)
    cases ok
    · exact hv
    · exact tup2 hv (.bool true)
  have fails : ∀ (κ : Ren) (a b : Option TypeId) (m : String), Sim P base VV κ
      (if ok = true then do let z ← Go.zeroValue as; pure (.tuple #[z, .bool false]) else Go.runtimePanic (.typeAssertion a b as m))
      (if ok = true then do let z ← Go.zeroValue as; pure (.tuple #[z, .bool false]) else Go.runtimePanic (.typeAssertion a b as m)) := by
    intro κ a b m
    by_cases h : ok = true
    · rw [if_pos h]
      exact Sim.bnd (sim_zeroValue as (hz h)) (fun κ2 v v' _ hv => Sim.ret (by rw [hv.1]; exact tup2 hv.2 (.bool false)))
    · rw [if_neg h]
      exact Sim.panics
  cases hx2 with
  | nilIface => cases d' <;> exact fails _ _ _ _
  | iface t v v' hv =>
    have conc : Sim P base VV κ
        (if t = as then pure (if ok = true then .tuple #[v, .bool true] else v) else (if ok = true then do let z ← Go.zeroValue as; pure (.tuple #[z, .bool false]) else Go.runtimePanic (.typeAssertion (some xt) (some t) as "")))
        (if t = as then pure (if ok = true then .tuple #[v', .bool true] else v') else (if ok = true then do let z ← Go.zeroValue as; pure (.tuple #[z, .bool false]) else Go.runtimePanic (.typeAssertion (some xt) (some t) as ""))) := by
      by_cases e : t = as
      · rw [if_pos e, if_pos e]; exact holds κ v v' hv
      · rw [if_neg e, if_neg e]; exact fails _ _ _ _
    cases d' with
    | interface want =>
      dsimp only
      refine Sim.bnd (sim_typeInfo t) (fun κ2 i i' hle2 hi => ?_)
      rw [hi.1]
      cases Instr.missingMethod want i.methods with
      | none => exact holds κ2 _ _ (.iface t v v' (hv.mono hle2))
      | some m => exact fails _ _ _ _
    | _ => exact conc
  | _ => cases d' <;> exact Sim.halt

/-! ### Lengths, copies, rows -/
theorem sim_lenOf {P : Program} {base : Nat → Prop} {ι : Ren} {x x' : Value} (hx : VRel ι x x') : Sim P base (fun _ n n' => n' = n) ι (Builtin.lenOf x) (Builtin.lenOf x') := by
  cases hx <;> first | exact Sim.ret rfl | exact Sim.halt
theorem sim_firstCells {P : Program} {base : Nat → Prop} {ι : Ren} {x x' : Value} (sz n : Nat) (hx : VRel ι x x') : Sim P base ARel ι (Builtin.firstCells sz n x) (Builtin.firstCells sz n x') := by
  cases hx with
  | slice0 => exact Sim.ret (ARel.empty ι)
  | slice id off b m c c' h h0 h1 h2 h3 => exact sim_loadCellsFrom _ 0 ι _ _ h (ARel.empty ι)
  | sliceE id off b h h0 => exact sim_loadCellsFrom _ 0 ι _ _ h (ARel.empty ι)
  | string s =>
    refine Sim.ret (ARel.of_flat (fun i v h => ?_))
    rw [Array.getElem?_map, Option.map_eq_some_iff] at h
    obtain ⟨c, _, rfl⟩ := h
    exact .int _ _
  | _ => exact Sim.halt
theorem sim_copy {P : Program} {base : Nat → Prop} {ι : Ren} {d d' x x' : Value} (t u ty : TypeId) (hd : VRel ι d d') (hx : VRel ι x x') : Sim P base VV ι (Builtin.copy_ #[t, u] ty #[d, x]) (Builtin.copy_ #[t, u] ty #[d', x']) := by
  unfold Builtin.copy_
  simp only [List.getElem?_toArray, List.getElem?_cons_zero, List.getElem?_cons_succ]
  refine Sim.bnd (sim_underlying t) (fun κ a a' hle ha => ?_)
  obtain ⟨rfl, h2⟩ := ha
  cases a' with
  | slice elem =>
    dsimp only
    have main : ∀ (ba ba' : Option Addr) (n : Nat), (ba = none ∧ ba' = none ∨ ∃ id off b, ba = some ⟨id, off, none⟩ ∧ ba' = some ⟨b, off, none⟩ ∧ κ id = some b) → Sim P base VV κ
        (do let l ← Builtin.lenOf x
            let sz ← Go.sizeOf elem
            let cells ← Builtin.firstCells sz (Nat.min l n) x
            (match ba with | some a => (do Go.storeCells a cells.toList; pure (goInt ↑(Nat.min l n)) : Sem Value) | _ => pure (goInt ↑(Nat.min l n))))
        (do let l ← Builtin.lenOf x'
            let sz ← Go.sizeOf elem
            let cells ← Builtin.firstCells sz (Nat.min l n) x'
            (match ba' with | some a => (do Go.storeCells a cells.toList; pure (goInt ↑(Nat.min l n)) : Sem Value) | _ => pure (goInt ↑(Nat.min l n)))) := by
      intro ba ba' n hb
      refine Sim.bnd (sim_lenOf (hx.mono hle)) (fun κ2 l l' hle2 hl => ?_)
      rw [hl]
      refine Sim.bnd (sim_sizeOf elem) (fun κ3 sz sz' hle3 hs => ?_)
      rw [hs]
      refine Sim.bnd (sim_firstCells sz _ (((hx.mono hle).mono hle2).mono hle3)) (fun κ4 c c' hle4 hc => ?_)
      rcases hb with ⟨rfl, rfl⟩ | ⟨id, off, b, rfl, rfl, hb⟩
      · exact Sim.ret (.int _ _)
      · exact Sim.bnd (sim_storeCells _ _ 0 κ4 (hle4 _ _ (hle3 _ _ (hle2 _ _ hb))) hc.list) (fun κ5 _ _ _ _ => Sim.ret (.int _ _))
    have hd2 := hd.mono hle
    cases hd2 with
    | slice0 => exact main none none 0 (.inl ⟨rfl, rfl⟩)
    | slice id off b m c c' h h0 h1 h2 h3 => exact main _ _ m (.inr ⟨id, off, b, rfl, rfl, h⟩)
    | sliceE id off b h h0 => exact main _ _ 0 (.inr ⟨id, off, b, rfl, rfl, h⟩)
    | _ => exact Sim.halt
  | _ => exact Sim.halt
end Go.Ev
