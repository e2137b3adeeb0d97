/- The evaluator, part two: operations. -/
import Derived.Test.YtjcibnfaijdgnaaEvA
namespace Go.Ev
open Go.RowKit
set_option linter.unusedVariables false
set_option linter.unusedSimpArgs false
set_option linter.unusedSectionVars false
variable [Sig]

/-- Values without addresses. -/
def flatN : Nat → Value → Bool
  | _, .bool _ | _, .int _ _ | _, .float _ _ | _, .string _ | _, .pointer none | _, .slice none 0 0 | _, .map none | _, .nilFunc | _, .nilIface => true
  | n + 1, .iface _ v => flatN n v
  | n + 1, .agg vs => vs.toList.all (flatN n)
  | n + 1, .tuple vs => vs.toList.all (flatN n)
  | n + 1, .func (.func _) f c => f.isEmpty && c.isEmpty
  | _, _ => false

theorem flat_refl (ι : Ren) : ∀ (n : Nat) (v : Value), flatN n v = true → VRel ι v v := by
  intro n
  induction n with
  | zero =>
    intro v h
    cases v with
    | bool b => exact .bool b
    | int k n => exact .int k n
    | float k b => exact .float k b
    | string s => exact .string s
    | complex k a b => simp [flatN] at h
    | pointer a => cases a with | none => exact .ptr0 | some a => simp [flatN] at h
    | slice a n c =>
      cases a with
      | none =>
        match n, c with
        | 0, 0 => exact .slice0
        | 0, c + 1 => simp [flatN] at h
        | n + 1, c => simp [flatN] at h
      | some a => simp [flatN] at h
    | map r => cases r with | none => exact .map0 | some r => simp [flatN] at h
    | nilFunc => exact .nilFunc
    | nilIface => exact .nilIface
    | _ => simp [flatN] at h
  | succ n ih =>
    intro v h
    cases v with
    | bool b => exact .bool b
    | int k n => exact .int k n
    | float k b => exact .float k b
    | string s => exact .string s
    | complex k a b => simp [flatN] at h
    | pointer a => cases a with | none => exact .ptr0 | some a => simp [flatN] at h
    | slice a n c =>
      cases a with
      | none =>
        match n, c with
        | 0, 0 => exact .slice0
        | 0, c + 1 => simp [flatN] at h
        | n + 1, c => simp [flatN] at h
      | some a => simp [flatN] at h
    | map r => cases r with | none => exact .map0 | some r => simp [flatN] at h
    | nilFunc => exact .nilFunc
    | nilIface => exact .nilIface
    | iface t v => exact .iface t v v (ih v h)
    | agg vs =>
      refine .agg vs vs rfl (fun i v v' h1 h2 => ?_)
      rw [h1] at h2
      cases h2
      simp only [flatN, List.all_eq_true] at h
      exact ih v (h v (by rw [Array.mem_toList_iff]; exact Array.mem_of_getElem? h1))
    | tuple vs =>
      refine .tuple vs vs rfl (fun i v v' h1 h2 => ?_)
      rw [h1] at h2
      cases h2
      simp only [flatN, List.all_eq_true] at h
      exact ih v (h v (by rw [Array.mem_toList_iff]; exact Array.mem_of_getElem? h1))
    | func fn f c =>
      cases fn with
      | func g =>
        simp only [flatN, Bool.and_eq_true, Array.isEmpty_iff] at h
        obtain ⟨rfl, rfl⟩ := h
        exact .func _ _ _ _ _ (by intro l e; cases e) rfl rfl (by intro i v v' h; simp at h) (by intro i v v' h; simp at h)
      | _ => simp [flatN] at h
    | chan r => simp [flatN] at h

theorem arr_eq {f f' : Array Value} (hf : f.size = f'.size) (h : ∀ (i : Nat) (v v' : Value), f[i]? = some v → f'[i]? = some v' → v = v') : f = f' := by
  apply Array.ext hf
  intro i h1 h2
  exact h i _ _ (Array.getElem?_eq_getElem h1) (Array.getElem?_eq_getElem h2)

theorem flat_eq {ι : Ren} : ∀ (n : Nat) (v v' : Value), flatN n v = true → VRel ι v v' → v' = v := by
  intro n
  induction n with
  | zero =>
    intro v v' h r
    cases r <;> first | rfl | simp [flatN] at h
  | succ n ih =>
    intro v v' h r
    cases r with
    | iface t v v' r => rw [ih v v' h r]
    | agg f f' hf hr =>
      simp only [flatN, List.all_eq_true] at h
      rw [arr_eq hf.symm (fun i a b h1 h2 => ih b a (h b (by rw [Array.mem_toList_iff]; exact Array.mem_of_getElem? h2)) (hr i b a h2 h1))]
    | tuple f f' hf hr =>
      simp only [flatN, List.all_eq_true] at h
      rw [arr_eq hf.symm (fun i a b h1 h2 => ih b a (h b (by rw [Array.mem_toList_iff]; exact Array.mem_of_getElem? h2)) (hr i b a h2 h1))]
    | func fn f f' c c' hy hf hc h1 h2 =>
      cases fn with
      | func g =>
        simp only [flatN, Bool.and_eq_true, Array.isEmpty_iff] at h
        obtain ⟨rfl, rfl⟩ := h
        have e1 : f' = #[] := Array.eq_empty_of_size_eq_zero hf.symm
        have e2 : c' = #[] := Array.eq_empty_of_size_eq_zero hc.symm
        rw [e1, e2]
      | _ => simp [flatN] at h
    | _ => first | rfl | simp [flatN] at h

/-- A step that touches no memory. -/
def qrun {α : Type} (P : Program) : Sem α → Option α
  | .pure a => some a
  | .choose q k => if q.forced then qrun P (k 0) else none
  | .program k => qrun P (k P)
  | .mark _ k => qrun P k
  | _ => none

theorem qrun_run {α : Type} {P : Program} (m : Sem α) : ∀ a, qrun P m = some a → ∀ w, m.run P w = .ok a w := by
  induction m with
  | pure a => intro b h w; cases h; rfl
  | choose q k ih =>
    intro b h w
    simp only [qrun] at h
    split at h
    · rename_i hf
      simp only [Sem.run, hf, if_true]
      exact ih 0 b h w
    · cases h
  | program k ih => intro b h w; exact ih P b h w
  | mark m k ih => intro b h w; exact ih b h w
  | _ => intro b h w; cases h

def NRel (P : Program) (ι : Ren) : Next → Next → Prop
  | .value v, .value v' => VRel ι v v'
  | .skip, .skip => True
  | .enter f args, .enter f' args' => f = f' ∧ ARel ι args args'
  | .round l _ tmps assign body, .round l' _ tmps' assign' body' => ι l = some l' ∧ ARel ι tmps tmps' ∧ assign = assign' ∧ body = body' ∧ CodeOK P assign ∧ CodeOK P body
  | _, _ => False

/-- Marks of loops over functions, among the deferred calls. -/
inductive DRel (ι : Ren) : List Deferred → List Deferred → Prop
  | nil : DRel ι [] []
  | cons (r r' : Nat) (l l' : List Deferred) (h : ι r = some r') (t : DRel ι l l') : DRel ι ({ target := .collected r, args := #[] } :: l) ({ target := .collected r', args := #[] } :: l')
theorem DRel.mono {ι κ : Ren} (hk : RLe ι κ) {l l' : List Deferred} (h : DRel ι l l') : DRel κ l l' := by
  induction h with
  | nil => exact .nil
  | cons r r' l l' h t ih => exact .cons r r' l l' (hk _ _ h) ih
theorem DRel.append {ι : Ren} {l l' m m' : List Deferred} (h : DRel ι l l') (k : DRel ι m m') : DRel ι (l ++ m) (l' ++ m') := by
  induction h with
  | nil => exact k
  | cons r r' l l' h t ih => exact .cons r r' _ _ h ih
structure ActRel (ι : Ren) (a A : Act) : Prop where
  tmps : ARel ι a.tmps A.tmps
  dfs : DRel ι a.defers A.defers

theorem undef_rel (ι : Ren) : VRel ι undef undef := .tuple _ _ rfl (by intro i v v' h; simp at h)

/-- Operands that may be looked at. -/
def opdOk : Operand → Bool
  | .tmp _ => true
  | .const v => flatN 5 v
  | .global _ => false
  | .func _ => true

theorem eval_rel {ι : Ren} {a A : Act} (h : ActRel ι a A) (x : Operand) (hx : opdOk x = true) : VRel ι (a.eval x) (A.eval x) := by
  cases x with
  | tmp t =>
    show VRel ι (a.tmps.getD t undef) (A.tmps.getD t undef)
    by_cases hlt : t < a.tmps.size
    · have h2 : t < A.tmps.size := by rw [← h.tmps.1]; exact hlt
      rw [Array.getD_eq_getD_getElem?, Array.getD_eq_getD_getElem?, Array.getElem?_eq_getElem hlt, Array.getElem?_eq_getElem h2]
      exact h.tmps.2 t _ _ (Array.getElem?_eq_getElem hlt) (Array.getElem?_eq_getElem h2)
    · have h2 : ¬ t < A.tmps.size := by rw [← h.tmps.1]; exact hlt
      rw [Array.getD_eq_getD_getElem?, Array.getD_eq_getD_getElem?, Array.getElem?_eq_none (Nat.le_of_not_lt hlt), Array.getElem?_eq_none (Nat.le_of_not_lt h2)]
      exact undef_rel ι
  | const v => exact flat_refl ι 5 v hx
  | global g => cases hx
  | func f => exact .func _ _ _ _ _ (by intro l e; cases e) rfl rfl (by intro i v v' h; simp at h) (by intro i v v' h; simp at h)

theorem Sim.bnd {α β γ δ : Type} {P : Program} {base : Nat → Prop} {R : Ren → α → β → Prop} {R' : Ren → γ → δ → Prop} {ι : Ren} {m : Sem α} {m' : Sem β} {f : α → Sem γ} {f' : β → Sem δ}
    (h : Sim P base R ι m m') (hf : ∀ κ a b, RLe ι κ → R κ a b → Sim P base R' κ (f a) (f' b)) : Sim P base R' ι (m >>= f) (m' >>= f') := Sim.bind h hf
theorem Sim.ret {α β : Type} {P : Program} {base : Nat → Prop} {R : Ren → α → β → Prop} {ι : Ren} {a : α} {b : β} (h : R ι a b) : Sim P base R ι (Pure.pure a) (Pure.pure b) := Sim.pure h
theorem Sim.stuck {α β : Type} {P : Program} {base : Nat → Prop} {R : Ren → α → β → Prop} {ι : Ren} {s : String} {m' : Sem β} : Sim P base R ι (Go.stuck s : Sem α) m' := Sim.halt
theorem Sim.mono {α β : Type} {P : Program} {base : Nat → Prop} {R R' : Ren → α → β → Prop} {ι : Ren} {m : Sem α} {m' : Sem β} (h : Sim P base R ι m m') (hr : ∀ κ a b, R κ a b → R' κ a b) : Sim P base R' ι m m' := by
  intro s w a s1 x y z
  obtain ⟨κ, b, w1, r1, p1, e1, q1, k1⟩ := h s w a s1 x y z
  exact ⟨κ, b, w1, r1, p1, e1, hr _ _ _ q1, k1⟩

theorem sim_underlying {P : Program} {base : Nat → Prop} {ι : Ren} (t : TypeId) : Sim P base (fun _ d d' => d' = d ∧ P.underlying t = some d) ι (Go.underlying t) (Go.underlying t) := by
  unfold Go.underlying
  refine Sim.program ?_
  show Sim P base _ ι (match P.underlying t with | some d => Pure.pure d | none => Go.stuck "no such type") (match P.underlying t with | some d => Pure.pure d | none => Go.stuck "no such type")
  cases h : P.underlying t with
  | none => exact Sim.halt
  | some d => exact Sim.ret ⟨rfl, rfl⟩
theorem sim_typeInfo {P : Program} {base : Nat → Prop} {ι : Ren} (t : TypeId) : Sim P base (fun _ d d' => d' = d ∧ P.info? t = some d) ι (Go.typeInfo t) (Go.typeInfo t) := by
  unfold Go.typeInfo
  refine Sim.program ?_
  show Sim P base _ ι (match P.info? t with | some d => Pure.pure d | none => Go.stuck "no such type") (match P.info? t with | some d => Pure.pure d | none => Go.stuck "no such type")
  cases h : P.info? t with
  | none => exact Sim.halt
  | some d => exact Sim.ret ⟨rfl, rfl⟩
theorem sim_sizeOf {P : Program} {base : Nat → Prop} {ι : Ren} (t : TypeId) : Sim P base (fun _ d d' => d' = d) ι (Go.sizeOf t) (Go.sizeOf t) := by
  unfold Go.sizeOf
  exact Sim.bnd (sim_typeInfo t) (fun κ a b _ h => Sim.ret (by rw [h.1]))
theorem sim_isAgg {P : Program} {base : Nat → Prop} {ι : Ren} (t : TypeId) : Sim P base (fun _ d d' => d' = d) ι (Go.isAgg t) (Go.isAgg t) := by
  unfold Go.isAgg
  refine Sim.bnd (sim_underlying t) (fun κ a b _ h => ?_)
  rw [h.1]
  split <;> exact Sim.ret rfl
/-- The zero value of a type is flat. -/
def zOk (P : Program) (t : TypeId) : Bool :=
  match P.info? t with
  | some i => (match i.zero with | some v => flatN 6 v | none => true)
  | none => true
theorem sim_zeroValue {P : Program} {base : Nat → Prop} {ι : Ren} (t : TypeId) (hz : zOk P t = true) : Sim P base (fun κ d d' => d' = d ∧ VRel κ d d) ι (Go.zeroValue t) (Go.zeroValue t) := by
  unfold Go.zeroValue
  refine Sim.bnd (sim_typeInfo t) (fun κ a b _ h => ?_)
  obtain ⟨rfl, h2⟩ := h
  unfold zOk at hz
  cases hv : b.zero with
  | none => exact Sim.halt
  | some v =>
    simp only [h2, hv] at hz
    exact Sim.ret ⟨rfl, flat_refl _ 6 v hz⟩

/-! ### Memory -/
theorem Addr.add_mk (b off n : Nat) : (⟨b, off, none⟩ : Addr).add n = ⟨b, off + n, none⟩ := by
  unfold Addr.add
  split
  · subst_vars; rfl
  · rfl

theorem sim_load {P : Program} {base : Nat → Prop} {ι : Ren} {id off b : Nat} (hb : ι id = some b) : Sim P base (fun κ v v' => VRel κ v v') ι (Go.load ⟨id, off, none⟩) (Go.load ⟨b, off, none⟩) :=
  Sim.load hb (fun v v' h => Sim.pure h)

theorem ARel.push {ι : Ren} {f f' : Array Value} {v v' : Value} (h : ARel ι f f') (hv : VRel ι v v') : ARel ι (f.push v) (f'.push v') := by
  refine ⟨by simp [h.1], fun i x x' h1 h2 => ?_⟩
  rw [Array.getElem?_push] at h1 h2
  rw [h.1] at h1
  by_cases e : i = f'.size
  · rw [if_pos e] at h1 h2; cases h1; cases h2; exact hv
  · rw [if_neg e] at h1 h2; exact h.2 i x x' h1 h2
theorem ARel.empty (ι : Ren) : ARel ι #[] #[] := ⟨rfl, fun i v v' h => by simp at h⟩

theorem sim_loadCellsFrom {P : Program} {base : Nat → Prop} {id off b : Nat} : ∀ (n i : Nat) (ι : Ren) (acc acc' : Array Value), ι id = some b → ARel ι acc acc' →
    Sim P base (fun κ v v' => ARel κ v v') ι (Go.loadCellsFrom ⟨id, off, none⟩ i n acc) (Go.loadCellsFrom ⟨b, off, none⟩ i n acc') := by
  intro n
  induction n with
  | zero => intro i ι acc acc' hb ha; exact Sim.ret ha
  | succ n ih =>
    intro i ι acc acc' hb ha
    simp only [Go.loadCellsFrom, Addr.add_mk]
    exact Sim.bnd (sim_load hb) (fun κ v v' hle hv => ih (i + 1) κ _ _ (hle _ _ hb) ((ha.mono hle).push hv))

theorem sim_loadVar {P : Program} {base : Nat → Prop} {ι : Ren} {id off b : Nat} (t : TypeId) (hb : ι id = some b) : Sim P base (fun κ v v' => VRel κ v v') ι (Go.loadVar t ⟨id, off, none⟩) (Go.loadVar t ⟨b, off, none⟩) := by
  unfold Go.loadVar
  refine Sim.bnd (sim_isAgg t) (fun κ x y hle hx => ?_)
  rw [hx]
  split
  · refine Sim.bnd (sim_sizeOf t) (fun κ2 n n' hle2 hn => ?_)
    rw [hn]
    exact Sim.bnd (sim_loadCellsFrom n 0 κ2 #[] #[] (hle2 _ _ (hle _ _ hb)) (ARel.empty κ2)) (fun κ3 v v' _ hv => Sim.ret (.agg v v' hv.1 hv.2))
  · exact sim_load (hle _ _ hb)

def LRel (ι : Ren) (l l' : List Value) : Prop := l.length = l'.length ∧ ∀ (i : Nat) (v v' : Value), l[i]? = some v → l'[i]? = some v' → VRel ι v v'
theorem LRel.mono {ι κ : Ren} (hk : RLe ι κ) {f f' : List Value} (h : LRel ι f f') : LRel κ f f' := ⟨h.1, fun i v v' a b => (h.2 i v v' a b).mono hk⟩
theorem ARel.list {ι : Ren} {f f' : Array Value} (h : ARel ι f f') : LRel ι f.toList f'.toList := ⟨by simpa using h.1, fun i v v' h1 h2 => h.2 i v v' (by simpa using h1) (by simpa using h2)⟩

theorem sim_storeCells {P : Program} {base : Nat → Prop} {id off b : Nat} : ∀ (l l' : List Value) (i : Nat) (ι : Ren), ι id = some b → LRel ι l l' →
    Sim P base (fun κ _ _ => True) ι (Go.storeCells ⟨id, off, none⟩ l i) (Go.storeCells ⟨b, off, none⟩ l' i) := by
  intro l
  induction l with
  | nil =>
    intro l' i ι hb h
    have : l' = [] := List.eq_nil_of_length_eq_zero h.1.symm
    subst this
    exact Sim.ret trivial
  | cons v l ih =>
    intro l' i ι hb h
    cases l' with
    | nil => simp [LRel] at h
    | cons v' l' =>
      simp only [Go.storeCells, Addr.add_mk]
      refine Sim.bnd (R := fun _ _ _ => True) (Sim.store hb (h.2 0 v v' rfl rfl) (Sim.pure trivial)) (fun κ _ _ hle _ => ?_)
      exact ih l' (i + 1) κ (hle _ _ hb) ⟨by simpa using h.1, fun j x x' h1 h2 => (h.2 (j + 1) x x' h1 h2).mono hle⟩

theorem cells_rel {ι : Ren} {v v' : Value} (h : VRel ι v v') : ARel ι v.cells v'.cells := by
  have one : ∀ {x x' : Value}, VRel ι x x' → ARel ι #[x] #[x'] := by
    intro x x' hx
    refine ⟨rfl, fun i y y' h1 h2 => ?_⟩
    match i with
    | 0 => simp at h1 h2; subst h1; subst h2; exact hx
    | i + 1 => simp at h1
  cases h with
  | agg f f' hf hr => exact ⟨hf, hr⟩
  | bool b => exact one (.bool b)
  | int k n => exact one (.int k n)
  | float k n => exact one (.float k n)
  | sym n m _ h =>
    have hl := Sig.leaf n
    rw [h] at hl
    have hc : v'.cells = #[v'] := by cases v' <;> first | rfl | cases hl
    rw [hc]
    exact one (.sym n m v' h)
  | dyn id c _ h h' =>
    have hl := dec_leaf c
    rw [h'] at hl
    have hc : v'.cells = #[v'] := by cases v' <;> first | rfl | cases hl
    rw [hc]
    exact one (.dyn id c v' h h')
  | junk n v' h =>
    have hc : v'.cells = #[v'] := by cases v' <;> first | rfl | cases h
    rw [hc]
    exact one (.junk n v' h)
  | string s => exact one (.string s)
  | ptr0 => exact one .ptr0
  | ptr id off b h => exact one (.ptr id off b h)
  | slice0 => exact one .slice0
  | slice id off b n c c' h h0 h1 h2 h3 => exact one (.slice id off b n c c' h h0 h1 h2 h3)
  | sliceE id off b h h0 => exact one (.sliceE id off b h h0)
  | map0 => exact one .map0
  | map id b h => exact one (.map id b h)
  | func fn f f' c c' hy hf hc h h' => exact one (.func fn f f' c c' hy hf hc h h')
  | yield id b h => exact one (.yield id b h)
  | nilFunc => exact one .nilFunc
  | iface t v v' h => exact one (.iface t v v' h)
  | nilIface => exact one .nilIface
  | tuple f f' hf h => exact one (.tuple f f' hf h)

theorem sim_storeVar {P : Program} {base : Nat → Prop} {ι : Ren} {id off b : Nat} {v v' : Value} (t : TypeId) (hb : ι id = some b) (hv : VRel ι v v') : Sim P base (fun _ _ _ => True) ι (Go.storeVar t ⟨id, off, none⟩ v) (Go.storeVar t ⟨b, off, none⟩ v') := by
  unfold Go.storeVar
  refine Sim.bnd (sim_sizeOf t) (fun κ n n' hle hn => ?_)
  rw [hn]
  have hc := cells_rel (hv.mono hle)
  rw [← hc.1]
  split
  · exact Sim.halt
  · exact sim_storeCells _ _ 0 κ (hle _ _ hb) hc.list

theorem sim_newRow {P : Program} {base : Nat → Prop} {ι : Ren} {c c' : Array Value} (e : TypeId) (h : ARel ι c c') :
    Sim P base (fun κ a a' => ∃ id b, a = ⟨id, 0, none⟩ ∧ a' = ⟨b, 0, none⟩ ∧ κ id = some b ∧ gro id = false) ι (Go.newRow e c) (Go.newRow e c') := by
  unfold Go.newRow Go.newObj
  refine Sim.bnd (R := fun κ id b => κ id = some b ∧ gro id = false) (Sim.new ⟨rfl, c', rfl, Nat.le_of_eq h.1, fun _ => h.1, h.2, fun g => by cases g⟩ (fun κ id b hle hb hg => Sim.pure ⟨hb, hg⟩)) (fun κ id b hle hb => Sim.ret ⟨id, b, rfl, rfl, hb.1, hb.2⟩)
theorem sim_newVar {P : Program} {base : Nat → Prop} {ι : Ren} {v v' : Value} (e : TypeId) (h : VRel ι v v') :
    Sim P base (fun κ a a' => ∃ id b, a = ⟨id, 0, none⟩ ∧ a' = ⟨b, 0, none⟩ ∧ κ id = some b ∧ gro id = false) ι (Go.newVar e v) (Go.newVar e v') :=
  sim_newRow e (cells_rel h)

theorem sim_sureAddr {P : Program} {base : Nat → Prop} {ι : Ren} {v v' : Value} (h : VRel ι v v') :
    Sim P base (fun κ a a' => ∃ id off b, a = ⟨id, off, none⟩ ∧ a' = ⟨b, off, none⟩ ∧ κ id = some b) ι (Instr.sureAddr v) (Instr.sureAddr v') := by
  cases h with
  | ptr id off b h => exact Sim.ret ⟨id, off, b, rfl, rfl, h⟩
  | _ => exact Sim.halt

theorem sim_loadAt {P : Program} {base : Nat → Prop} {ι : Ren} {v v' : Value} (t : TypeId) (h : VRel ι v v') : Sim P base (fun κ v v' => VRel κ v v') ι (Instr.loadAt t v) (Instr.loadAt t v') := by
  unfold Instr.loadAt
  refine Sim.bnd (sim_sureAddr h) (fun κ a a' hle ha => ?_)
  obtain ⟨id, off, b, rfl, rfl, hb⟩ := ha
  exact sim_loadVar t hb
theorem sim_storeAt {P : Program} {base : Nat → Prop} {ι : Ren} {v v' x x' : Value} (t : TypeId) (h : VRel ι v v') (hx : VRel ι x x') : Sim P base (fun _ _ _ => True) ι (Instr.storeAt t v x) (Instr.storeAt t v' x') := by
  unfold Instr.storeAt
  refine Sim.bnd (sim_sureAddr h) (fun κ a a' hle ha => ?_)
  obtain ⟨id, off, b, rfl, rfl, hb⟩ := ha
  exact sim_storeVar t hb (hx.mono hle)
theorem sim_box {P : Program} {base : Nat → Prop} {ι : Ren} {v v' : Value} (t : TypeId) (h : VRel ι v v') : Sim P base (fun κ v v' => VRel κ v v') ι (Instr.box t v) (Instr.box t v') := by
  unfold Instr.box
  refine Sim.bnd (sim_newVar t h) (fun κ a a' hle ha => ?_)
  obtain ⟨id, b, rfl, rfl, hb, _⟩ := ha
  exact Sim.ret (.ptr id 0 b hb)
theorem sim_alloc {P : Program} {base : Nat → Prop} {ι : Ren} (t : TypeId) (hz : zOk P t = true) : Sim P base (fun κ v v' => VRel κ v v') ι (Instr.alloc t true (.tuple #[])) (Instr.alloc t true (.tuple #[])) := by
  unfold Instr.alloc
  refine Sim.bnd (sim_zeroValue t hz) (fun κ a a' hle ha => ?_)
  obtain ⟨rfl, hv⟩ := ha
  refine Sim.bnd (sim_newVar t hv) (fun κ a a' hle ha => ?_)
  obtain ⟨id, b, rfl, rfl, hb, _⟩ := ha
  exact Sim.ret (.ptr id 0 b hb)
end Go.Ev
