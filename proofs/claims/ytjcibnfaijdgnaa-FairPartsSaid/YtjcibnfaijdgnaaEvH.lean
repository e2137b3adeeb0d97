/- The evaluator, part eight: one operation. -/
import Derived.Test.YtjcibnfaijdgnaaEvG
namespace Go.Ev
open Go.RowKit
set_option linter.unusedVariables false
set_option linter.unusedSimpArgs false
set_option linter.unusedSectionVars false
variable [Sig]

theorem sim_len {P : Program} {base : Nat → Prop} {ι : Ren} {x x' : Value} (t ty : TypeId) (hx : VRel ι x x') : Sim P base VV ι (Builtin.len_ #[t] ty #[x]) (Builtin.len_ #[t] ty #[x']) := by
  unfold Builtin.len_
  simp only [List.getElem?_toArray, List.getElem?_cons_zero, List.getElem?_cons_succ]
  refine Sim.bnd (sim_underlying t) (fun κ d d' hle hd => ?_)
  obtain ⟨rfl, h2⟩ := hd
  have hx2 := hx.mono hle
  cases d' with
  | string => cases hx2 <;> first | exact Sim.ret (.int _ _) | exact Sim.halt
  | array n e => exact Sim.ret (.int _ _)
  | slice e => cases hx2 <;> first | exact Sim.ret (.int _ _) | exact Sim.halt
  | map k e =>
    cases hx2 with
    | map0 => exact Sim.ret (.int _ _)
    | map id b hb =>
      dsimp only
      refine Sim.bnd (R := fun κ (o o' : Obj) => ORel P κ id o o') (Sim.getObj hb (fun o o' ho _ => Sim.pure ho)) (fun κ2 o o' hle2 ho => ?_)
      cases o with
      | map es n =>
        obtain ⟨es', rfl, he⟩ := ho
        dsimp only
        rw [← he.1]
        exact Sim.ret (.int _ _)
      | _ => exact Sim.halt
    | _ => exact Sim.halt
  | pointer arr =>
    dsimp only
    refine Sim.bnd (sim_underlying arr) (fun κ2 d d' hle2 hd => ?_)
    obtain ⟨rfl, h3⟩ := hd
    cases d' <;> first | exact Sim.ret (.int _ _) | exact Sim.halt
  | chan a b => cases hx2 <;> exact Sim.halt
  | _ => exact Sim.halt

/-- A slice whose room is known. -/
def capOk : Value → Bool
  | .slice none _ _ => true
  | .slice (some a) _ _ => !gro a.block
  | _ => false
theorem sim_cap {P : Program} {base : Nat → Prop} {ι : Ren} {x x' : Value} (t ty : TypeId) (hx : VRel ι x x') (hc : capOk x = true) : Sim P base VV ι (Builtin.cap_ #[t] ty #[x]) (Builtin.cap_ #[t] ty #[x']) := by
  unfold Builtin.cap_
  simp only [List.getElem?_toArray, List.getElem?_cons_zero, List.getElem?_cons_succ]
  refine Sim.bnd (sim_underlying t) (fun κ d d' hle hd => ?_)
  obtain ⟨rfl, h2⟩ := hd
  have hx2 := hx.mono hle
  cases d' with
  | array n e => exact Sim.ret (.int _ _)
  | slice e =>
    cases hx2 with
    | slice id off b n c c' h h0 h1 h2 h3 =>
      have hg : gro id = false := by simpa [capOk] using hc
      rw [h0 hg]
      exact Sim.ret (.int _ _)
    | slice0 => exact Sim.ret (.int _ _)
    | sliceE id off b h h0 => exact Sim.ret (.int _ _)
    | _ => exact Sim.halt
  | pointer arr =>
    dsimp only
    refine Sim.bnd (sim_underlying arr) (fun κ2 d d' hle2 hd => ?_)
    obtain ⟨rfl, h3⟩ := hd
    cases d' <;> first | exact Sim.ret (.int _ _) | exact Sim.halt
  | chan a b => cases hx2 <;> exact Sim.halt
  | _ => exact Sim.halt

theorem Sim.none {α β : Type} {P : Program} {base : Nat → Prop} {R : Ren → α → β → Prop} {ι : Ren} {m : Sem α} {m' : Sem β} (h : ∀ s, arun P m s = Option.none) : Sim P base R ι m m' := by
  intro s w a s1 hr ha
  rw [h] at ha
  cases ha
theorem arun_bind_none1 {α β : Type} {P : Program} (m : Sem α) (f : α → Sem β) (h : ∀ s, arun P m s = Option.none) (s : St) : arun P (m >>= f) s = Option.none := by
  show arun P (m.bind f) s = Option.none
  rw [arun_bind, h]
  rfl

theorem sim_askRoom {P : Program} {base : Nat → Prop} {ι : Ren} (n : Nat) : Sim P base (fun _ _ _ => True) ι (Go.askRoom n) (Go.askRoom n) := by
  unfold Go.askRoom
  split
  · exact Sim.mark (Sim.pure trivial)
  · exact Sim.ret trivial

theorem sim_makeSlice {P : Program} {base : Nat → Prop} {ι : Ren} {l l' c c' : Value} (t : TypeId) (hz : zOk P (elemT P t) = true) (hq : zPos P (elemT P t) = true) (hl : VRel ι l l') (hc : VRel ι c c') : Sim P base VV ι (Instr.makeSlice t l c) (Instr.makeSlice t l' c') := by
  unfold Instr.makeSlice
  refine Sim.bnd (sim_underlying t) (fun κ d d' hle hd => ?_)
  obtain ⟨rfl, h2⟩ := hd
  cases d' with
  | slice elem =>
    dsimp only
    have he : elemT P t = elem := by simp [elemT, h2]
    rw [he] at hz hq
    refine Sim.bnd (sim_asInt (hl.mono hle)) (fun κ2 a a' hle2 ha => ?_)
    subst ha
    refine Sim.bnd (sim_asInt ((hc.mono hle).mono hle2)) (fun κ3 b b' hle3 hb => ?_)
    subst hb
    refine Sim.bnd (sim_typeInfo elem) (fun κ4 i i' hle4 hi => ?_)
    obtain ⟨rfl, hi2⟩ := hi
    have fin : ∀ (κ : Ren) (zero zero' : Array Value) (n L C : Nat), ARel κ zero zero' → (n = 0 ∨ 0 < zero.size) → L ≤ C → Sim P base VV κ
        (do let a ← Go.newRow elem ((Array.range n).map (zero[· % zero.size]!))
            pure (Value.slice (some a) L C))
        (do let a ← Go.newRow elem ((Array.range n).map (zero'[· % zero'.size]!))
            pure (Value.slice (some a) L C)) := by
      intro κ zero zero' n L C hzr hpos hLC
      refine Sim.bnd (sim_newRow elem (hzr.zeros n hpos)) (fun κ4 a a' hle4 ha => ?_)
      obtain ⟨id, b, rfl, rfl, hb, hg⟩ := ha
      by_cases hC : 0 < C
      · exact Sim.ret (.slice id 0 b L C C hb (fun _ => rfl) (fun g => by rw [hg] at g; cases g) hC hLC)
      · obtain ⟨rfl, rfl⟩ : C = 0 ∧ L = 0 := by omega
        exact Sim.ret (.sliceE id 0 b hb hg)
    split
    · split
      · exact Sim.none (fun s => arun_bind_none1 _ _ (fun s => arun_panic _ s) s)
      · split
        · exact Sim.none (fun s => arun_bind_none1 _ _ (fun s => arun_panic _ s) s)
        · exact Sim.none (fun s => arun_bind_none1 _ _ (fun s => rfl) s)
    · rename_i hcond
      simp only [Bool.or_eq_true, decide_eq_true_eq, not_or] at hcond
      refine Sim.bnd (sim_askRoom _) (fun κ5 _ _ hle5 _ => ?_)
      refine Sim.bnd (sim_sizeOf elem) (fun κ6 sz sz' hle6 hs => ?_)
      subst hs
      split
      · rename_i h0
        refine Sim.bnd (R := fun _ p p' => p = #[] ∧ p' = #[]) (Sim.ret ⟨rfl, rfl⟩) (fun κ7 z z' hle7 hz7 => ?_)
        obtain ⟨rfl, rfl⟩ := hz7
        exact fin κ7 #[] #[] _ _ _ (ARel.empty κ7) (.inl h0) (by omega)
      · refine Sim.bnd (sim_zeroPos elem hz hq) (fun κ7 v v' hle7 hv => ?_)
        obtain ⟨rfl, hv, hpos⟩ := hv
        refine Sim.bnd (R := fun κ p p' => ARel κ p p' ∧ 0 < p.size) (Sim.ret ⟨cells_rel hv, hpos⟩) (fun κ8 z z' hle8 hz8 => ?_)
        exact fin κ8 z z' _ _ _ hz8.1 (.inr hz8.2) (by omega)
  | _ => exact Sim.halt

/-! ### One operation -/
def sv (r : Option (Value × St)) : Option (Next × St) := r.map fun (v, s) => (.value v, s)
def su {α : Type} (r : Option (α × St)) : Option (Next × St) := r.map fun (_, s) => (.skip, s)

theorem OpS.of_val {P : Program} {base : Nat → Prop} {ι : Ren} {s s1 : St} {w : World} {n : Next} {m m' : Sem Value} (h : Sim P base VV ι m m') (hr : Rep P base ι s.look w) (ha : sv (arun P m s) = some (n, s1))
    (hfr : ∀ id, 4 * s.next ≤ id → id < 4 * s1.next → ι id = none) : OpS P base ι s s1 w n (do pure (.value (← m'))) := by
  unfold sv at ha
  rw [Option.map_eq_some_iff] at ha
  obtain ⟨⟨v, s2⟩, h1, h2⟩ := ha
  cases h2
  obtain ⟨κ, v', w1, r1, r2, r3, r4, r5⟩ := h s w v s1 hr h1 hfr
  exact ⟨κ, .value v', w1, by rw [Sem.run_bind, r1]; rfl, r2, r3, r4, r5⟩
theorem OpS.of_unit {P : Program} {base : Nat → Prop} {ι : Ren} {s s1 : St} {w : World} {n : Next} {m m' : Sem Unit} (h : Sim P base (fun _ _ _ => True) ι m m') (hr : Rep P base ι s.look w) (ha : su (arun P m s) = some (n, s1))
    (hfr : ∀ id, 4 * s.next ≤ id → id < 4 * s1.next → ι id = none) : OpS P base ι s s1 w n (do m'; pure .skip) := by
  unfold su at ha
  rw [Option.map_eq_some_iff] at ha
  obtain ⟨⟨v, s2⟩, h1, h2⟩ := ha
  cases h2
  obtain ⟨κ, v', w1, r1, r2, r3, r4, r5⟩ := h s w v s1 hr h1 hfr
  exact ⟨κ, .skip, w1, by rw [Sem.run_bind, r1]; rfl, r2, r3, trivial, r5⟩
theorem OpS.of_pure {P : Program} {base : Nat → Prop} {ι : Ren} {s : St} {w : World} {n n' : Next} {m' : Sem Next} (hr : Rep P base ι s.look w) (h : m'.run P w = .ok n' w) (hn : NRel P ι n n') : OpS P base ι s s w n m' :=
  ⟨ι, n', w, h, hr, fun _ _ => rfl, hn, Out.refl _ _⟩

/-- The functions that may be called. -/
def fnOk (P : Program) (f : FuncId) : Bool :=
  match P.funcs[f]? with
  | some fn => fn.name != "runtime.NumGoroutine" && fn.body.isSome
  | none => false

theorem run_callFunc {P : Program} {f : FuncId} (h : fnOk P f = true) (args : Array Value) (w : World) : (Go.callFunc f args).run P w = .ok (.enter f args) w := by
  unfold fnOk at h
  split at h
  · rename_i fn hf
    simp only [Bool.and_eq_true, bne_iff_ne, ne_eq] at h
    unfold Go.callFunc
    show (match P.funcs[f]? with | none => Go.stuck "call: no such function" | some fn => _ : Sem Next).run P w = _
    rw [hf]
    dsimp only
    have h1 : (fn.name == "runtime.NumGoroutine") = false := by simpa using h.1
    have h2 : fn.body.isNone = false := by
      cases hb : fn.body with
      | none => rw [hb] at h; cases h.2
      | some x => rfl
    rw [if_neg (by rw [h1]; decide), if_neg (by rw [h2]; decide)]
    rfl
  · cases h

/-! ### Loops over functions -/
theorem sim_getObjR {P : Program} {base : Nat → Prop} {ι : Ren} {id b : Nat} (hb : ι id = some b) : Sim P base (fun κ (o o' : Obj) => ORel P κ id o o') ι (Go.getObj id) (Go.getObj b) :=
  Sim.getObj hb (fun o o' ho _ => Sim.pure ho)
theorem sim_setObjR {P : Program} {base : Nat → Prop} {ι : Ren} {id b : Nat} {o o' : Obj} (hb : ι id = some b) (ho : ORel P ι id o o') (hc : ∀ c e f, o ≠ .cells c e f) : Sim P base (fun _ _ _ => True) ι (Go.setObj id o) (Go.setObj b o') :=
  Sim.setObj hb ho hc (Sim.pure trivial)
theorem sim_getLoop {P : Program} {base : Nat → Prop} {ι : Ren} {id b : Nat} (hb : ι id = some b) : Sim P base (fun κ r r' => LoopRel P κ r r') ι (Instr.getLoop id) (Instr.getLoop b) := by
  unfold Instr.getLoop
  refine Sim.bnd (sim_getObjR hb) (fun κ o o' hle ho => ?_)
  cases o with
  | loop l =>
    obtain ⟨l', rfl, hl⟩ := ho
    exact Sim.ret hl
  | _ => exact Sim.halt

theorem fold_rel {ι : Ren} : ∀ (ps : List Tmp) (l l' : List Value) (t t' : Array Value), l.length = l'.length → (∀ (i : Nat) (v v' : Value), l[i]? = some v → l'[i]? = some v' → VRel ι v v') → ARel ι t t' →
    ARel ι ((ps.zip l).foldl (fun t (x : Tmp × Value) => t.setIfInBounds x.1 x.2) t) ((ps.zip l').foldl (fun t (x : Tmp × Value) => t.setIfInBounds x.1 x.2) t') := by
  intro ps
  induction ps with
  | nil => intro l l' t t' _ _ h; exact h
  | cons p ps ih =>
    intro l l' t t' hl hv h
    cases l with
    | nil =>
      cases l' with
      | nil => exact h
      | cons v' l' => cases hl
    | cons v l =>
      cases l' with
      | nil => cases hl
      | cons v' l' =>
        rw [List.zip_cons_cons, List.zip_cons_cons, List.foldl_cons, List.foldl_cons]
        exact ih l l' _ _ (by simpa using hl) (fun i x x' a b => hv (i + 1) x x' a b) (getElem?_set_rel h (hv 0 v v' rfl rfl) p)
theorem sim_yield {P : Program} {base : Nat → Prop} {ι : Ren} {id b : Nat} {args args' : Array Value} (hb : ι id = some b) (ha : ARel ι args args') : Sim P base (NRel P) ι (Instr.yield id args) (Instr.yield b args') := by
  unfold Instr.yield
  refine Sim.bnd (sim_getLoop hb) (fun κ r r' hle hr => ?_)
  rw [← hr.params, ← ha.1]
  split
  · exact Sim.halt
  · refine Sim.ret ⟨hle _ _ hb, ?_, hr.assign, hr.body, hr.ok1, hr.ok2⟩
    have e : ∀ (ps : Array Tmp) (l : Array Value) (t : Array Value), (ps.zip l).foldl (fun tmps (x : Tmp × Value) => tmps.setIfInBounds x.1 x.2) t = (ps.toList.zip l.toList).foldl (fun tmps (x : Tmp × Value) => tmps.setIfInBounds x.1 x.2) t := by
      intro ps l t
      rw [← Array.foldl_toList, Array.toList_zip]
    show ARel κ ((r.params.zip args).foldl (fun tmps (x : Tmp × Value) => tmps.setIfInBounds x.1 x.2) r.tmps) ((r.params.zip args').foldl (fun tmps (x : Tmp × Value) => tmps.setIfInBounds x.1 x.2) r'.tmps)
    rw [e, e]
    have ha2 := ha.mono hle
    exact fold_rel _ _ _ _ _ (by simpa using ha2.1) (fun i v v' a b => ha2.2 i v v' (by simpa using a) (by simpa using b)) hr.tmps

/-- The round that an activation is, if it is one. -/
def RdRel (ι : Ren) : Option Nat → Option Nat → Prop
  | none, none => True
  | some l, some b => ι l = some b
  | _, _ => False
theorem RdRel.mono {ι κ : Ren} (hk : RLe ι κ) {r r' : Option Nat} (h : RdRel ι r r') : RdRel κ r r' := by
  cases r <;> cases r' <;> first | exact h | exact hk _ _ h

theorem sim_enterLoop {P : Program} {base : Nat → Prop} {ι : Ren} {t t' : Array Value} {rd rd' : Option Nat} (fn fn' : FuncId) (ps : Array Tmp) (assign body : Code) (ht : ARel ι t t') (hrd : RdRel ι rd rd') (ho1 : CodeOK P assign) (ho2 : CodeOK P body) :
    Sim P base (fun κ x x' => κ x.1 = some x'.1 ∧ DRel κ x.2 x'.2) ι (Instr.enterLoop fn t ps assign body rd) (Instr.enterLoop fn' t' ps assign body rd') := by
  unfold Instr.enterLoop
  have fin : ∀ (κ : Ren) (d d' : Nat) (m m' : List Deferred), RLe ι κ → κ d = some d' → DRel κ m m' → Sim P base (fun κ x x' => κ x.1 = some x'.1 ∧ DRel κ x.2 x'.2) κ
      (do pure (← Go.newObj (.loop { state := .ready, pending := none, fn, tmps := t, params := ps, assign, body, defers := d }), m) : Sem (Nat × List Deferred))
      (do pure (← Go.newObj (.loop { state := .ready, pending := none, fn := fn', tmps := t', params := ps, assign, body, defers := d' }), m') : Sem (Nat × List Deferred)) := by
    intro κ d d' m m' hle hd hm
    exact Sim.bnd (sim_newObj (P := P) (base := base) ⟨_, rfl, rfl, rfl, ht.mono hle, rfl, rfl, rfl, hd, ho1, ho2⟩) (fun κ2 a b hle2 hab => Sim.ret ⟨hab, hm.mono hle2⟩)
  cases rd with
  | none =>
    cases rd' with
    | some b => exact hrd.elim
    | none =>
      dsimp only
      refine Sim.bnd (sim_newObj (P := P) (base := base) (o := .deferred (some [])) (o' := .deferred (some [])) ⟨rfl, .inr rfl⟩) (fun κ r r' hle hr => ?_)
      exact fin κ r r' _ _ hle hr (.cons r r' [] [] hr .nil)
  | some l =>
    cases rd' with
    | none => exact hrd.elim
    | some b =>
      dsimp only
      refine Sim.bnd (sim_getLoop hrd) (fun κ r r' hle hr => ?_)
      exact fin κ _ _ _ _ hle hr.defers .nil

theorem LoopRel.set {P : Program} {ι : Ren} {r r' : Loop} (h : LoopRel P ι r r') (st : LoopState) (pe : Option Code) : LoopRel P ι { r with state := st, pending := pe } { r' with state := st, pending := pe } :=
  ⟨rfl, rfl, h.tmps, h.params, h.assign, h.body, h.defers, h.ok1, h.ok2⟩
theorem sim_beginRound {P : Program} {base : Nat → Prop} {ι : Ren} {id b : Nat} (hb : ι id = some b) : Sim P base (fun _ _ _ => True) ι (Instr.beginRound id) (Instr.beginRound b) := by
  unfold Instr.beginRound
  refine Sim.bnd (sim_getLoop hb) (fun κ r r' hle hr => ?_)
  refine Sim.bnd (sim_setObjR (hle _ _ hb) ⟨_, rfl, ⟨rfl, hr.pending, hr.tmps, hr.params, hr.assign, hr.body, hr.defers, hr.ok1, hr.ok2⟩⟩ (by intro c e f x; cases x)) (fun κ2 _ _ hle2 _ => ?_)
  rw [← hr.state]
  cases r.state with
  | ready => exact Sim.ret trivial
  | _ => exact Sim.panics
theorem sim_endRound {P : Program} {base : Nat → Prop} {ι : Ren} {id b : Nat} (hb : ι id = some b) (jump : Option Code) : Sim P base VV ι (Instr.endRound id jump) (Instr.endRound b jump) := by
  unfold Instr.endRound
  refine Sim.bnd (sim_getLoop hb) (fun κ r r' hle hr => ?_)
  refine Sim.bnd (sim_setObjR (hle _ _ hb) ⟨_, rfl, hr.set _ _⟩ (by intro c e f x; cases x)) (fun κ2 _ _ hle2 _ => ?_)
  exact Sim.ret (.bool _)
theorem sim_endLoop {P : Program} {base : Nat → Prop} {ι : Ren} {id b : Nat} (hb : ι id = some b) : Sim P base (fun _ x y => y = x) ι (Instr.endLoop id) (Instr.endLoop b) := by
  unfold Instr.endLoop
  refine Sim.bnd (sim_getLoop hb) (fun κ r r' hle hr => ?_)
  rw [← hr.state]
  split
  · exact Sim.bnd (R := fun _ _ _ => False) Sim.panics (fun κ2 _ _ _ hx => hx.elim)
  · refine Sim.bnd (sim_setObjR (hle _ _ hb) ⟨_, rfl, ⟨rfl, hr.pending, hr.tmps, hr.params, hr.assign, hr.body, hr.defers, hr.ok1, hr.ok2⟩⟩ (by intro c e f x; cases x)) (fun κ2 _ _ hle2 _ => ?_)
    exact Sim.ret hr.pending.symm
theorem sim_takeDeferred {P : Program} {base : Nat → Prop} {ι : Ren} {id b : Nat} (hb : ι id = some b) : Sim P base (fun _ x y => x = [] ∧ y = []) ι (Instr.takeDeferred id) (Instr.takeDeferred b) := by
  unfold Instr.takeDeferred
  refine Sim.bnd (sim_getObjR hb) (fun κ o o' hle ho => ?_)
  cases o with
  | deferred d =>
    obtain ⟨rfl, hd⟩ := ho
    rcases hd with rfl | rfl
    · exact Sim.halt
    · exact Sim.bnd (sim_setObjR (hle _ _ hb) ⟨rfl, .inl rfl⟩ (by intro c e f x; cases x)) (fun κ2 _ _ hle2 _ => Sim.ret ⟨rfl, rfl⟩)
  | _ => exact Sim.halt
end Go.Ev
