/- The evaluator, part three: more operations. -/
import Derived.Test.YtjcibnfaijdgnaaEvB
namespace Go.Ev
open Go.RowKit
set_option linter.unusedVariables false
set_option linter.unusedSimpArgs false
set_option linter.unusedSectionVars false
variable [Sig]

abbrev VV : Ren → Value → Value → Prop := fun κ v v' => VRel κ v v'

/-- The field's type takes some cells. -/
def fldOk (P : Program) (s : TypeId) (f : Nat) : Bool :=
  match P.underlying s with
  | some (.struct fields) =>
    match fields[f]? with
    | some fd => (match P.info? fd.type with | some i => i.size != 0 | none => true)
    | none => true
  | _ => true

theorem sim_fieldPlace {P : Program} {base : Nat → Prop} {ι : Ren} {id off b : Nat} (f : Field) (hb : ι id = some b) (hz : (match P.info? f.type with | some i => i.size != 0 | none => true) = true) :
    Sim P base (fun κ a a' => ∃ off, a = ⟨id, off, none⟩ ∧ a' = ⟨b, off, none⟩ ∧ κ id = some b) ι (Go.fieldPlace ⟨id, off, none⟩ f) (Go.fieldPlace ⟨b, off, none⟩ f) := by
  unfold Go.fieldPlace Go.sizeOf
  simp only [bind_assoc, pure_bind]
  refine Sim.bnd (sim_typeInfo f.type) (fun κ i i' hle hi => ?_)
  obtain ⟨rfl, h2⟩ := hi
  simp only [h2, bne_iff_ne, ne_eq] at hz
  rw [if_neg hz, if_neg hz, Addr.add_mk, Addr.add_mk]
  exact Sim.ret ⟨_, rfl, rfl, hle _ _ hb⟩

theorem sim_fieldAt {P : Program} {base : Nat → Prop} {ι : Ren} {v v' : Value} (s : TypeId) (f : Nat) (h : VRel ι v v') (hz : fldOk P s f = true) : Sim P base VV ι (Instr.fieldAt s v f) (Instr.fieldAt s v' f) := by
  unfold Instr.fieldAt
  refine Sim.bnd (sim_underlying s) (fun κ d d' hle hd => ?_)
  obtain ⟨rfl, h2⟩ := hd
  cases d' with
  | struct fields =>
    dsimp only
    cases hf : fields[f]? with
    | none => exact Sim.halt
    | some fd =>
      dsimp only
      refine Sim.bnd (sim_sureAddr (h.mono hle)) (fun κ2 a a' hle2 ha => ?_)
      obtain ⟨id, off, b, rfl, rfl, hb⟩ := ha
      unfold fldOk at hz
      simp only [h2, hf] at hz
      refine Sim.bnd (sim_fieldPlace fd hb hz) (fun κ3 a a' hle3 ha => ?_)
      obtain ⟨off, rfl, rfl, hb3⟩ := ha
      exact Sim.ret (.ptr id off b hb3)
  | _ => exact Sim.halt

theorem sim_asIntOf {P : Program} {base : Nat → Prop} {ι : Ren} {v v' : Value} (h : VRel ι v v') : Sim P base (fun _ x y => y = x) ι (Go.asIntOf v) (Go.asIntOf v') := by
  cases h <;> first | exact Sim.ret rfl | exact Sim.halt
theorem sim_asInt {P : Program} {base : Nat → Prop} {ι : Ren} {v v' : Value} (h : VRel ι v v') : Sim P base (fun _ x y => y = x) ι (Go.asInt v) (Go.asInt v') := by
  unfold Go.asInt
  exact Sim.bnd (sim_asIntOf h) (fun κ a b _ e => Sim.ret (by rw [e]))
theorem sim_asBool {P : Program} {base : Nat → Prop} {ι : Ren} {v v' : Value} (h : VRel ι v v') : Sim P base (fun _ x y => y = x) ι (Go.asBool v) (Go.asBool v') := by
  cases h <;> first | exact Sim.ret rfl | exact Sim.halt
theorem sim_asAgg {P : Program} {base : Nat → Prop} {ι : Ren} {v v' : Value} (h : VRel ι v v') : Sim P base ARel ι (Go.asAgg v) (Go.asAgg v') := by
  cases h <;> first | exact Sim.halt | exact Sim.ret ⟨by assumption, by assumption⟩

theorem arun_boundsPanic {α : Type} (P : Program) (k : IntKind) (x y : Int) (c : BoundsCode) (s : St) : arun P (Go.boundsPanic k x y c : Sem α) s = none := by
  unfold Go.boundsPanic
  have hp : ∀ (e : RuntimeError) (s : St), (∀ i c a m, e ≠ .typeAssertion i c a m) → e ≠ .panicNil → arun P (Go.runtimePanic e : Sem α) s = none := by
    intro e s h1 h2
    cases e with
    | typeAssertion i c a m => exact (h1 _ _ _ _ rfl).elim
    | panicNil => exact (h2 rfl).elim
    | _ => rfl
  dsimp only
  split
  · rfl
  · refine hp (.bounds (IntKind.i64.wrap x) y (k != IntKind.u64) c) s ?_ ?_
    · intro i c a m e; cases e
    · intro e; cases e
theorem Sim.bounds {α β : Type} {P : Program} {base : Nat → Prop} {R : Ren → α → β → Prop} {ι : Ren} {k : IntKind} {x y : Int} {c : BoundsCode} {m' : Sem β} : Sim P base R ι (Go.boundsPanic k x y c : Sem α) m' := by
  intro s w a s1 hr ha
  rw [arun_boundsPanic] at ha
  cases ha

def BRel (κ : Ren) (p p' : Option Addr × Nat × TypeId) : Prop := p'.2 = p.2 ∧ (p.1 = none ∧ p'.1 = none ∨ ∃ id off b, p.1 = some ⟨id, off, none⟩ ∧ p'.1 = some ⟨b, off, none⟩ ∧ κ id = some b)

theorem sim_indexAt {P : Program} {base : Nat → Prop} {ι : Ren} {v v' x x' : Value} (t : TypeId) (h : VRel ι v v') (hx : VRel ι x x') : Sim P base VV ι (Instr.indexAt t v x) (Instr.indexAt t v' x') := by
  unfold Instr.indexAt
  refine Sim.bnd (sim_asIntOf hx) (fun κ a a' hle ha => ?_)
  subst ha
  obtain ⟨k, i⟩ := a'
  dsimp only
  refine Sim.bnd (sim_underlying t) (fun κ2 d d' hle2 hd => ?_)
  obtain ⟨rfl, h2⟩ := hd
  have hv := (h.mono hle).mono hle2
  have hend : ∀ (κ : Ren) (p p' : Option Addr × Nat × TypeId), BRel κ p p' → ∀ d d' : TypeDesc, d' = d → Sim P base VV κ
      (match p.fst with
        | some a =>
          if 0 ≤ i ∧ i < ↑p.2.fst then do
            let n ← sizeOf p.2.snd
            pure (Value.pointer (some (a.add (i.toNat * n))))
          else
            if (decide (p.2.fst ≤ 1) && match d with | TypeDesc.array len elem => true | x => false) = true then
              unsupported (Unsupported.noEntry "op/indexAddr.an index out of range at an array of length 0 or 1 (ledger 616)")
            else boundsPanic k i (↑p.2.fst) BoundsCode.index
        | none => boundsPanic k i 0 BoundsCode.index)
      (match p'.fst with
        | some a =>
          if 0 ≤ i ∧ i < ↑p'.2.fst then do
            let n ← sizeOf p'.2.snd
            pure (Value.pointer (some (a.add (i.toNat * n))))
          else
            if (decide (p'.2.fst ≤ 1) && match d' with | TypeDesc.array len elem => true | x => false) = true then
              unsupported (Unsupported.noEntry "op/indexAddr.an index out of range at an array of length 0 or 1 (ledger 616)")
            else boundsPanic k i (↑p'.2.fst) BoundsCode.index
        | none => boundsPanic k i 0 BoundsCode.index) := by
    rintro κ ⟨ba, len, elem⟩ ⟨ba', len', elem'⟩ ⟨he, hp⟩ d d' rfl
    cases he
    dsimp only at hp ⊢
    rcases hp with ⟨rfl, rfl⟩ | ⟨id, off, b, rfl, rfl, hb⟩
    · exact Sim.bounds
    · dsimp only
      split
      · refine Sim.bnd (sim_sizeOf _) (fun κ4 n n' hle4 hn => ?_)
        rw [hn, Addr.add_mk, Addr.add_mk]
        exact Sim.ret (.ptr id _ b (hle4 _ _ hb))
      · by_cases hq : (decide (len ≤ 1) && match d' with | TypeDesc.array len elem => true | x => false) = true
        · rw [if_pos hq]; exact Sim.halt
        · rw [if_neg hq]; exact Sim.bounds
  have hbe : ∀ (κ κ' : Ren) (p p' : Option Addr × Nat × TypeId), RLe κ κ' → BRel κ p p' → BRel κ' p p' := by
    rintro κ κ' p p' hle ⟨h1, h2⟩
    refine ⟨h1, ?_⟩
    rcases h2 with h2 | ⟨id, off, b, e1, e2, e3⟩
    · exact .inl h2
    · exact .inr ⟨id, off, b, e1, e2, hle _ _ e3⟩
  cases d' with
  | array len elem =>
    dsimp only
    refine Sim.bnd (sim_sureAddr hv) (fun κ3 a a' hle3 ha => ?_)
    obtain ⟨id, off, b, rfl, rfl, hb⟩ := ha
    refine Sim.bnd (R := BRel) (Sim.ret ⟨rfl, .inr ⟨id, off, b, rfl, rfl, hb⟩⟩) (fun κ4 p p' hle4 hp => ?_)
    exact Sim.bnd (sim_underlying t) (fun κ5 d d' hle5 hd => hend κ5 p p' (hbe _ _ _ _ hle5 hp) d d' hd.1)
  | slice elem =>
    cases hv with
    | slice0 =>
      dsimp only
      refine Sim.bnd (R := BRel) (Sim.ret ⟨rfl, .inl ⟨rfl, rfl⟩⟩) (fun κ4 p p' hle4 hp => ?_)
      exact Sim.bnd (sim_underlying t) (fun κ5 d d' hle5 hd => hend κ5 p p' (hbe _ _ _ _ hle5 hp) d d' hd.1)
    | slice id off b n c c' hh h0 h1 h2 h3 =>
      dsimp only
      refine Sim.bnd (R := BRel) (Sim.ret ⟨rfl, .inr ⟨id, off, b, rfl, rfl, hh⟩⟩) (fun κ4 p p' hle4 hp => ?_)
      exact Sim.bnd (sim_underlying t) (fun κ5 d d' hle5 hd => hend κ5 p p' (hbe _ _ _ _ hle5 hp) d d' hd.1)
    | sliceE id off b hh h0 =>
      dsimp only
      refine Sim.bnd (R := BRel) (Sim.ret ⟨rfl, .inr ⟨id, off, b, rfl, rfl, hh⟩⟩) (fun κ4 p p' hle4 hp => ?_)
      exact Sim.bnd (sim_underlying t) (fun κ5 d d' hle5 hd => hend κ5 p p' (hbe _ _ _ _ hle5 hp) d d' hd.1)
    | _ => exact Sim.halt
  | _ => exact Sim.halt

/-! ### Slices of slices -/
theorem sim_sliceBound {P : Program} {base : Nat → Prop} {ι : Ren} {x x' : Value} {y y' : Nat} {c : BoundsCode} (hx : VRel ι x x') (hy : y ≤ y') : Sim P base (fun _ n n' => n' = n ∧ n ≤ y) ι (Instr.sliceBound x y c) (Instr.sliceBound x' y' c) := by
  unfold Instr.sliceBound
  refine Sim.bnd (sim_asIntOf hx) (fun κ a a' hle ha => ?_)
  subst ha
  obtain ⟨k, i⟩ := a'
  dsimp only
  by_cases h : 0 ≤ i ∧ i ≤ y
  · rw [if_pos h, if_pos (by omega)]
    exact Sim.ret ⟨rfl, by omega⟩
  · rw [if_neg h]
    exact Sim.bounds

def OVRel (ι : Ren) : Option Value → Option Value → Prop
  | none, none => True
  | some v, some v' => VRel ι v v'
  | _, _ => False
theorem OVRel.mono {ι κ : Ren} (hk : RLe ι κ) {v v' : Option Value} (h : OVRel ι v v') : OVRel κ v v' := by
  cases v <;> cases v' <;> first | exact h | exact VRel.mono hk h

theorem sim_low {P : Program} {base : Nat → Prop} {ι : Ren} {lo lo' : Option Value} {h m m' : Nat} {c : BoundsCode} : OVRel ι lo lo' →
    Sim P base (fun _ (p p' : Nat × Nat × Nat) => p'.1 = p.1 ∧ p'.2.1 = p.2.1 ∧ p.2.2 = m ∧ p'.2.2 = m' ∧ p.1 ≤ p.2.1 ∧ p.2.1 = h) ι
      (match lo with
        | some v => do
          let l ← Instr.sliceBound v h c
          pure (l, h, m)
        | none => do
          let l ← pure 0
          pure (l, h, m))
      (match lo' with
        | some v => do
          let l ← Instr.sliceBound v h c
          pure (l, h, m')
        | none => do
          let l ← pure 0
          pure (l, h, m')) := by
  intro hlo
  cases lo with
  | none =>
    cases lo' with
    | none => exact Sim.ret ⟨rfl, rfl, rfl, rfl, Nat.zero_le _, rfl⟩
    | some v => exact hlo.elim
  | some v =>
    cases lo' with
    | none => exact hlo.elim
    | some v' => exact Sim.bnd (sim_sliceBound hlo (Nat.le_refl h)) (fun κ l l' _ hl => Sim.ret ⟨hl.1, rfl, rfl, rfl, hl.2, rfl⟩)

/-- Bounds; where the two rooms differ there is no third index. -/
theorem sim_sliceBounds {P : Program} {base : Nat → Prop} {ι : Ren} {lo lo' hi hi' mx mx' : Option Value} {sl : Bool} {len cap cap' : Nat} (hlo : OVRel ι lo lo') (hhi : OVRel ι hi hi') (hmx : OVRel ι mx mx') (hc : cap ≤ cap') (hl : len ≤ cap) (hm : mx = none ∨ cap = cap') :
    Sim P base (fun _ (p p' : Nat × Nat × Nat) => p'.1 = p.1 ∧ p'.2.1 = p.2.1 ∧ (p.2.2 = cap ∧ p'.2.2 = cap' ∨ p'.2.2 = p.2.2 ∧ p.2.2 ≤ cap ∧ cap = cap' ∧ mx.isSome = true) ∧ p.1 ≤ p.2.1 ∧ p.2.1 ≤ p.2.2) ι (Instr.sliceBounds sl len cap lo hi mx) (Instr.sliceBounds sl len cap' lo' hi' mx') := by
  unfold Instr.sliceBounds
  cases mx with
  | none =>
    cases mx' with
    | some v => exact hmx.elim
    | none =>
      dsimp only
      refine Sim.bnd (R := fun _ m m' => m = cap ∧ m' = cap') (Sim.ret ⟨rfl, rfl⟩) (fun κ m m' hle h => ?_)
      obtain ⟨rfl, rfl⟩ := h
      cases hi with
      | none =>
        cases hi' with
        | some v => exact hhi.elim
        | none =>
          dsimp only
          refine Sim.bnd (R := fun _ h h' => h = len ∧ h' = len) (Sim.ret ⟨rfl, rfl⟩) (fun κ2 h h' hle2 e => ?_)
          obtain ⟨rfl, rfl⟩ := e
          exact Sim.mono (sim_low ((hlo.mono hle).mono hle2)) (fun κ p p' ⟨a, b, c, d, e, f⟩ => ⟨a, b, .inl ⟨c, d⟩, e, by omega⟩)
      | some v =>
        cases hi' with
        | none => exact hhi.elim
        | some v' =>
          dsimp only
          refine Sim.bnd (sim_sliceBound (VRel.mono hle hhi) hc) (fun κ2 h h' hle2 e => ?_)
          obtain ⟨rfl, hh⟩ := e
          exact Sim.mono (sim_low ((hlo.mono hle).mono hle2)) (fun κ p p' ⟨a, b, c, d, e, f⟩ => ⟨a, b, .inl ⟨c, d⟩, e, by omega⟩)
  | some x =>
    cases mx' with
    | none => exact hmx.elim
    | some x' =>
      obtain rfl : cap = cap' := by rcases hm with h | h; cases h; exact h
      dsimp only
      refine Sim.bnd (sim_sliceBound hmx (Nat.le_refl cap)) (fun κ m m' hle h => ?_)
      obtain ⟨rfl, hmc⟩ := h
      cases hi with
      | none => exact Sim.halt
      | some v =>
        cases hi' with
        | none => exact hhi.elim
        | some v' =>
          dsimp only
          refine Sim.bnd (sim_sliceBound (VRel.mono hle hhi) (Nat.le_refl m')) (fun κ2 h h' hle2 e => ?_)
          obtain ⟨rfl, hh⟩ := e
          exact Sim.mono (sim_low ((hlo.mono hle).mono hle2)) (fun κ p p' ⟨a, b, c, d, e, f⟩ => ⟨a, b, .inr ⟨by omega, by omega, rfl, rfl⟩, e, by omega⟩)

/-- What a slice that was cut out must be: of a block that may be longer it has room. -/
def resOk : Value → Bool
  | .slice (some a) _ c => !gro a.block || decide (0 < c)
  | _ => true

theorem cut_rel {κ : Ren} {id off b l h m m' sz : Nat} (hb : κ id = some b) (h0 : gro id = false → m = m') (h1 : m ≤ m') (hcap : gro id = true → off = 0 → κ (id + 1) = some m') (hsz : 0 < sz) (hlh : l ≤ h) (hhm : h ≤ m)
    (hr : resOk (.slice (some (if m = l then (⟨id, off, none⟩ : Addr) else (⟨id, off, none⟩ : Addr).add (l * sz))) (h - l) (m - l)) = true) :
    VRel κ (.slice (some (if m = l then (⟨id, off, none⟩ : Addr) else (⟨id, off, none⟩ : Addr).add (l * sz))) (h - l) (m - l)) (.slice (some (if m' = l then (⟨b, off, none⟩ : Addr) else (⟨b, off, none⟩ : Addr).add (l * sz))) (h - l) (m' - l)) := by
  rw [Addr.add_mk, Addr.add_mk] at *
  by_cases e : m = l
  · rw [if_pos e] at hr ⊢
    simp only [resOk, Bool.or_eq_true, Bool.not_eq_true', decide_eq_true_eq] at hr
    rcases hr with hr | hr
    · have := h0 hr
      subst this
      rw [if_pos e]
      have e1 : h - l = 0 := by omega
      have e2 : m - l = 0 := by omega
      rw [e1, e2]
      exact .sliceE id off b hb hr
    · omega
  · rw [if_neg e, if_neg (by omega)]
    refine .slice id (off + l * sz) b (h - l) (m - l) (m' - l) hb (fun g => by rw [h0 g]) (fun g => ⟨by omega, fun e => ?_⟩) (by omega) (by omega)
    have e2 : l * sz = 0 := by omega
    have e1 : off = 0 := by omega
    have e3 : l = 0 := by rcases Nat.mul_eq_zero.1 e2 with e3 | e3; exact e3; omega
    rw [e3, Nat.sub_zero]
    exact hcap g e1

/-- The third index is used on blocks that are known whole alone. -/
def mxOk (x : Value) (mx : Option Value) : Bool :=
  match mx, x with
  | _, .pointer (some a) => !gro a.block
  | none, _ => true
  | some _, .slice (some a) _ _ => !gro a.block
  | some _, .slice none _ _ => true
  | some _, _ => false

/-- A type takes some cells. -/
def szPos (P : Program) (t : TypeId) : Bool :=
  match P.info? t with
  | some i => i.size != 0
  | none => true
theorem sim_sizePos {P : Program} {base : Nat → Prop} {ι : Ren} (t : TypeId) (h : szPos P t = true) : Sim P base (fun _ d d' => d' = d ∧ 0 < d) ι (Go.sizeOf t) (Go.sizeOf t) := by
  unfold Go.sizeOf
  refine Sim.bnd (sim_typeInfo t) (fun κ a b _ hh => ?_)
  obtain ⟨rfl, h2⟩ := hh
  simp only [szPos, h2, bne_iff_ne, ne_eq] at h
  exact Sim.ret ⟨rfl, by omega⟩
/-- What is cut is a string, a slice or an array. -/
def slOk (P : Program) (t : TypeId) : Bool :=
  match P.underlying t with
  | some (.array _ e) | some (.slice e) => szPos P e
  | some .string => true
  | _ => false

theorem sim_sliceAt {P : Program} {base : Nat → Prop} {ι : Ren} {x x' : Value} {lo lo' hi hi' mx mx' : Option Value} (t : TypeId) (hx : VRel ι x x') (hlo : OVRel ι lo lo') (hhi : OVRel ι hi hi') (hmx : OVRel ι mx mx') (hm : mxOk x mx = true) (hs : slOk P t = true) :
    Sim P base (fun κ v v' => resOk v = true → VRel κ v v') ι (Instr.sliceAt t x lo hi mx) (Instr.sliceAt t x' lo' hi' mx') := by
  unfold Instr.sliceAt
  refine Sim.bnd (sim_underlying t) (fun κ d d' hle hd => ?_)
  obtain ⟨rfl, h2⟩ := hd
  have harr : ∀ (n : Nat) (elem : TypeId), szPos P elem = true → Sim P base (fun κ v v' => resOk v = true → VRel κ v v') κ
      (do let a ← Instr.sureAddr x
          let p ← Instr.sliceBounds false n n lo hi mx
          let size ← Go.sizeOf elem
          pure (.slice (some (if p.2.2 = p.1 then a else a.add (p.1 * size))) (p.2.1 - p.1) (p.2.2 - p.1)))
      (do let a ← Instr.sureAddr x'
          let p ← Instr.sliceBounds false n n lo' hi' mx'
          let size ← Go.sizeOf elem
          pure (.slice (some (if p.2.2 = p.1 then a else a.add (p.1 * size))) (p.2.1 - p.1) (p.2.2 - p.1))) := by
    intro n elem hpos
    have hng : ∀ id off, x = .pointer (some ⟨id, off, none⟩) → gro id = false := by
      intro id off e
      subst e
      cases mx <;> simpa [mxOk] using hm
    have hsa : Sim P base (fun κ a a' => ∃ id off b, a = ⟨id, off, none⟩ ∧ a' = ⟨b, off, none⟩ ∧ κ id = some b ∧ gro id = false) κ (Instr.sureAddr x) (Instr.sureAddr x') := by
      have hx1 := hx.mono hle
      cases hx1 with
      | ptr id off b h => exact Sim.ret ⟨id, off, b, rfl, rfl, h, hng id off rfl⟩
      | _ => exact Sim.halt
    refine Sim.bnd hsa (fun κ2 a a' hle2 ha => ?_)
    obtain ⟨id, off, b, rfl, rfl, hb, hgf⟩ := ha
    refine Sim.bnd (sim_sliceBounds ((hlo.mono hle).mono hle2) ((hhi.mono hle).mono hle2) ((hmx.mono hle).mono hle2) (Nat.le_refl n) (Nat.le_refl n) (.inr rfl)) (fun κ3 p p' hle3 hp => ?_)
    obtain ⟨l, h, m⟩ := p
    obtain ⟨l', h', m'⟩ := p'
    obtain ⟨p1, p2, p3, p4, p5⟩ := hp
    dsimp only at p1 p2 p3 p4 p5 ⊢
    subst p1 p2
    refine Sim.bnd (sim_sizePos elem hpos) (fun κ4 sz sz' hle4 hs => ?_)
    obtain ⟨rfl, hs0⟩ := hs
    exact Sim.ret (fun hr => cut_rel (hle4 _ _ (hle3 _ _ hb)) (fun _ => by omega) (by omega) (fun g => by rw [hgf] at g; cases g) hs0 p4 p5 hr)
  have hsl : ∀ (elem : TypeId), szPos P elem = true → P.underlying t = some (.slice elem) → Sim P base (fun κ v v' => resOk v = true → VRel κ v v') κ (Instr.slice t x lo hi mx) (Instr.slice t x' lo' hi' mx') := by
    intro elem hpos hu
    unfold Instr.slice
    refine Sim.bnd (sim_underlying t) (fun κ2 d d' hle2 hd => ?_)
    obtain ⟨rfl, h3⟩ := hd
    rw [hu] at h3
    cases h3
    have hx2 := (hx.mono hle).mono hle2
    cases hx2 with
    | slice0 =>
      dsimp only
      refine Sim.bnd (sim_sliceBounds ((hlo.mono hle).mono hle2) ((hhi.mono hle).mono hle2) ((hmx.mono hle).mono hle2) (Nat.le_refl 0) (Nat.le_refl 0) (.inr rfl)) (fun κ3 p p' hle3 hp => ?_)
      obtain ⟨l, h, m⟩ := p
      obtain ⟨l', h', m'⟩ := p'
      obtain ⟨p1, p2, p3, p4, p5⟩ := hp
      dsimp only at p1 p2 p3 p4 p5 ⊢
      subst p1 p2
      refine Sim.bnd (sim_sizeOf elem) (fun κ4 sz sz' hle4 hs => ?_)
      subst hs
      obtain ⟨rfl, rfl, rfl, rfl⟩ : m' = 0 ∧ m = 0 ∧ h' = 0 ∧ l' = 0 := by omega
      exact Sim.ret (fun hr => .slice0)
    | slice id off b n c c' hb h0 h1 h2 h3 =>
      dsimp only
      have hcc : c ≤ c' := by
        cases hg : gro id with
        | false => exact Nat.le_of_eq (h0 hg)
        | true => exact (h1 hg).1
      refine Sim.bnd (sim_sliceBounds ((hlo.mono hle).mono hle2) ((hhi.mono hle).mono hle2) ((hmx.mono hle).mono hle2) hcc h3 ?_) (fun κ3 p p' hle3 hp => ?_)
      · cases mx with
        | none => exact .inl rfl
        | some y =>
          simp only [mxOk, Bool.not_eq_true'] at hm
          exact .inr (h0 hm)
      · obtain ⟨l, h, m⟩ := p
        obtain ⟨l', h', m'⟩ := p'
        obtain ⟨p1, p2, p3, p4, p5⟩ := hp
        dsimp only at p1 p2 p3 p4 p5 ⊢
        subst p1 p2
        refine Sim.bnd (sim_sizePos elem hpos) (fun κ4 sz sz' hle4 hs => ?_)
        obtain ⟨rfl, hs0⟩ := hs
        have e1 : (if m = l' then some (⟨id, off, none⟩ : Addr) else (some (⟨id, off, none⟩ : Addr)).map (·.add (l' * sz'))) = some (if m = l' then (⟨id, off, none⟩ : Addr) else (⟨id, off, none⟩ : Addr).add (l' * sz')) := by split <;> rfl
        have e2 : (if m' = l' then some (⟨b, off, none⟩ : Addr) else (some (⟨b, off, none⟩ : Addr)).map (·.add (l' * sz'))) = some (if m' = l' then (⟨b, off, none⟩ : Addr) else (⟨b, off, none⟩ : Addr).add (l' * sz')) := by split <;> rfl
        rw [e1, e2]
        refine Sim.ret (fun hr => cut_rel (hle4 _ _ (hle3 _ _ hb)) (fun g => by have := h0 g; omega) (by omega) (fun g e => ?_) hs0 p4 p5 hr)
        have hm' : m' = c' := by
          rcases p3 with p3 | p3
          · exact p3.2
          · cases mx with
            | none => cases p3.2.2.2
            | some y => simp only [mxOk, Bool.not_eq_true'] at hm; rw [hm] at g; cases g
        rw [hm']
        exact hle4 _ _ (hle3 _ _ ((h1 g).2 e))
    | sliceE id off b hb h0 =>
      dsimp only
      refine Sim.bnd (sim_sliceBounds ((hlo.mono hle).mono hle2) ((hhi.mono hle).mono hle2) ((hmx.mono hle).mono hle2) (Nat.le_refl 0) (Nat.le_refl 0) (.inr rfl)) (fun κ3 p p' hle3 hp => ?_)
      obtain ⟨l, h, m⟩ := p
      obtain ⟨l', h', m'⟩ := p'
      obtain ⟨p1, p2, p3, p4, p5⟩ := hp
      dsimp only at p1 p2 p3 p4 p5 ⊢
      subst p1 p2
      refine Sim.bnd (sim_sizeOf elem) (fun κ4 sz sz' hle4 hs => ?_)
      subst hs
      obtain ⟨rfl, rfl, rfl, rfl⟩ : m' = 0 ∧ m = 0 ∧ h' = 0 ∧ l' = 0 := by omega
      exact Sim.ret (fun hr => .sliceE id off b (hle4 _ _ (hle3 _ _ hb)) h0)
    | _ => exact Sim.halt
  cases d' with
  | array n elem => exact harr n elem (by simpa [slOk, h2] using hs)
  | slice elem => exact hsl elem (by simpa [slOk, h2] using hs) h2
  | string =>
    dsimp only
    unfold Instr.slice
    refine Sim.bnd (sim_underlying t) (fun κ2 d d' hle2 hd => ?_)
    obtain ⟨rfl, h3⟩ := hd
    rw [h2] at h3
    cases h3
    have hx2 := (hx.mono hle).mono hle2
    cases hx2 with
    | string s =>
      dsimp only
      cases mx with
      | some y => exact Sim.halt
      | none =>
        cases mx' with
        | some y => exact hmx.elim
        | none =>
          dsimp only [Option.isSome]
          refine Sim.bnd (sim_sliceBounds ((hlo.mono hle).mono hle2) ((hhi.mono hle).mono hle2) (show OVRel κ2 none none from trivial) (Nat.le_refl s.size) (Nat.le_refl s.size) (.inr rfl)) (fun κ3 p p' hle3 hp => ?_)
          obtain ⟨l, h, m⟩ := p
          obtain ⟨l', h', m'⟩ := p'
          obtain ⟨p1, p2, p3, p4, p5⟩ := hp
          dsimp only at p1 p2 ⊢
          subst p1 p2
          exact Sim.ret (fun _ => .string _)
    | _ => exact Sim.halt
  | _ => simp [slOk, h2] at hs

/-! ### Values put together, and taken apart -/
theorem getElem?_set_rel {ι : Ren} {f f' : Array Value} {v v' : Value} (h : ARel ι f f') (hv : VRel ι v v') (k : Nat) : ARel ι (f.setIfInBounds k v) (f'.setIfInBounds k v') := by
  refine ⟨by simp [h.1], fun i x x' h1 h2 => ?_⟩
  rw [Array.getElem?_setIfInBounds] at h1 h2
  by_cases e : k = i
  · subst e
    rw [if_pos rfl] at h1 h2
    split at h1
    · split at h2
      · cases h1; cases h2; exact hv
      · cases h2
    · cases h1
  · rw [if_neg e] at h1 h2
    exact h.2 i x x' h1 h2

theorem foldl_rel {ι : Ren} (off : Nat) : ∀ (l l' : List (Value × Nat)) (f f' : Array Value), ARel ι f f' → l.length = l'.length → (∀ (i : Nat) x x', l[i]? = some x → l'[i]? = some x' → VRel ι x.1 x'.1 ∧ x.2 = x'.2) →
    ARel ι (l.foldl (fun cs x => cs.setIfInBounds (off + x.2) x.1) f) (l'.foldl (fun cs x => cs.setIfInBounds (off + x.2) x.1) f') := by
  intro l
  induction l with
  | nil =>
    intro l' f f' h hl _
    have : l' = [] := List.eq_nil_of_length_eq_zero hl.symm
    subst this
    exact h
  | cons x l ih =>
    intro l' f f' h hl hr
    cases l' with
    | nil => cases hl
    | cons x' l' =>
      have h0 := hr 0 x x' rfl rfl
      refine ih l' _ _ ?_ (by simpa using hl) (fun i y y' h1 h2 => hr (i + 1) y y' h1 h2)
      dsimp only
      rw [h0.2]
      exact getElem?_set_rel h h0.1 _

def PRel (ι : Ren) (l l' : List (Nat × Value)) : Prop := l.length = l'.length ∧ ∀ (i : Nat) x x', l[i]? = some x → l'[i]? = some x' → x.1 = x'.1 ∧ VRel ι x.2 x'.2

theorem fill_rel {ι : Ren} (place : Nat → Option (Nat × Nat)) : ∀ (l l' : List (Nat × Value)) (f f' : Array Value), ARel ι f f' → PRel ι l l' → ∀ c, Instr.fill place f l = some c → ∃ c', Instr.fill place f' l' = some c' ∧ ARel ι c c' := by
  intro l
  induction l with
  | nil =>
    intro l' f f' h hp c hc
    have : l' = [] := List.eq_nil_of_length_eq_zero hp.1.symm
    subst this
    cases hc
    exact ⟨f', rfl, h⟩
  | cons x l ih =>
    intro l' f f' h hp c hc
    cases l' with
    | nil => cases hp.1
    | cons x' l' =>
      obtain ⟨i, v⟩ := x
      obtain ⟨i', v'⟩ := x'
      have h0 := hp.2 0 _ _ rfl rfl
      obtain ⟨e0, hv⟩ := h0
      dsimp only at e0 hv
      subst e0
      have hcs := cells_rel hv
      simp only [Instr.fill] at hc ⊢
      cases hpl : place i with
      | none => rw [hpl] at hc; cases hc
      | some os =>
        obtain ⟨off, size⟩ := os
        rw [hpl] at hc
        dsimp only at hc ⊢
        rw [← hcs.1, ← h.1]
        split at hc
        · cases hc
        · rename_i hcond
          rw [if_neg hcond]
          refine ih l' _ _ ?_ ⟨by simpa using hp.1, fun j y y' h1 h2 => hp.2 (j + 1) y y' h1 h2⟩ c hc
          rw [← Array.foldl_toList, ← Array.foldl_toList]
          refine foldl_rel off _ _ _ _ h (by simp [hcs.1]) ?_
          intro j y y' h1 h2
          simp only [Array.toList_zipIdx, List.getElem?_zipIdx, Option.map_eq_some_iff] at h1 h2
          obtain ⟨z, z1, z2⟩ := h1
          obtain ⟨z', z1', z2'⟩ := h2
          subst z2 z2'
          exact ⟨hcs.2 j z z' (by simpa using z1) (by simpa using z1'), rfl⟩
end Go.Ev
