/- The evaluator, part four: operations on values, maps and interfaces. -/
import Derived.Test.YtjcibnfaijdgnaaEvC
namespace Go.Ev
open Go.RowKit
set_option linter.unusedVariables false
set_option linter.unusedSimpArgs false
set_option linter.unusedSectionVars false
variable [Sig]

theorem ARel.of_flat {ι : Ren} {f : Array Value} (h : ∀ (i : Nat) v, f[i]? = some v → VRel ι v v) : ARel ι f f := ⟨rfl, fun i v v' h1 h2 => by rw [h1] at h2; cases h2; exact h i v h1⟩

theorem sim_mapSizes {P : Program} {base : Nat → Prop} {ι : Ren} (fields : Array Field) :
    Sim P base (fun _ p p' => p' = p) ι (fields.mapM fun f => (do pure (f.offset, ← Go.sizeOf f.type) : Sem (Nat × Nat))) (fields.mapM fun f => (do pure (f.offset, ← Go.sizeOf f.type) : Sem (Nat × Nat))) := by
  rw [Array.mapM_eq_mapM_toList]
  refine Sim.bnd (R := fun _ p p' => p' = p) ?_ (fun κ a b _ h => by rw [h]; exact Sim.ret rfl)
  generalize fields.toList = l
  induction l generalizing ι with
  | nil => exact Sim.ret rfl
  | cons f l ih =>
    rw [List.mapM_cons]
    refine Sim.bnd (R := fun _ p p' => p' = p) (Sim.bnd (sim_sizeOf f.type) (fun κ a b _ h => by rw [h]; exact Sim.ret rfl)) (fun κ a b hle h => ?_)
    rw [h]
    exact Sim.bnd ih (fun κ2 a b _ h => by rw [h]; exact Sim.ret rfl)

theorem sim_build {P : Program} {base : Nat → Prop} {ι : Ren} {ps ps' : Array (Nat × Value)} (t : TypeId) (hz : zOk P t = true) (hp : PRel ι ps.toList ps'.toList) : Sim P base VV ι (Instr.build t ps) (Instr.build t ps') := by
  unfold Instr.build
  refine Sim.bnd (sim_zeroValue t hz) (fun κ v v' hle hv => ?_)
  obtain ⟨rfl, hv⟩ := hv
  dsimp only
  refine Sim.bnd (sim_underlying t) (fun κ2 d d' hle2 hd => ?_)
  obtain ⟨rfl, h2⟩ := hd
  have hp2 : PRel κ2 ps.toList ps'.toList := ⟨hp.1, fun i x x' h1 h2 => ⟨(hp.2 i x x' h1 h2).1, ((hp.2 i x x' h1 h2).2.mono hle).mono hle2⟩⟩
  cases d' with
  | struct fields =>
    dsimp only
    refine Sim.bnd (sim_mapSizes fields) (fun κ3 p p' hle3 hpp => ?_)
    subst hpp
    cases hf : Instr.fill (fun x => p'[x]?) v'.cells ps.toList with
    | none => exact Sim.halt
    | some c =>
      have hp3 : PRel κ3 ps.toList ps'.toList := ⟨hp2.1, fun i x x' h1 h2 => ⟨(hp2.2 i x x' h1 h2).1, (hp2.2 i x x' h1 h2).2.mono hle3⟩⟩
      obtain ⟨c', hc', hr⟩ := fill_rel (ι := κ3) (fun x => p'[x]?) ps.toList ps'.toList _ _ (cells_rel ((hv.mono hle2).mono hle3)) hp3 c hf
      rw [hc']
      exact Sim.ret (.agg _ _ hr.1 hr.2)
  | array n elem =>
    dsimp only
    refine Sim.bnd (sim_sizeOf elem) (fun κ3 p p' hle3 hpp => ?_)
    subst hpp
    cases hf : Instr.fill (fun i => some (i * p', p')) v'.cells ps.toList with
    | none => exact Sim.halt
    | some c =>
      have hp3 : PRel κ3 ps.toList ps'.toList := ⟨hp2.1, fun i x x' h1 h2 => ⟨(hp2.2 i x x' h1 h2).1, (hp2.2 i x x' h1 h2).2.mono hle3⟩⟩
      obtain ⟨c', hc', hr⟩ := fill_rel (ι := κ3) (fun i => some (i * p', p')) ps.toList ps'.toList _ _ (cells_rel ((hv.mono hle2).mono hle3)) hp3 c hf
      rw [hc']
      exact Sim.ret (.agg _ _ hr.1 hr.2)
  | _ => exact Sim.halt

theorem ARel.zeros {ι : Ren} {zero zero' : Array Value} (h : ARel ι zero zero') (n : Nat) (hz : n = 0 ∨ 0 < zero.size) : ARel ι ((Array.range n).map (zero[· % zero.size]!)) ((Array.range n).map (zero'[· % zero'.size]!)) := by
  refine ⟨by simp, fun i v v' h1 h2 => ?_⟩
  simp only [Array.getElem?_map, Option.map_eq_some_iff] at h1 h2
  obtain ⟨a, a1, a2⟩ := h1
  obtain ⟨b, b1, b2⟩ := h2
  rw [a1] at b1
  cases b1
  have hlt : a < n := by
    have := Array.mem_of_getElem? a1
    simpa using this
  have hpos : 0 < zero.size := by omega
  have hm : a % zero.size < zero.size := Nat.mod_lt _ hpos
  have hm' : a % zero.size < zero'.size := by rw [← h.1]; exact hm
  rw [← h.1] at b2
  rw [getElem!_pos zero _ hm] at a2
  rw [getElem!_pos zero' _ hm'] at b2
  exact h.2 (a % zero.size) v v' (by rw [Array.getElem?_eq_getElem hm, a2]) (by rw [Array.getElem?_eq_getElem hm', b2])

/-- The zero value of a type has some cells. -/
def zPos (P : Program) (t : TypeId) : Bool :=
  match P.info? t with
  | some i => (match i.zero with | some v => decide (0 < v.cells.size) | none => true)
  | none => true
theorem sim_zeroPos {P : Program} {base : Nat → Prop} {ι : Ren} (t : TypeId) (hz : zOk P t = true) (hp : zPos P t = true) : Sim P base (fun κ d d' => d' = d ∧ VRel κ d d ∧ 0 < d.cells.size) ι (Go.zeroValue t) (Go.zeroValue t) := by
  unfold Go.zeroValue
  refine Sim.bnd (sim_typeInfo t) (fun κ a b _ h => ?_)
  obtain ⟨rfl, h2⟩ := h
  unfold zOk at hz
  unfold zPos at hp
  cases hv : b.zero with
  | none => exact Sim.halt
  | some v =>
    simp only [h2, hv] at hz hp
    exact Sim.ret ⟨rfl, flat_refl _ 6 v hz, by simpa using hp⟩

/-- The element type of a slice type. -/
def elemT (P : Program) (t : TypeId) : TypeId :=
  match P.underlying t with
  | some (.slice e) => e
  | some (.map _ e) => e
  | _ => 0

theorem sim_buildSlice {P : Program} {base : Nat → Prop} {ι : Ren} {ps ps' : Array (Nat × Value)} (t : TypeId) (len : Nat) (hz : zOk P (elemT P t) = true) (hq : zPos P (elemT P t) = true) (hp : PRel ι ps.toList ps'.toList) :
    Sim P base VV ι (Instr.buildSlice t len ps) (Instr.buildSlice t len ps') := by
  unfold Instr.buildSlice
  refine Sim.bnd (sim_underlying t) (fun κ2 d d' hle2 hd => ?_)
  obtain ⟨rfl, h2⟩ := hd
  cases d' with
  | slice elem =>
    dsimp only
    have he : elemT P t = elem := by simp [elemT, h2]
    rw [he] at hz hq
    refine Sim.bnd (sim_sizeOf elem) (fun κ3 sz sz' hle3 hs => ?_)
    subst hs
    have fin : ∀ (κ : Ren) (zero zero' : Array Value), RLe κ3 κ → ARel κ zero zero' → (len * sz' = 0 ∨ 0 < zero.size) → Sim P base VV κ
        (match Instr.fill (fun i => some (i * sz', sz')) ((Array.range (len * sz')).map (zero[· % zero.size]!)) ps.toList with
          | some cells => do pure (.slice (some (← Go.newRow elem cells)) len len)
          | _ => Go.stuck "buildSlice: a part of the wrong size")
        (match Instr.fill (fun i => some (i * sz', sz')) ((Array.range (len * sz')).map (zero'[· % zero'.size]!)) ps'.toList with
          | some cells => do pure (.slice (some (← Go.newRow elem cells)) len len)
          | _ => Go.stuck "buildSlice: a part of the wrong size") := by
      intro κ zero zero' hle hzr hpos
      cases hf : Instr.fill (fun i => some (i * sz', sz')) ((Array.range (len * sz')).map (zero[· % zero.size]!)) ps.toList with
      | none => exact Sim.halt
      | some c =>
        have hp3 : PRel κ ps.toList ps'.toList := ⟨hp.1, fun i x x' h1 h2 => ⟨(hp.2 i x x' h1 h2).1, (((hp.2 i x x' h1 h2).2.mono hle2).mono hle3).mono hle⟩⟩
        obtain ⟨c', hc', hr⟩ := fill_rel (ι := κ) (fun i => some (i * sz', sz')) ps.toList ps'.toList _ _ (hzr.zeros (len * sz') hpos) hp3 c hf
        rw [hc']
        refine Sim.bnd (sim_newRow elem hr) (fun κ4 a a' hle4 ha => ?_)
        obtain ⟨id, b, rfl, rfl, hb, hg⟩ := ha
        by_cases hlen : 0 < len
        · exact Sim.ret (.slice id 0 b len len len hb (fun _ => rfl) (fun g => by rw [hg] at g; cases g) hlen (Nat.le_refl _))
        · obtain rfl : len = 0 := by omega
          exact Sim.ret (.sliceE id 0 b hb hg)
    by_cases hbig : len * sz' > 2 ^ 24
    · rw [if_pos hbig]; exact Sim.halt
    · rw [if_neg hbig, if_neg hbig]
      by_cases h0 : len * sz' = 0
      · rw [if_pos h0, if_pos h0]
        refine Sim.bnd (R := fun _ p p' => p = #[] ∧ p' = #[]) (Sim.ret ⟨rfl, rfl⟩) (fun κ z z' hle hz => ?_)
        obtain ⟨rfl, rfl⟩ := hz
        exact fin κ #[] #[] hle (ARel.empty κ) (.inl h0)
      · rw [if_neg h0, if_neg h0]
        refine Sim.bnd (sim_zeroPos elem hz hq) (fun κ v v' hle hv => ?_)
        obtain ⟨rfl, hv, hpos⟩ := hv
        refine Sim.bnd (R := fun κ p p' => ARel κ p p' ∧ 0 < p.size) (Sim.ret ⟨cells_rel hv, hpos⟩) (fun κ2 z z' hle2 hz => ?_)
        exact fin κ2 z z' (hle.trans hle2) hz.1 (.inr hz.2)
  | _ => exact Sim.halt

theorem ARel.extract {ι : Ren} {f f' : Array Value} (h : ARel ι f f') (a b : Nat) : ARel ι (f.extract a b) (f'.extract a b) := by
  refine ⟨by simp [h.1], fun i v v' h1 h2 => ?_⟩
  rw [Array.getElem?_extract] at h1 h2
  rw [h.1] at h1
  split at h1
  · rename_i hc
    rw [if_pos hc] at h2
    exact h.2 _ v v' h1 h2
  · cases h1
theorem ARel.get {ι : Ren} {f f' : Array Value} (h : ARel ι f f') (i : Nat) : (f[i]? = none ∧ f'[i]? = none) ∨ ∃ v v', f[i]? = some v ∧ f'[i]? = some v' ∧ VRel ι v v' := by
  by_cases hlt : i < f.size
  · have hlt' : i < f'.size := by rw [← h.1]; exact hlt
    exact .inr ⟨_, _, Array.getElem?_eq_getElem hlt, Array.getElem?_eq_getElem hlt', h.2 i _ _ (Array.getElem?_eq_getElem hlt) (Array.getElem?_eq_getElem hlt')⟩
  · have hlt' : ¬ i < f'.size := by rw [← h.1]; exact hlt
    exact .inl ⟨Array.getElem?_eq_none (Nat.le_of_not_lt hlt), Array.getElem?_eq_none (Nat.le_of_not_lt hlt')⟩

theorem sim_part {P : Program} {base : Nat → Prop} {ι : Ren} {f f' : Array Value} (t : TypeId) (off : Nat) (h : ARel ι f f') : Sim P base VV ι (Go.part t f off) (Go.part t f' off) := by
  unfold Go.part
  refine Sim.bnd (sim_isAgg t) (fun κ a a' hle ha => ?_)
  subst ha
  split
  · refine Sim.bnd (sim_sizeOf t) (fun κ2 n n' hle2 hn => ?_)
    subst hn
    have := ((h.mono hle).mono hle2).extract off (off + n')
    exact Sim.ret (.agg _ _ this.1 this.2)
  · rcases (h.mono hle).get off with ⟨e1, e2⟩ | ⟨v, v', e1, e2, hv⟩
    · rw [e1]; exact Sim.halt
    · rw [e1, e2]; exact Sim.ret hv
theorem sim_field {P : Program} {base : Nat → Prop} {ι : Ren} {v v' : Value} (t : TypeId) (f : Nat) (h : VRel ι v v') : Sim P base VV ι (Instr.field t v f) (Instr.field t v' f) := by
  unfold Instr.field
  refine Sim.bnd (sim_underlying t) (fun κ2 d d' hle2 hd => ?_)
  obtain ⟨rfl, h2⟩ := hd
  cases d' with
  | struct fields =>
    dsimp only
    cases hf : fields[f]? with
    | none => exact Sim.halt
    | some fd => exact Sim.bnd (sim_asAgg (h.mono hle2)) (fun κ a a' _ ha => sim_part fd.type fd.offset ha)
  | _ => exact Sim.halt
theorem sim_index {P : Program} {base : Nat → Prop} {ι : Ren} {v v' x x' : Value} (t : TypeId) (h : VRel ι v v') (hx : VRel ι x x') : Sim P base VV ι (Instr.index t v x) (Instr.index t v' x') := by
  unfold Instr.index
  refine Sim.bnd (sim_asIntOf hx) (fun κ a a' hle ha => ?_)
  subst ha
  obtain ⟨k, i⟩ := a'
  dsimp only
  refine Sim.bnd (sim_underlying t) (fun κ2 d d' hle2 hd => ?_)
  obtain ⟨rfl, h2⟩ := hd
  have hv := (h.mono hle).mono hle2
  cases d' with
  | array n elem =>
    cases hv with
    | agg f f' hf hr =>
      dsimp only
      split
      · exact Sim.bnd (sim_sizeOf elem) (fun κ3 z z' hle3 hz => by subst hz; exact sim_part elem _ ((show ARel κ2 f f' from ⟨hf, hr⟩).mono hle3))
      · exact Sim.bounds
    | _ => exact Sim.halt
  | string =>
    cases hv with
    | string s =>
      dsimp only
      split
      · exact Sim.ret (.int _ _)
      · exact Sim.bounds
    | _ => exact Sim.halt
  | _ => exact Sim.halt
theorem sim_extract {P : Program} {base : Nat → Prop} {ι : Ren} {v v' : Value} (i : Nat) (h : VRel ι v v') : Sim P base VV ι (Instr.extract v i) (Instr.extract v' i) := by
  unfold Instr.extract
  cases h with
  | tuple f f' hf hr =>
    dsimp only
    rcases ARel.get (ι := ι) (f := f) (f' := f') ⟨hf, hr⟩ i with ⟨e1, e2⟩ | ⟨v, v', e1, e2, hv⟩
    · rw [e1]; exact Sim.halt
    · rw [e1, e2]; exact Sim.ret hv
  | _ => exact Sim.halt
theorem sim_makeInterface {P : Program} {base : Nat → Prop} {ι : Ren} {v v' : Value} (t : TypeId) (h : VRel ι v v') : Sim P base VV ι (Instr.makeInterface t v) (Instr.makeInterface t v') := by
  unfold Instr.makeInterface
  refine Sim.bnd (sim_underlying t) (fun κ2 d d' hle2 hd => ?_)
  obtain ⟨rfl, h2⟩ := hd
  cases d' <;> first | exact Sim.halt | exact Sim.ret (.iface t v v' (h.mono hle2))
theorem sim_makeFunc {P : Program} {base : Nat → Prop} {ι : Ren} {f f' c c' : Array Value} (fn : Fn) (hy : ∀ l, fn ≠ .yield l) (hf : ARel ι f f') (hc : ARel ι c c') : Sim P base VV ι (Instr.makeFunc fn f c) (Instr.makeFunc fn f' c') :=
  Sim.ret (.func fn f f' c c' hy hf.1 hc.1 hf.2 hc.2)
theorem sim_makeMap {P : Program} {base : Nat → Prop} {ι : Ren} {r r' : Option Value} (t : TypeId) (h : OVRel ι r r') : Sim P base VV ι (Instr.makeMap t r) (Instr.makeMap t r') := by
  have new : ∀ κ : Ren, Sim P base VV κ (do pure (Value.map (some (← Go.newObj (.map #[] 0))))) (do pure (Value.map (some (← Go.newObj (.map #[] 0))))) := by
    intro κ
    unfold Go.newObj
    exact Sim.bnd (R := fun κ id b => κ id = some b) (Sim.new ⟨#[], rfl, rfl, fun i e e' h => by simp at h⟩ (fun κ id b hle hb hg => Sim.pure hb)) (fun κ id b hle hb => Sim.ret (.map id b hb))
  unfold Instr.makeMap
  cases r with
  | none =>
    cases r' with
    | none => exact new ι
    | some v => exact h.elim
  | some v =>
    cases r' with
    | none => exact h.elim
    | some v' =>
      dsimp only
      refine Sim.bnd (sim_underlying t) (fun κ2 d d' hle2 hd => ?_)
      obtain ⟨rfl, h2⟩ := hd
      cases d' with
      | map k e =>
        dsimp only
        exact Sim.bnd (sim_asInt (VRel.mono hle2 h)) (fun κ3 _ _ _ _ => new κ3)
      | _ => exact Sim.halt
end Go.Ev
