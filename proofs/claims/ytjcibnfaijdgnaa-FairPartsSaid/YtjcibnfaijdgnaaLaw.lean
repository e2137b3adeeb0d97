/- Laws: what is left behind a call that returned true and changed nothing that was there; structs of numbers, opened. -/
import Derived.Test.YtjcibnfaijdgnaaRows
import Derived.WalkKit
import Derived.ProofKit
import Derived.OpenShut
import Derived.Carry
import Derived.Deep.Fields
namespace Go.Proofs.Ytjcibnfaijdgnaa
open Go.ChangeShapes Go.WideShapes Go.ChangeAt Go.RowKit Go.Deep
set_option linter.unusedVariables false

section
variable {H : Type} {enc : TypeId × Value → H} {P : Program}

/-- All arguments read as they did. -/
theorem trodAll_below (hl : laidOutB P = true) {W W' : World} (hb : Below W.heap.size W W') : ∀ (ts : List TypeId) (vs : List Value) (ds : List (DataW H)) (ps : List MemPlace),
    DataW.TrodAll enc P W 0 (fun _ => true) true ts vs ds ps → (∀ t ∈ ts, P.readableRec t = true ∧ t < P.types.size) → (∀ x ∈ ps, x.block < W.heap.size) →
    DataW.TrodAll enc P W' 0 (fun b => decide (b < W.heap.size)) true ts vs ds ps := by
  intro ts
  induction ts with
  | nil =>
    intro vs ds ps h _ _
    obtain ⟨rfl, rfl, rfl⟩ := trodAll_nil h
    exact trodAll_mk0
  | cons t ts ih =>
    intro vs ds ps h hr hlt
    obtain ⟨v, vs', d, ds', p, q, rfl, rfl, rfl, h1, h2⟩ := trodAll_cons h
    exact trodAll_cons_mk ((hb.trod hl (hr t (List.mem_cons_self ..)).1 (hr t (List.mem_cons_self ..)).2 h1 (fun x hx => hlt x (List.mem_append_left _ hx))))
      (ih vs' ds' q h2 (fun t' ht' => hr t' (List.mem_cons_of_mem _ ht')) (fun x hx => hlt x (List.mem_append_right _ hx)))

/-- A law's step: it returned true, and what was there is as it was. -/
theorem law_post {f : Func} {s : ChangeSpec} {W W' : World} {args : Array Value} {ds gs : List (DataW H)} {before : List MemPlace} {tb : TypeId} (hl : laidOutB P = true)
    (hW : DataW.Whole enc P f.params.toList s.vars false W args.toList ds gs before) (hvars : s.vars = []) (hres : f.resultTypes = #[tb]) (hbool : P.underlying tb = some .bool)
    (hfn : s.fn H ds = { results := [.lit (.bool true)], args := ds }) (hread : ∀ t ∈ f.params.toList, P.readableRec t = true ∧ t < P.types.size) (hb : Below W.heap.size W W') :
    s.post enc P f false true false false W args (.bool true) W' := by
  have hW0 := hW
  obtain ⟨p, q, hA, hV, hpq, hz, hn⟩ := hW
  rw [hvars] at hV
  obtain ⟨rfl, rfl⟩ := trodVars_none hV
  have hlt : ∀ x ∈ before, x.block < W.heap.size := fun x hx => hW0.lt x hx
  have hpl : before = p := by rw [hpq, List.append_nil]
  refine ⟨ds, [], before, [], p, [], hW0, ?_, ?_, ?_, ?_, fun h => by cases h⟩
  · rw [List.append_nil, hfn, hres]
    exact trodAll_mk1 (shut_bool hbool true)
  · rw [List.append_nil, hfn]
    exact trodAll_below hl hb _ _ _ _ hA hread (fun x hx => hlt x (by rw [hpl]; exact hx))
  · rw [hvars, List.append_nil, hfn]
    rfl
  · exact World.keptBut_mono (fun x hx => ⟨hx, .inr (.inl (by rw [hpl] at hx; exact hx))⟩) (hb.frame (· ∈ before))

/-- A struct by value: its cells, each with its field's reading. -/
theorem open_cells {W : World} {base b0 : Nat} {spare : Nat → Bool} {held : Bool} {r : Reach} {t : TypeId} {fs : Array Field} {v : Value} {d : DataW H} {p : List MemPlace} (hs : P.underlying t = some (.struct fs)) (hone : oneCellFields P fs = true) (hC : P.cellsOf t = fs.size)
    (hv : Value.okWide P W r b0 t v) (h : DataW.Trod enc P W base spare held t v d p) :
    ∃ cs : Array Value, v = .agg cs ∧ cs.size = fs.size ∧ ∀ (j : Nat) (f : Field), fs[j]? = some f → ∃ n x y, cs[j]? = some x ∧ DataW.trod enc P W base spare held n f.type [x] = some y := by
  obtain ⟨cs, rfl, hsz⟩ := okWide_struct hs hv
  obtain ⟨fuel, hf⟩ := h
  obtain ⟨ys, n, hn, hy, hlen, hyl, hfs⟩ := DataW.trod_struct hs hf
  rw [hC] at hsz
  refine ⟨cs, rfl, hsz, fun j f hj => ?_⟩
  obtain ⟨ho, hk⟩ := hone_of hone j f hj
  have hjl : j < cs.size := by rw [hsz]; exact (Array.getElem?_eq_some_iff.1 hj).1
  have h1 := hfs j f hj
  have hjy : j < ys.length := by rw [hyl]; exact (Array.getElem?_eq_some_iff.1 hj).1
  have hys : ys[j]? = some (ys[j]'hjy) := List.getElem?_eq_getElem hjy
  have hc : (((Value.agg cs).cells.toList.drop f.offset).take (P.cellsOf f.type)) = [cs[j]] := by
    rw [ho, hk]
    show ((cs.toList.drop j).take 1) = _
    rw [List.drop_eq_getElem_cons (by simpa using hjl)]
    rfl
  refine ⟨n, cs[j], ys[j]'hjy, Array.getElem?_eq_getElem hjl, ?_⟩
  rw [← hc, ← hys]
  exact h1
theorem agg_ints {cs : Array Value} : ∀ (k : Nat), cs.size = k → (∀ j, j < k → ∃ n : Int, cs[j]? = some (.int .i64 n) ∧ (Lit.int .i64 n).wf = true) → ∃ ns : List Int, ns.length = k ∧ (∀ n ∈ ns, (Lit.int .i64 n).wf = true) ∧ cs = (ns.map (Value.int .i64)).toArray := by
  intro k hk h
  have main : ∀ m, m ≤ k → ∃ ns : List Int, ns.length = m ∧ (∀ n ∈ ns, (Lit.int .i64 n).wf = true) ∧ ∀ j, j < m → cs[j]? = (ns.map (Value.int .i64))[j]? := by
    intro m
    induction m with
    | zero => intro _; exact ⟨[], rfl, (fun n hn => by cases hn), fun j hj => by omega⟩
    | succ m ih =>
      intro hm
      obtain ⟨ns, h1, h2, h3⟩ := ih (by omega)
      obtain ⟨n, hn, hw⟩ := h m (by omega)
      refine ⟨ns ++ [n], by simp [h1], fun x hx => ?_, fun j hj => ?_⟩
      · rcases List.mem_append.1 hx with g | g
        · exact h2 x g
        · rw [List.mem_singleton.1 g]; exact hw
      · rcases Nat.lt_or_ge j m with g | g
        · rw [h3 j g, List.map_append, List.getElem?_append_left (by simpa [h1] using g)]
        · obtain rfl : j = m := by omega
          rw [hn, List.map_append, List.getElem?_append_right (by simp [h1])]
          simp [h1]
  obtain ⟨ns, h1, h2, h3⟩ := main k (Nat.le_refl _)
  refine ⟨ns, h1, h2, ?_⟩
  apply Array.ext_getElem?
  intro j
  rcases Nat.lt_or_ge j k with g | g
  · rw [h3 j g]; simp
  · rw [Array.getElem?_eq_none (by omega), Array.getElem?_eq_none (by simp; omega)]
theorem int_bd {n : Int} (h : (Lit.int .i64 n).wf = true) : -9223372036854775808 ≤ n ∧ n ≤ 9223372036854775807 := by
  simpa [Lit.wf, IntKind.min, IntKind.max, IntKind.signed, IntKind.bits] using h
end
end Go.Proofs.Ytjcibnfaijdgnaa
