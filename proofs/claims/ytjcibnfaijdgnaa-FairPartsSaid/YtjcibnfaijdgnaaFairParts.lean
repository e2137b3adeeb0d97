/- 'FairParts' returns true, whatever its arguments are, and leaves them as they were. -/
import Derived.Test.YtjcibnfaijdgnaaMe
import Derived.Test.YtjcibnfaijdgnaaLaw
import Derived.Deep.Slices
import Derived.ChangeSame
namespace Go.Proofs.Ytjcibnfaijdgnaa
open Go.ChangeShapes Go.WideShapes Go.ChangeAt Go.RowKit Go.Deep
set_option linter.unusedVariables false
set_option linter.unusedSimpArgs false

theorem law_walk (p : LawP) : Calls Try.prog 4 #[.int .u8 p.l, .int .u8 p.w, p.sv, .int .i64 p.fr0, .int .i64 p.to0, .int .u8 p.mo] p.W fun e w' => e = .returned (.bool true) ∧ Below p.W.heap.size p.W w' := by
  refine Ev.con_start (N := 123) (tm := [(0, .int .u8 p.l), (1, .int .u8 p.w), (2, p.sv), (3, .int .i64 p.fr0), (4, .int .i64 p.to0), (5, .int .u8 p.mo)]) (by kernel_rfl) (Ev.now_nil p.W) (by simp) (by simp) (fun A h => ?_)
  have fin : ∀ A1 w1, Ev.At p.c 123 [(12, .bool true)] [] A1 w1 → bodyPostM Fence.wide 0 Try.prog (Ev.fnOf Try.prog 4) (fun e w' => e = .returned (.bool true) ∧ Below p.W.heap.size p.W w') .ret A1 w1 :=
    fun A1 w1 h1 => h1.ret (by kernel_rfl) (List.mem_singleton.2 rfl) (fun hh => ⟨rfl, hh.below (fun _ h => h)⟩)
  by_cases hf : p.ss.length ≤ 60 ∧ ∀ s ∈ p.ss, s.zs.length ≤ 20
  · obtain ⟨n, b, hn⟩ := firstIs_ex p.b p.a p.ss
    cases b with
    | true => exact lwB p hf n hn A p.W _ h (fun κ A1 w1 h1 => fin A1 w1 h1)
    | false => exact lwG p hf n hn A p.W _ h (fun κ A1 w1 h1 => fin A1 w1 h1)
  · exact lwA p hf A p.W _ h (fun κ A1 w1 h1 => fin A1 w1 h1)

section
variable {H : Type} {enc : TypeId × Value → H} {w : World}
theorem cell_lt {a : Addr} {v : Value} (h : w.cell? a = some v) : a.block < w.heap.size := by
  unfold World.cell? at h
  cases hb : w.heap[a.block]? with
  | none => rw [hb] at h; cases h
  | some o => exact (Array.getElem?_eq_some_iff.1 hb).1
theorem add_none {b off n : Nat} : (⟨b, off, none⟩ : Addr).add n = ⟨b, off + n, none⟩ := Ev.addMk b off n
/-- A row of numbers, as one that is read. -/
theorem open_active {fuel : Nat} {v : Value} {x : DataW H × List MemPlace} (h : DataW.trod enc Try.prog w 0 (fun _ => true) true fuel 45 [v] = some x) :
    ∃ zs : List Int, Ev.SlR 1 v zs.length (zs.map (Value.int .i64)) w ∧ ∀ z ∈ zs, Ev.wfI z := by
  rcases open_ints Try.underlying45 Try.underlying3 (by kernel_rfl) h with ⟨hcs, _⟩ | ⟨a, len, cap, zs, hcs, _, hl, _, hz, _, hc, hwz⟩
  · simp only [List.cons.injEq, and_true] at hcs
    exact ⟨[], ⟨rfl, .inl ⟨rfl, none, 0, hcs⟩⟩, fun z hz => by cases hz⟩
  · simp only [List.cons.injEq, and_true] at hcs
    simp only [if_true] at hz
    have hlen : (zs.take len).length = len := by rw [List.length_take]; omega
    refine ⟨zs.take len, ⟨by simp, ?_⟩, fun z hm => hwz z (List.mem_of_mem_take hm)⟩
    rw [hlen]
    rcases Nat.eq_zero_or_pos len with h0 | h0
    · subst h0
      exact .inl ⟨rfl, some a, cap, hcs⟩
    · have h1 := hc 0 (by omega)
      have hs : a.spot = none := by simpa [Addr.add] using World.cell?_spot h1
      obtain ⟨b, off, spot⟩ := a
      simp only at hs
      subst hs
      have hb : b < w.heap.size := by
        have := cell_lt h1
        rw [add_none] at this
        exact this
      refine .inr ⟨b, off, cap, hcs, ⟨hb, hl⟩, fun j hj => ?_⟩
      have h2 := hc j (by omega)
      rw [add_none] at h2
      rw [h2, List.getElem?_map, List.getElem?_take, if_pos (by omega), List.getElem?_eq_getElem (by omega)]
      simp [List.getD_eq_getElem?_getD, List.getElem?_eq_getElem (show j < zs.length by omega)]
/-- A sample's cells. -/
theorem open_sample {fuel : Nat} {cs : List Value} {x : DataW H × List MemPlace} (h : DataW.trod enc Try.prog w 0 (fun _ => true) true fuel 47 cs = some x) :
    ∃ s : Smp, cs = s.cells ∧ Ev.SlR 1 s.act s.zs.length (s.zs.map (Value.int .i64)) w ∧ Ev.wfI s.am ∧ Ev.wfI s.gg ∧ ∀ z ∈ s.zs, Ev.wfI z := by
  obtain ⟨ys, n, _, _, hlen, hyl, hf⟩ := DataW.trod_struct Try.underlying47 h
  have hC : Try.prog.cellsOf 47 = 6 := by kernel_rfl
  rw [hC] at hlen
  match cs, hlen with
  | [c0, c1, c2, c3, c4, c5], _ =>
    have k0 := hf 0 _ rfl
    have k1 := hf 1 _ rfl
    have k2 := hf 2 _ rfl
    have k3 := hf 3 _ rfl
    have k4 := hf 4 _ rfl
    have k5 := hf 5 _ rfl
    have one : ∀ t : TypeId, Try.prog.cellsOf t = 1 → ∀ (c : Value) (l : List Value), (c :: l).take (Try.prog.cellsOf t) = [c] := fun t ht c l => by rw [ht]; rfl
    have i1 : Try.prog.cellsOf 3 = 1 := by kernel_rfl
    have i2 : Try.prog.cellsOf 2 = 1 := by kernel_rfl
    have i3 : Try.prog.cellsOf 45 = 1 := by kernel_rfl
    have i4 : Try.prog.cellsOf 4 = 1 := by kernel_rfl
    have g : ∀ i, i < 6 → ∃ y, ys[i]? = some y := fun i hi => ⟨_, List.getElem?_eq_getElem (by rw [hyl]; exact hi)⟩
    obtain ⟨y0, e0⟩ := g 0 (by omega)
    obtain ⟨y1, e1⟩ := g 1 (by omega)
    obtain ⟨y2, e2⟩ := g 2 (by omega)
    obtain ⟨y3, e3⟩ := g 3 (by omega)
    obtain ⟨y4, e4⟩ := g 4 (by omega)
    obtain ⟨y5, e5⟩ := g 5 (by omega)
    replace k0 : DataW.trod enc Try.prog w 0 (fun _ => true) true n 3 [c0] = some y0 := by rw [← e0, ← k0, ← one _ i1 c0 [c1, c2, c3, c4, c5]]; rfl
    replace k1 : DataW.trod enc Try.prog w 0 (fun _ => true) true n 3 [c1] = some y1 := by rw [← e1, ← k1, ← one _ i1 c1 [c2, c3, c4, c5]]; rfl
    replace k2 : DataW.trod enc Try.prog w 0 (fun _ => true) true n 2 [c2] = some y2 := by rw [← e2, ← k2, ← one _ i2 c2 [c3, c4, c5]]; rfl
    replace k3 : DataW.trod enc Try.prog w 0 (fun _ => true) true n 45 [c3] = some y3 := by rw [← e3, ← k3, ← one _ i3 c3 [c4, c5]]; rfl
    replace k4 : DataW.trod enc Try.prog w 0 (fun _ => true) true n 3 [c4] = some y4 := by rw [← e4, ← k4, ← one _ i1 c4 [c5]]; rfl
    replace k5 : DataW.trod enc Try.prog w 0 (fun _ => true) true n 4 [c5] = some y5 := by rw [← e5, ← k5, ← one _ i4 c5 []]; rfl
    obtain ⟨m0, q0, _, w0⟩ := DataW.trod_int Try.underlying3 k0
    obtain ⟨m1, q1, _, w1⟩ := DataW.trod_int Try.underlying3 k1
    obtain ⟨m2, q2, _, w2⟩ := DataW.trod_int Try.underlying2 k2
    obtain ⟨zs, hz, wz⟩ := open_active k3
    obtain ⟨m4, q4, _, w4⟩ := DataW.trod_int Try.underlying3 k4
    obtain ⟨m5, q5, _⟩ := DataW.trod_bool Try.underlying4 k5
    simp only [List.cons.injEq, and_true] at q0 q1 q2 q4 q5
    subst q0 q1 q2 q4 q5
    exact ⟨⟨m0, m1, m2, c3, zs, m4, m5⟩, rfl, hz, w1, w4, wz⟩
theorem smps_of {n : Nat} {Q : Nat → Smp → Prop} (h : ∀ i, i < n → ∃ s, Q i s) : ∃ ss : List Smp, ss.length = n ∧ ∀ (i : Nat) s, ss[i]? = some s → Q i s := by
  induction n with
  | zero => exact ⟨[], rfl, fun i s h => by cases h⟩
  | succ n ih =>
    obtain ⟨ss, h1, h2⟩ := ih (fun i hi => h i (by omega))
    obtain ⟨s, hs⟩ := h n (by omega)
    refine ⟨ss ++ [s], by simp [h1], fun i x hx => ?_⟩
    rcases Nat.lt_or_ge i ss.length with hi | hi
    · rw [List.getElem?_append_left hi] at hx
      exact h2 i x hx
    · rw [List.getElem?_append_right hi] at hx
      cases hk : i - ss.length with
      | zero =>
        rw [hk] at hx
        cases hx
        obtain rfl : i = n := by omega
        exact hs
      | succ m => rw [hk] at hx; cases hx
theorem open_samples {v : Value} {d : DataW H} {ps : List MemPlace} {r : Reach} {b0 : Nat} (hv : Value.okWide Try.prog w r b0 31 v) (h : DataW.Trod enc Try.prog w 0 (fun _ => true) true 31 v d ps) :
    ∃ ss : List Smp, Ev.SlR 6 v ss.length (ss.flatMap Smp.cells) w ∧ ∀ s ∈ ss, Ev.SlR 1 s.act s.zs.length (s.zs.map (Value.int .i64)) w ∧ Ev.wfI s.am ∧ Ev.wfI s.gg ∧ ∀ z ∈ s.zs, Ev.wfI z := by
  have hC : Try.prog.cellsOf 47 = 6 := by kernel_rfl
  obtain ⟨a0, n0, c0, rfl⟩ := okWide_slice Try.underlying31 hv
  obtain ⟨fuel, hf⟩ := h
  rcases open_slice Try.underlying31 hf with ⟨hcs, _⟩ | ⟨a, len, cap, m, n, D, Pl, hcs, _, hl, _, hm, _, hi⟩
  · simp [Value.cells] at hcs
    obtain ⟨rfl, rfl, rfl⟩ := hcs
    exact ⟨[], ⟨rfl, .inl ⟨rfl, _, _, rfl⟩⟩, fun s hs => by cases hs⟩
  · simp [Value.cells] at hcs
    obtain ⟨rfl, rfl, rfl⟩ := hcs
    simp only [if_true] at hm
    subst hm
    rw [hC] at hi
    obtain ⟨ss, h1, h2⟩ := smps_of (n := n0) (Q := fun i s => w.cells? 0 (a.add (i * 6)) 6 = some s.cells ∧ Ev.SlR 1 s.act s.zs.length (s.zs.map (Value.int .i64)) w ∧ Ev.wfI s.am ∧ Ev.wfI s.gg ∧ ∀ z ∈ s.zs, Ev.wfI z) (fun i hlt => by
      obtain ⟨cs', hc, ht⟩ := hi i (by omega)
      obtain ⟨s, rfl, h3⟩ := open_sample ht
      exact ⟨s, hc, h3⟩)
    refine ⟨ss, ?_, fun s hs => ?_⟩
    · refine ⟨cells_len ss, ?_⟩
      rw [h1]
      rcases Nat.eq_zero_or_pos n0 with h0 | h0
      · subst h0
        exact .inl ⟨rfl, _, _, rfl⟩
      · have hat : ∀ i s, ss[i]? = some s → ∀ j, j < 6 → w.cell? ((a.add (i * 6)).add j) = s.cells[j]? := fun i s hs j hj => (World.cells?_some (h2 i s hs).1).2.2 j hj
        have e0 := hat 0 ss[0] (List.getElem?_eq_getElem (by omega)) 0 (by omega)
        have hs : a.spot = none := by
          have := World.cell?_spot (e0.trans (show _ = some (Value.int .i64 ss[0].kind) from rfl))
          simpa [Addr.add] using this
        have hb := cell_lt (e0.trans (show _ = some (Value.int .i64 ss[0].kind) from rfl))
        obtain ⟨b, off, spot⟩ := a
        simp only at hs
        subst hs
        rw [add_none, add_none] at hb
        refine .inr ⟨b, off, _, rfl, ⟨hb, hl⟩, fun j hj => ?_⟩
        have hq : j / 6 < ss.length := by omega
        have e1 := hat (j / 6) ss[j / 6] (List.getElem?_eq_getElem hq) (j % 6) (by omega)
        rw [add_none, add_none] at e1
        rw [show off + j = off + j / 6 * 6 + j % 6 by omega, e1]
        obtain ⟨tl, e2⟩ := cells_drop (List.getElem?_eq_getElem hq)
        have e3 : ((ss.flatMap Smp.cells).drop (j / 6 * 6))[j % 6]? = (ss[j / 6].cells ++ tl)[j % 6]? := by rw [e2]
        rw [List.getElem?_drop, show j / 6 * 6 + j % 6 = j by omega, List.getElem?_append_left (by simp [Smp.cells]; omega)] at e3
        exact e3.symm
    · obtain ⟨i, hi, e⟩ := List.getElem_of_mem hs
      exact (h2 i s (by rw [List.getElem?_eq_getElem hi, e])).2
end
theorem u8_bd {n : Int} (h : (Lit.int .u8 n).wf = true) : 0 ≤ n ∧ n < 256 := by
  simp [Lit.wf, IntKind.min, IntKind.max, IntKind.signed, IntKind.bits] at h
  omega
theorem own : ownKnob Try.prog.godebug = none := by kernel_rfl
theorem laidOut : laidOutB Try.prog = true := by kernel_rfl

theorem fairParts_contract (H : Type) (enc : TypeId × Value → H) (W : World) (base : Nat) (args : Array Value) (ds gs : List (DataW H)) (before : List MemPlace)
    (hval : ∀ (j : Nat) t v, Try.f4.params[j]? = some t → args[j]? = some v → Value.okWide Try.prog W .any base t v)
    (hW : DataW.Whole enc Try.prog Try.f4.params.toList Rows.fairPartsSpec.vars false W args.toList ds gs before) :
    Calls Try.prog 4 args W fun e W' => ∃ v, e = .returned v ∧ Rows.fairPartsSpec.post enc Try.prog Try.f4 false true false false W args v W' := by
  have hW' := hW
  obtain ⟨p, q, hA0, hV, rfl, hfz, hnd⟩ := hW
  have hA : DataW.TrodAll enc Try.prog W 0 (fun _ => true) true Try.f4.params.toList args.toList ds p := hA0
  rw [Try.params4] at hA hval
  obtain ⟨v0, vs0, d0, ds0, p0, q0, hargs0, rfl, rfl, h0, r0⟩ := trodAll_cons hA
  obtain ⟨v1, vs1, d1, ds1, p1, q1, rfl, rfl, rfl, h1, r1⟩ := trodAll_cons r0
  obtain ⟨v2, vs2, d2, ds2, p2, q2, rfl, rfl, rfl, h2, r2⟩ := trodAll_cons r1
  obtain ⟨v3, vs3, d3, ds3, p3, q3, rfl, rfl, rfl, h3, r3⟩ := trodAll_cons r2
  obtain ⟨v4, vs4, d4, ds4, p4, q4, rfl, rfl, rfl, h4, r4⟩ := trodAll_cons r3
  obtain ⟨v5, vs5, d5, ds5, p5, q5, rfl, rfl, rfl, h5, r5⟩ := trodAll_cons r4
  obtain ⟨rfl, rfl, rfl⟩ := trodAll_nil r5
  obtain rfl : args = #[v0, v1, v2, v3, v4, v5] := by cases args; simp_all
  obtain ⟨l, rfl, rfl, rfl, wl⟩ := open_int Try.underlying5 (hval 0 _ v0 rfl rfl) h0
  obtain ⟨m, rfl, rfl, rfl, wm⟩ := open_int Try.underlying5 (hval 1 _ v1 rfl rfl) h1
  obtain ⟨ss, hs, hok⟩ := open_samples (hval 2 _ v2 rfl rfl) h2
  obtain ⟨fr, rfl, rfl, rfl, wf⟩ := open_int Try.underlying3 (hval 3 _ v3 rfl rfl) h3
  obtain ⟨to, rfl, rfl, rfl, wt⟩ := open_int Try.underlying3 (hval 4 _ v4 rfl rfl) h4
  obtain ⟨mo, rfl, rfl, rfl, wo⟩ := open_int Try.underlying5 (hval 5 _ v5 rfl rfl) h5
  refine (law_walk ⟨W, l, m, v2, ss, fr, to, mo, (u8_bd wl).1, (u8_bd wl).2, (u8_bd wm).1, (u8_bd wm).2, (u8_bd wo).1, (u8_bd wo).2, hs, hok⟩).mono fun x W' ⟨he, hb⟩ => ?_
  subst he
  exact ⟨_, rfl, law_post laidOut hW' rfl (by kernel_rfl) Try.underlying4 rfl (by
    rw [Try.params4]
    intro t ht
    simp only [List.mem_cons, List.not_mem_nil, or_false] at ht
    rcases ht with rfl | rfl | rfl | rfl | rfl | rfl <;> exact ⟨by kernel_rfl, of_decide_eq_true (by kernel_rfl)⟩) hb⟩

set_option maxRecDepth 100000 in
theorem fairParts_lifted (os : Os) (started : os.Started) (H : Type) (enc : TypeId × Value → H) :
    ReturnsInHanded {} Try.checked os 4 .any (Rows.fairPartsSpec.pre6 enc Try.prog Try.f4 Rows.fairPartsRow.domain false) (Rows.fairPartsSpec.post enc Try.prog Try.f4 false true false false) := by
  refine returnsInHanded_of_change (C := Try.checked) own started (by kernel_rfl) Try.func4
    (ChangeSpec.witness6 (enc := enc) (C := Try.checked) false ⟨#[], #[.int .u8 0, .int .u8 0, .slice none 0 0, .int .i64 0, .int .i64 0, .int .u8 0], []⟩ 8 (by kernel_rfl) (by kernel_rfl) (by kernel_rfl) (by kernel_rfl)) ?_
  intro W base args ds gs before hval hW _ _
  exact fairParts_contract H enc W base args ds gs before hval hW

theorem fairParts_holds : Rows.FairPartsSaid :=
  OpenClaim.holds_of_wide 4 Try.f4 rfl rfl rfl rfl rfl rfl rfl ⟨rfl, rfl, rfl, rfl, rfl⟩ rfl rfl rfl rfl rfl (by kernel_rfl) Try.func4 (by kernel_rfl)
    (of_decide_eq_true (by kernel_rfl)) (by unfold Func.isWrapper; first | (rw [if_pos (by decide +kernel)]; kernel_rfl) | (rw [if_neg (by decide +kernel)]; exact ⟨rfl, rfl⟩))
    (fun os started H enc _ => fairParts_lifted os started H enc)
end Go.Proofs.Ytjcibnfaijdgnaa
