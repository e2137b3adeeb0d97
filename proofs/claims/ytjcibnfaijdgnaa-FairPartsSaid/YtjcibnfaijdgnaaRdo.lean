/- Memory that is only read: as it was in a world w0. Slices in it. -/
import Derived.Test.YtjcibnfaijdgnaaMpi
namespace Go.Ev
open Go.RowKit
set_option linter.unusedVariables false
set_option linter.unusedSimpArgs false
set_option linter.unusedSectionVars false

/-- All that was there in w0, but X, is as it was. -/
def oldX (w0 : World) (X : Nat → Prop) : Asr where
  p := fun _ F w => (∀ j, F j ↔ j < w0.heap.size ∧ ¬ X j) ∧ ∀ j, j < w0.heap.size → ¬ X j → w.heap[j]? = w0.heap[j]?
  keep := fun ι F w w' hk ⟨h1, h3⟩ => ⟨h1, fun j hj hx => (hk j ((h1 j).2 ⟨hj, hx⟩)).trans (h3 j hj hx)⟩
  mono := fun _ _ _ _ _ h => h
abbrev oldA (w0 : World) : Asr := oldX w0 (fun _ => False)
/-- A slice that does not lie in X. -/
def OffX (X : Nat → Prop) : Value → Prop
  | .slice (some ⟨b, _, _⟩) n _ => 0 < n → ¬ X b
  | _ => True
theorem offNone (v : Value) : OffX (fun _ => False) v := by
  unfold OffX
  split
  · exact fun _ h => h
  · trivial
/-- A slice of n elements of sz cells each, that hold xs. -/
def SlR (sz : Nat) (v : Value) (n : Nat) (xs : List Value) (w0 : World) : Prop :=
  xs.length = n * sz ∧ ((n = 0 ∧ ∃ a c, v = .slice a 0 c) ∨ ∃ b off c, v = .slice (some ⟨b, off, none⟩) n c ∧ (b < w0.heap.size ∧ n ≤ c) ∧ ∀ j, j < n * sz → w0.cell? ⟨b, off + j, none⟩ = xs[j]?)
/-- Where its m-th cell is. -/
def ptrR (v : Value) (m : Nat) : Value :=
  match v with
  | .slice (some ⟨b, off, _⟩) _ _ => .pointer (some ⟨b, off + m, none⟩)
  | _ => .pointer none
theorem ptrR_leaf (v : Value) (m : Nat) : leafV (ptrR v m) = true := by
  unfold ptrR
  split <;> rfl
theorem SlR.leaf {sz n : Nat} {v : Value} {xs : List Value} {w0 : World} (h : SlR sz v n xs w0) : leafV v = true := by
  obtain ⟨_, ⟨_, a, c, rfl⟩ | ⟨b, off, c, rfl, _⟩⟩ := h <;> rfl
theorem old_cell {w w0 : World} {X : Nat → Prop} {b o : Nat} (hb : b < w0.heap.size) (hx : ¬ X b) (h : ∀ j, j < w0.heap.size → ¬ X j → w.heap[j]? = w0.heap[j]?) : w.cell? ⟨b, o, none⟩ = w0.cell? ⟨b, o, none⟩ := by
  simp only [World.cell?, h b hb hx]

section rows
variable {k : Kn} {P : Program} {g : Nat} {l : List Asr} {ci : Nat} {w0 : World} {X : Nat → Prop} {t e : TypeId} {sL sI sP sQ sV n sz m : Nat} {v : Value} {xs : List Value}
theorem vsymR {ι : Ren} {m : Nat} {x' : Value} (h : letI : Sig := k.sig; VRel ι (sy m) x') : x' = k.val m := by
  letI : Sig := k.sig
  cases h with
  | sym n m' _ h => exact h.symm
theorem rsymR {ι : Ren} {m : Nat} {x' : Value} (h : k.val m = x') : letI : Sig := k.sig; VRel ι (sy m) x' := by
  letI : Sig := k.sig
  exact .sym m 0 x' h
theorem ro_len (hg : k.gs[g]? = some (star l)) (hi : l[ci]? = some (oldX w0 X)) (hs : SlR sz v n xs w0) (ht : P.underlying t = some (.slice e)) (hL : k.val sL = v) (hV : k.val sV = .int .i64 (n : Int)) : GTrue k P ⟨[10, t], [sy sL], none, g, none, sy sV, none⟩ := by
  refine GTrue.len k ?_
  letI : Sig := k.sig
  intro ι F w d x' ty q hx
  rw [vsymR hx, hL]
  have : (Builtin.len_ #[t] ty #[v]).run P w = .ok (.int .i64 n) w := by
    obtain ⟨h1, ⟨rfl, a, c, rfl⟩ | ⟨b, off, c, rfl, _⟩⟩ := hs <;> simp [Builtin.len_, run_underlying ht, goInt]
  exact ⟨_, w, this, rsymR hV, Below.refl _ _⟩
theorem ro_index {kd : IntKind} {j : Nat} {i : TypeInfo} (hg : k.gs[g]? = some (star l)) (hi : l[ci]? = some (oldX w0 X)) (hs : SlR sz v n xs w0) (ht : P.underlying t = some (.slice e)) (hinf : P.info? e = some i) (hsz : i.size = sz) (hL : k.val sL = v) (hI : k.val sI = .int kd (j : Int)) (hj : j < n) (hP : k.val sP = ptrR v (j * sz)) : GTrue k P ⟨[3, t], [sy sL, sy sI], none, g, none, sy sP, none⟩ := by
  refine GTrue.index k ?_
  letI : Sig := k.sig
  intro ι F w d x' y' q hx hy
  rw [vsymR hx, vsymR hy, hL, hI]
  obtain ⟨h1, ⟨rfl, _⟩ | ⟨b, off, c, rfl, ⟨hb, _⟩, hc⟩⟩ := hs
  · omega
  · refine ⟨.pointer (some ⟨b, off + j * sz, none⟩), w, ?_, rsymR hP, Below.refl _ _⟩
    have hc : (0 : Int) ≤ (j : Int) ∧ (j : Int) < (n : Int) := ⟨by omega, by omega⟩
    simp [Instr.indexAt, run_underlying ht, hc, sizeOf, typeInfo, hinf, hsz, addMk, asIntOf]
    intro h
    omega
/-- A field's address. -/
theorem ro_field {f fo : Nat} (hg : k.gs[g]? = some (star l)) (hs : SlR sz v n xs w0) (hn : 0 < n) (hF : ∀ b o w, (Instr.fieldAt t (.pointer (some ⟨b, o, none⟩)) f).run P w = .ok (.pointer (some ⟨b, o + fo, none⟩)) w) (hP : k.val sP = ptrR v m) (hQ : k.val sQ = ptrR v (m + fo)) : GTrue k P ⟨[7, t, f], [sy sP], none, g, none, sy sQ, none⟩ := by
  refine GTrue.fieldAddr k ?_
  letI : Sig := k.sig
  intro ι F w d x' q hx
  rw [vsymR hx, hP]
  obtain ⟨h1, ⟨rfl, _⟩ | ⟨b, off, c, rfl, ⟨hb, _⟩, hc⟩⟩ := hs
  · omega
  · exact ⟨_, w, hF b (off + m) w, rsymR (by rw [hQ]; show Value.pointer (some ⟨b, off + (m + fo), none⟩) = _; rw [Nat.add_assoc]), Below.refl _ _⟩
def LoadOne (P : Program) (t : TypeId) : Prop := ∀ b o x (w : World), w.cell? ⟨b, o, none⟩ = some x → (Instr.loadAt t (.pointer (some ⟨b, o, none⟩))).run P w = .ok x w
def LoadAgg (P : Program) (t : TypeId) (sz : Nat) : Prop := ∀ b o (cs : List Value) (w : World), cs.length = sz → (∀ j, j < sz → w.cell? ⟨b, o + j, none⟩ = cs[j]?) → (Instr.loadAt t (.pointer (some ⟨b, o, none⟩))).run P w = .ok (.agg cs.toArray) w
theorem ro_load {x : Value} (hg : k.gs[g]? = some (star l)) (hi : l[ci]? = some (oldX w0 X)) (hs : SlR sz v n xs w0) (hL : LoadOne P t) (hm : xs[m]? = some x) (hP : k.val sP = ptrR v m) (hV : k.val sV = x) (hX : OffX X v := by first | assumption | exact Go.Ev.offNone _) : GTrue k P ⟨[1, t], [sy sP], none, g, none, sy sV, none⟩ := by
  refine GTrue.load k ?_
  letI : Sig := k.sig
  intro ι F w d x' q hx
  obtain ⟨Fs, ff, hS, hf, h1, h3⟩ := star_ask hg hi q
  rw [vsymR hx, hP]
  have hlt := (List.getElem?_eq_some_iff.1 hm).1
  obtain ⟨e1, ⟨rfl, _⟩ | ⟨b, off, c, rfl, ⟨hb, _⟩, hc⟩⟩ := hs
  · omega
  · exact ⟨x, w, hL b (off + m) x w (by rw [old_cell hb (hX (Nat.pos_of_ne_zero (fun h0 => by rw [h0, Nat.zero_mul] at e1; omega))) h3, hc m (by omega), hm]), rsymR hV, Below.refl _ _⟩
theorem ro_agg {j : Nat} {cs abs : List Value} (hg : k.gs[g]? = some (star l)) (hi : l[ci]? = some (oldX w0 X)) (hs : SlR sz v n xs w0) (hL : LoadAgg P t sz) (hj : j < n) (hcs : cs = (xs.drop (j * sz)).take sz) (hP : k.val sP = ptrR v (j * sz)) (hV : ∀ ι, (letI : Sig := k.sig; LRel ι abs cs)) (hX : OffX X v := by first | assumption | exact Go.Ev.offNone _) : GTrue k P ⟨[1, t], [sy sP], none, g, none, .agg abs.toArray, none⟩ := by
  refine GTrue.load k ?_
  letI : Sig := k.sig
  intro ι F w d x' q hx
  obtain ⟨Fs, ff, hS, hf, h1, h3⟩ := star_ask hg hi q
  rw [vsymR hx, hP]
  obtain ⟨e1, ⟨rfl, _⟩ | ⟨b, off, c, rfl, ⟨hb, _⟩, hc⟩⟩ := hs
  · omega
  · have hle : j * sz + sz ≤ n * sz := by
      have := Nat.mul_le_mul_right sz (show j + 1 ≤ n by omega)
      rw [Nat.add_mul, Nat.one_mul] at this
      exact this
    have hlen : cs.length = sz := by
      rw [hcs, List.length_take, List.length_drop]
      omega
    refine ⟨.agg cs.toArray, w, hL b (off + j * sz) cs w hlen (fun i hi => ?_), ?_, Below.refl _ _⟩
    · rw [Nat.add_assoc, old_cell hb (hX (by omega)) h3, hc _ (by omega), hcs, List.getElem?_take, if_pos hi, List.getElem?_drop]
    · have := hV ι
      exact .agg _ _ (by simpa using this.1) (fun i v v' a b => this.2 i v v' (by simpa using a) (by simpa using b))
end rows

/-- All that was there in w0, but X, is as it was, in w. -/
def OldW (w0 : World) (X : Nat → Prop) (w : World) : Prop := ∀ j, j < w0.heap.size → ¬ X j → w.heap[j]? = w0.heap[j]?
theorem SlR.old {sz n : Nat} {v : Value} {xs : List Value} {w0 w : World} {X : Nat → Prop} (h : SlR sz v n xs w0) (ho : OldW w0 X w) (hX : OffX X v := by first | assumption | exact Go.Ev.offNone _) : SlR sz v n xs w := by
  obtain ⟨h1, h2 | ⟨b, off, c, e, ⟨hb, hcap⟩, hc⟩⟩ := h
  · exact ⟨h1, .inl h2⟩
  · subst e
    rcases Nat.eq_zero_or_pos n with h0 | h0
    · subst h0
      exact ⟨h1, .inl ⟨rfl, _, _, rfl⟩⟩
    have hX := hX h0
    have hlt : b < w.heap.size := by
      have e1 := ho b hb hX
      rw [Array.getElem?_eq_getElem hb] at e1
      exact (Array.getElem?_eq_some_iff.1 e1).1
    exact ⟨h1, .inr ⟨b, off, c, rfl, ⟨hlt, hcap⟩, fun j hj => by rw [old_cell hb hX ho]; exact hc j hj⟩⟩
/-- A call that only reads. -/
theorem ro_call {k : Kn} {P : Program} {g : Nat} {l : List Asr} {ci : Nat} {w0 : World} {X : Nat → Prop} {f : FuncId} {abs args : List Value} {sV : Nat} {r : Value} (hg : k.gs[g]? = some (star l)) (hi : l[ci]? = some (oldX w0 X)) (hc : ∀ w, OldW w0 X w → Calls P f args.toArray w fun e w' => e = .returned r ∧ Below w.heap.size w w') (hV : k.val sV = r)
    (ha : ∀ ι l', (letI : Sig := k.sig; LRel ι abs l') → l' = args) : GCTrue k P ⟨f, abs, g, none, sy sV, none⟩ := by
  letI : Sig := k.sig
  intro ι args' F w d hl h1 h2 h3 h4
  have e := ha ι _ hl
  obtain ⟨b, q1, q2⟩ := h1
  rw [hg] at q1
  cases q1
  obtain ⟨Fs, q2⟩ := q2
  have hlt : ci < Fs.length := by rw [q2.len]; exact (List.getElem?_eq_some_iff.1 hi).1
  obtain ⟨_, o3⟩ := q2.holds ci _ _ hi (List.getElem?_eq_getElem hlt)
  have ea : args' = args.toArray := by rw [← e]
  rw [ea]
  refine (hc w o3).mono ?_
  rintro e w' ⟨rfl, hb⟩
  exact ⟨r, rfl, rsymR hV, hb⟩
theorem lsym2 {k : Kn} {m n : Nat} {x y : Value} (h1 : k.val m = x) (h2 : k.val n = y) : ∀ ι l', (letI : Sig := k.sig; LRel ι [sy m, sy n] l') → l' = [x, y] := by
  letI : Sig := k.sig
  intro ι l' h
  obtain ⟨x', y', e, hx, hy⟩ := ops2 h
  rw [e, vsymR hx, vsymR hy, h1, h2]
/-- A value that is known. -/
def IsV (k : Kn) (x v : Value) : Prop := ∀ ι x', (letI : Sig := k.sig; VRel ι x x') → x' = v
theorem isSym {k : Kn} {m : Nat} {v : Value} (h : k.val m = v) : IsV k (sy m) v := fun ι x' hx => by rw [vsymR hx, h]
theorem isInt {k : Kn} {kd : IntKind} {m : Int} : IsV k (.int kd m) (.int kd m) := fun ι x' hx => by
  letI : Sig := k.sig
  cases hx with
  | int => rfl
theorem row_min {k : Kn} {P : Program} {g : Nat} {t u : TypeId} {x y : Value} {sV : Nat} {kd : IntKind} {a b : Int} (hx : IsV k x (.int kd a)) (hy : IsV k y (.int kd b)) (hV : k.val sV = .int kd (min a b)) : GTrue k P ⟨[16, t, u], [x, y], none, g, none, sy sV, none⟩ := by
  refine GTrue.min k ?_
  letI : Sig := k.sig
  intro ι F w d x' y' ty q h1 h2
  rw [hx _ _ h1, hy _ _ h2]
  refine ⟨_, w, ?_, rsymR hV, Below.refl _ _⟩
  simp [Builtin.min_, Builtin.min2]
  try (by_cases h : a ≤ b <;> simp [h, Int.min_def] <;> omega)
theorem row_max {k : Kn} {P : Program} {g : Nat} {t u : TypeId} {x y : Value} {sV : Nat} {kd : IntKind} {a b : Int} (hx : IsV k x (.int kd a)) (hy : IsV k y (.int kd b)) (hV : k.val sV = .int kd (max a b)) : GTrue k P ⟨[17, t, u], [x, y], none, g, none, sy sV, none⟩ := by
  refine GTrue.max k ?_
  letI : Sig := k.sig
  intro ι F w d x' y' ty q h1 h2
  rw [hx _ _ h1, hy _ _ h2]
  refine ⟨_, w, ?_, rsymR hV, Below.refl _ _⟩
  simp [Builtin.max_, Builtin.max2]
  try (by_cases h : a ≤ b <;> simp [h, Int.max_def] <;> omega)
/-! ### Between pieces -/
/-- An assertion that looks at no names. -/
def Flat (a : Asr) : Prop := ∀ ι κ F w, a.p ι F w → a.p κ F w
theorem flat_star {l : List Asr} (h : ∀ a ∈ l, Flat a) : Flat (star l) := fun ι κ F w ⟨Fs, q⟩ => ⟨Fs, q.len, fun i a f h1 h2 => h a (List.mem_of_getElem? h1) ι κ f w (q.holds i a f h1 h2), q.apart, q.all⟩
theorem flat_old (W : World) (X : Nat → Prop) : Flat (oldX W X) := fun _ _ _ _ h => h
theorem flat_map (P : Program) (kT e : TypeId) (b n : Nat) (f : Int → Option Int) : Flat (mapA P kT e b n f) := fun _ _ _ _ h => h
theorem flat_cur (P : Program) (kT e : TypeId) (b r n cnt : Nat) (f : Int → Option Int) (left : Int → Bool) (i : Int) : Flat (curA P kT e b r n cnt f left i) := fun _ _ _ _ h => h
theorem flat_next (P : Program) (kT e : TypeId) (b r n cnt : Nat) (f : Int → Option Int) (left : Int → Bool) : Flat (nextA P kT e b r n cnt f left) := fun _ _ _ _ h => h
theorem flat_rng (P : Program) (kT e : TypeId) (b n cnt : Nat) (v : Value) (f : Int → Option Int) (left : Int → Bool) : Flat (rngA P kT e b (.st v) n cnt f left) := fun _ _ _ _ h => h
theorem flat_rngL (P : Program) (kT e : TypeId) (b n cnt : Nat) (v : Value) (f : Int → Option Int) (left : Int → Bool) : Flat (rngL P kT e b (.st v) n cnt f left) := fun _ _ _ _ h => h
theorem flat_rngE (P : Program) (kT e : TypeId) (b n : Nat) (v : Value) (f : Int → Option Int) (left : Int → Bool) : Flat (rngE P kT e b (.st v) n f left) := fun _ _ _ _ h => h
/-- The streams are as they were. -/
structure Same (W w : World) : Prop where
  os : w.os = W.os
  tape : w.tape = W.tape
  output : w.output = W.output
  size : W.heap.size ≤ w.heap.size
theorem Same.refl (W : World) : Same W W := ⟨rfl, rfl, rfl, Nat.le_refl _⟩
theorem Same.trans {a b c : World} (h : Same a b) (k : Same b c) : Same a c := ⟨k.os.trans h.os, k.tape.trans h.tape, k.output.trans h.output, Nat.le_trans h.size k.size⟩
theorem Turn.same {F : Nat → Prop} {w w' : World} (h : Turn F w w') : Same w w' := ⟨h.os, h.tape, h.output, h.size⟩
/-- A state outside holds here. -/
structure Now (l : List Asr) (F : Nat → Prop) (w : World) : Prop where
  st : (star l).p (fun _ => none) F w
  lt : ∀ j, F j → j < w.heap.size
theorem Now.gr {k : Kn} {g : Nat} {l : List Asr} {F : Nat → Prop} {w : World} (h : Now l F w) (hl : ∀ a ∈ l, Flat a) (hg : k.gs[g]? = some (star l)) (ι : Ren) : letI : Sig := k.sig; Sig.GR g ι F w := ⟨_, hg, flat_star hl _ _ F w h.st⟩
theorem now_old (W : World) : Now [oldA W] (fun j => j < W.heap.size ∧ ¬ False) W := by
  refine ⟨⟨[fun j => j < W.heap.size ∧ ¬ False], rfl, ?_, ?_, ?_⟩, fun j h => h.1⟩
  · intro i a f h1 h2
    match i with
    | 0 => cases h1; cases h2; exact ⟨fun j => Iff.rfl, fun j _ _ => rfl⟩
    | i + 1 => cases h1
  · intro i j f f' hij h1 h2
    match i, j with
    | 0, 0 => exact absurd rfl hij
    | i + 1, _ => cases h1
    | 0, j + 1 => cases h2
  · intro x
    exact ⟨fun h => ⟨0, _, rfl, h⟩, fun ⟨i, f, h1, h2⟩ => by
      match i with
      | 0 => cases h1; exact h2
      | i + 1 => cases h1⟩
/-- What a piece leaves of it. -/
theorem Left.now {k : Kn} {g : Nat} {l : List Asr} {rn : List (Nat × Nat)} {bl : List Blk} {F : Nat → Prop} {w w1 : World} {κ : Ren} (h : letI : Sig := k.sig; Left rn bl g F w κ w1) (hl : ∀ a ∈ l, Flat a) (hg : k.gs[g]? = some (star l)) : ∃ F', Now l F' w1 ∧ Same w w1 := by
  letI : Sig := k.sig
  obtain ⟨F', ⟨a, q1, q2⟩, q3, q4⟩ := h.gh
  rw [hg] at q1
  cases q1
  exact ⟨F', ⟨flat_star hl _ _ F' w1 q2, fun j hj => (q3 j hj).1⟩, h.turn.same⟩
theorem Now.part {l : List Asr} {F : Nat → Prop} {w : World} (h : Now l F w) {i : Nat} {a : Asr} (hi : l[i]? = some a) : ∃ f, a.p (fun _ => none) f w := by
  obtain ⟨Fs, q⟩ := h.st
  have hlt : i < Fs.length := by rw [q.len]; exact (List.getElem?_eq_some_iff.1 hi).1
  exact ⟨_, q.holds i a _ hi (List.getElem?_eq_getElem hlt)⟩
theorem Now.below {l : List Asr} {F : Nat → Prop} {w W : World} (h : Now l F w) {i : Nat} (hi : l[i]? = some (oldA W)) (hs : Same W w) : Below W.heap.size W w := by
  obtain ⟨f, h1, h3⟩ := h.part hi
  exact ⟨hs.os, hs.tape, hs.output, hs.size, fun j hj => h3 j hj (fun h => h)⟩
theorem symT {k : Kn} {ι : Ren} {m : Nat} {x : Value} (h : x = k.val m) : letI : Sig := k.sig; VRel ι (sy m) x := by
  letI : Sig := k.sig
  exact .sym m 0 x h.symm
theorem now_nil (w : World) : Now [] (fun _ => False) w :=
  ⟨⟨[], rfl, (fun i a f h => by cases h), (fun i j f f' _ h => by cases h), fun x => ⟨fun h => h.elim, fun ⟨i, f, h, _⟩ => by cases h⟩⟩, fun j h => h.elim⟩
theorem now_cons {a : Asr} {l : List Asr} {Fa F : Nat → Prop} {w : World} (ha : a.p (fun _ => none) Fa w) (hl : Now l F w) (hlt : ∀ j, Fa j → j < w.heap.size) (hd : ∀ j, Fa j → ¬ F j) : Now (a :: l) (fun j => Fa j ∨ F j) w := by
  obtain ⟨⟨Fs, h1, h2, h3, h4⟩, h5⟩ := hl
  refine ⟨⟨Fa :: Fs, by simp [h1], fun i b f k1 k2 => ?_, fun i j f f' hij k1 k2 x hx hx' => ?_, fun x => ⟨fun h => ?_, fun ⟨i, f, k1, k2⟩ => ?_⟩⟩, fun j hj => hj.elim (hlt j) (h5 j)⟩
  · cases i with
    | zero => cases k1; cases k2; exact ha
    | succ i => exact h2 i b f (by simpa using k1) (by simpa using k2)
  · cases i with
    | zero =>
      cases j with
      | zero => exact hij rfl
      | succ j =>
        cases k1
        exact hd x hx ((h4 x).2 ⟨j, f', by simpa using k2, hx'⟩)
    | succ i =>
      cases j with
      | zero =>
        cases k2
        exact hd x hx' ((h4 x).2 ⟨i, f, by simpa using k1, hx⟩)
      | succ j => exact h3 i j f f' (fun e => hij (by rw [e])) (by simpa using k1) (by simpa using k2) x hx hx'
  · rcases h with h | h
    · exact ⟨0, Fa, rfl, h⟩
    · obtain ⟨i, f, k1, k2⟩ := (h4 x).1 h
      exact ⟨i + 1, f, by simpa using k1, k2⟩
  · cases i with
    | zero => cases k1; exact .inl k2
    | succ i => exact .inr ((h4 x).2 ⟨i, f, by simpa using k1, k2⟩)
theorem now_uncons {a : Asr} {l : List Asr} {F : Nat → Prop} {w : World} (h : Now (a :: l) F w) : ∃ Fa Fl, a.p (fun _ => none) Fa w ∧ Now l Fl w ∧ (∀ j, Fa j → ¬ Fl j) ∧ ∀ j, F j ↔ Fa j ∨ Fl j := by
  obtain ⟨⟨Fs, h1, h2, h3, h4⟩, h5⟩ := h
  match Fs, h1 with
  | Fa :: Fs, h1 =>
    refine ⟨Fa, fun j => ∃ (i : Nat) (f : Nat → Prop), Fs[i]? = some f ∧ f j, h2 0 a Fa rfl rfl, ⟨⟨Fs, by simpa using h1, fun i b f k1 k2 => h2 (i + 1) b f (by simpa using k1) (by simpa using k2), fun i j f f' hij k1 k2 => h3 (i + 1) (j + 1) f f' (by omega) (by simpa using k1) (by simpa using k2), fun x => Iff.rfl⟩, fun j ⟨i, f, k1, k2⟩ => h5 j ((h4 j).2 ⟨i + 1, f, by simpa using k1, k2⟩)⟩, fun j hj ⟨i, f, k1, k2⟩ => h3 0 (i + 1) Fa f (by omega) rfl (by simpa using k1) j hj k2, fun j => ⟨fun hj => ?_, fun hj => ?_⟩⟩
    · obtain ⟨i, f, k1, k2⟩ := (h4 j).1 hj
      cases i with
      | zero => cases k1; exact .inl k2
      | succ i => exact .inr ⟨i, f, by simpa using k1, k2⟩
    · rcases hj with hj | ⟨i, f, k1, k2⟩
      · exact (h4 j).2 ⟨0, Fa, rfl, hj⟩
      · exact (h4 j).2 ⟨i + 1, f, by simpa using k1, k2⟩
theorem blksNil {k : Kn} {F : Nat → Prop} {w : World} : letI : Sig := k.sig; Blks [] [] F w := by
  letI : Sig := k.sig
  exact Blks.nil
theorem blksOne {k : Kn} {b : Nat} {cs cs' : List Value} {T : TypeId} {F : Nat → Prop} {w : World} (hb : w.heap[b]? = some (.cells cs'.toArray T (0, 0))) (hc : letI : Sig := k.sig; LRel (renOf [(4, b)]) cs cs') (hF : ¬ F b) : letI : Sig := k.sig; Blks [(4, b)] [(4, cs, T)] F w := by
  letI : Sig := k.sig
  exact Blks.one hb hc hF
/-- What a piece leaves of a state outside, names and all. -/
theorem Left.raw {k : Kn} {g : Nat} {l : List Asr} {rn : List (Nat × Nat)} {bl : List Blk} {F : Nat → Prop} {w w1 : World} {κ : Ren} (h : letI : Sig := k.sig; Left rn bl g F w κ w1) (hg : k.gs[g]? = some (star l)) : ∃ F', (star l).p κ F' w1 ∧ (∀ j, F' j → j < w1.heap.size ∧ (F j ∨ (∃ p ∈ rn, p.2 = j) ∨ w.heap.size ≤ j)) ∧ Same w w1 ∧ ∀ q ∈ bl, ∀ b, κ q.1 = some b → ¬ F' b := by
  letI : Sig := k.sig
  obtain ⟨F', ⟨a, q1, q2⟩, q3, q4⟩ := h.gh
  rw [hg] at q1
  cases q1
  exact ⟨F', q2, q3, h.turn.same, q4⟩
theorem Now.of {l : List Asr} {F : Nat → Prop} {w : World} {κ : Ren} (hl : ∀ a ∈ l, Flat a) (h : (star l).p κ F w) (hlt : ∀ j, F j → j < w.heap.size) : Now l F w := ⟨flat_star hl _ _ F w h, hlt⟩
theorem outV {k : Kn} {κ : Ren} {v x : Value} (h : letI : Sig := k.sig; VRel κ v x) (hk : knV v = true) : letI : Sig := k.sig; x = conc κ v := by
  letI : Sig := k.sig
  exact conc_eq h hk
theorem outP {k : Kn} {κ : Ren} {id off b : Nat} {x : Value} (h : letI : Sig := k.sig; VRel κ (.pointer (some ⟨id, off, none⟩)) x) (hk : κ id = some b) : x = .pointer (some ⟨b, off, none⟩) := by
  letI : Sig := k.sig
  cases h with
  | ptr _ _ b' h =>
    rw [hk] at h
    cases h
    rfl
theorem lrelNil {k : Kn} {ι : Ren} : letI : Sig := k.sig; LRel ι [] [] := ⟨rfl, fun i v v' h => by simp at h⟩
theorem lrelCons {k : Kn} {ι : Ren} {x x' : Value} {l l' : List Value} (h : letI : Sig := k.sig; VRel ι x x') (h' : letI : Sig := k.sig; LRel ι l l') : letI : Sig := k.sig; LRel ι (x :: l) (x' :: l') := by
  letI : Sig := k.sig
  refine ⟨by simp [h'.1], fun i v v' h1 h2 => ?_⟩
  match i with
  | 0 => simp at h1 h2; subst h1 h2; exact h
  | i + 1 => exact h'.2 i v v' (by simpa using h1) (by simpa using h2)
theorem symV' {k : Kn} {ι : Ren} {m : Nat} : letI : Sig := k.sig; VRel ι (sy m) (k.val m) := by
  letI : Sig := k.sig
  exact .sym m 0 _ rfl
theorem intV' {k : Kn} {ι : Ren} {kd : IntKind} {m : Int} : letI : Sig := k.sig; VRel ι (.int kd m) (.int kd m) := by
  letI : Sig := k.sig
  exact .int kd m
theorem boolV' {k : Kn} {ι : Ren} {b : Bool} : letI : Sig := k.sig; VRel ι (.bool b) (.bool b) := by
  letI : Sig := k.sig
  exact .bool b
theorem ptrV' {k : Kn} {ι : Ren} {id b off : Nat} (h : ι id = some b) : letI : Sig := k.sig; VRel ι (.pointer (some ⟨id, off, none⟩)) (.pointer (some ⟨b, off, none⟩)) := by
  letI : Sig := k.sig
  exact .ptr id off b h
theorem aggV' {k : Kn} {ι : Ren} {l l' : List Value} (h : letI : Sig := k.sig; LRel ι l l') : letI : Sig := k.sig; VRel ι (.agg l.toArray) (.agg l'.toArray) := by
  letI : Sig := k.sig
  exact .agg _ _ (by simpa using h.1) (fun i v v' a b => h.2 i v v' (by simpa using a) (by simpa using b))
theorem start_size {args : Array Value} {N : Nat} (h : args.size ≤ N) : (args ++ Array.replicate (N - args.size) undef).size = N := by
  simp
  omega
theorem start_get {args : Array Value} {N i : Nat} {v : Value} (h : args[i]? = some v) : (args ++ Array.replicate (N - args.size) undef).getD i undef = v := by
  have hi := (Array.getElem?_eq_some_iff.1 h).1
  rw [Array.getD_eq_getD_getElem?, Array.getElem?_append_left hi, h]
  rfl
end Go.Ev
