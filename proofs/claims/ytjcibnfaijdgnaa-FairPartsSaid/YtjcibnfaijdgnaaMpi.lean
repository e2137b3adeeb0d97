/- Maps of whole numbers, kept outside: what is known of each operation. -/
import Derived.Test.YtjcibnfaijdgnaaGhd
import Derived.Maps.Range
import Derived.Maps.Views
namespace Go.Ev
open Go.RowKit Go.Maps Go.WideShapes
open Go.WideElems (Fit rd rg pl rd_key rd_val rg_of other_key)
set_option linter.unusedVariables false
set_option linter.unusedSimpArgs false
set_option linter.unusedSectionVars false

/-! ### Parts -/
section parts
variable {k : Kn} {P : Program} {g g' : Nat} {d0 : Option Nat} {r : Value} {l : List Asr} {i : Nat} {a a' : Asr} {ι : Ren} {F : Nat → Prop} {w w' : World} {d : Nat}
theorem star_ask {ng : Option Nat} (hg : k.gs[g]? = some (star l)) (hi : l[i]? = some a) (q : Ask k g d0 ng ι F w d) : ∃ Fs f, StarAt l Fs ι F w ∧ Fs[i]? = some f ∧ a.p ι f w := by
  obtain ⟨b, q1, q2⟩ := q.st
  rw [hg] at q1
  cases q1
  obtain ⟨Fs, q2⟩ := q2
  have hlt : i < Fs.length := by rw [q2.len]; exact (List.getElem?_eq_some_iff.1 hi).1
  exact ⟨Fs, Fs[i], q2, List.getElem?_eq_getElem hlt, q2.holds i a _ hi (List.getElem?_eq_getElem hlt)⟩
theorem one_end (hg' : k.gs[g']? = some (star (l.set i a'))) {Fs : List (Nat → Prop)} {f f' : Nat → Prop} (hS : StarAt l Fs ι F w) (lt : ∀ x, F x → x < w.heap.size) (hi : Fs[i]? = some f) (hd : ι d = none) (c : Nat) {v' : Value} (ha : a'.p (ι.upd d c) f' w') (ht : Turn f w w')
    (hs : ∀ x, f' x → x < w'.heap.size ∧ (f x ∨ w.heap.size ≤ x)) (hv : letI : Sig := k.sig; VRel (ι.upd d c) r v') : letI : Sig := k.sig; GEnd ι d F w r (some g') v' w' := by
  letI : Sig := k.sig
  obtain ⟨F', h1, h2, h3⟩ := hS.one lt hi (Ren.upd_le (b := c) hd) a' f' ha ht hs
  exact ⟨c, F', hv, ⟨_, hg', h1⟩, h2, h3⟩
theorem ask_fresh (q : Ask k g d0 (some g') ι F w d) : ι d = none := by
  rcases q.fresh with h | h
  · exact h
  · cases h
end parts

/-- Where a value lies: known, or one that came. -/
inductive Lv where
  | st (v : Value)
  | dy (d : Nat)
def Lv.is (ι : Ren) (v : Value) : Lv → Prop
  | .st v0 => v = v0
  | .dy d => ∃ c, ι d = some c ∧ dec c = v
theorem Lv.mono {ι κ : Ren} (h : RLe ι κ) {v : Value} {l : Lv} (hl : l.is ι v) : l.is κ v := by
  cases l with
  | st v0 => exact hl
  | dy d => obtain ⟨c, h1, h2⟩ := hl; exact ⟨c, h _ _ h1, h2⟩

/-! ### Maps -/
structure IntMap (P : Program) (t kT e : TypeId) : Prop where
  ht : P.underlying t = some (.map kT e)
  hk : P.underlying kT = some (.int .i64)
  he : P.underlying e = some (.int .i64)
  hz : ∀ w, (zeroValue e).run P w = .ok (.int .i64 0) w
def wfI (i : Int) : Prop := (Lit.int .i64 i).wf = true
def Reads (D : DataW Unit) (f : Int → Option Int) : Prop := ∀ i, wfI i → Maps.has D (.int .i64 i) = (f i).isSome ∧ D.atKey (.int .i64 i) (.lit (.int .i64 0)) = .lit (.int .i64 ((f i).getD 0))
def upd (f : Int → Option Int) (i : Int) (x : Option Int) : Int → Option Int := fun j => if j = i then x else f j
theorem lit_ne {i j : Int} (h : j ≠ i) : (Lit.int .i64 j) ≠ (Lit.int .i64 i) := fun e => by cases e; exact h rfl
theorem Reads.put {D : DataW Unit} {f : Int → Option Int} (h : Reads D f) (hm : IsMap D) {i x : Int} : Reads (D.put (.int .i64 i) (.lit (.int .i64 x))) (upd f i (some x)) := by
  intro j hj
  by_cases e : j = i
  · subst e
    rw [has_put_same hm (by trivial), atKey_put_same hm (by trivial)]
    simp [upd]
  · rw [has_put_other (lit_ne e), atKey_put_other (lit_ne e)]
    simpa [upd, e] using h j hj
theorem Reads.del {D : DataW Unit} {f : Int → Option Int} (h : Reads D f) {i : Int} : Reads (D.del (.int .i64 i)) (upd f i none) := by
  intro j hj
  by_cases e : j = i
  · subst e
    rw [has_del_same, atKey_del_same]
    simp [upd]
  · rw [has_del_other (lit_ne e), atKey_del_other (lit_ne e)]
    simpa [upd, e] using h j hj

section
variable (P : Program) (kT e : TypeId)
def MapIs (b n : Nat) (f : Int → Option Int) (w : World) : Prop := ∃ D : DataW Unit, w.ownsMap P kT (plainElem P e) b n D ∧ Reads D f
theorem MapIs.keep {b n : Nat} {f : Int → Option Int} {w w' : World} (h : MapIs P kT e b n f w) (hk : w'.heap[b]? = w.heap[b]?) : MapIs P kT e b n f w' := by
  obtain ⟨D, ⟨es, clock, h1, h2⟩, h3⟩ := h
  exact ⟨D, ⟨es, clock, by rw [hk]; exact h1, h2⟩, h3⟩
def mapA (b n : Nat) (f : Int → Option Int) : Asr where
  p := fun _ F w => (∀ j, F j ↔ j = b) ∧ MapIs P kT e b n f w
  keep := fun ι F w w' hk ⟨h1, h2⟩ => ⟨h1, h2.keep P kT e (hk b ((h1 b).2 rfl))⟩
  mono := fun _ _ _ _ _ h => h
/-- A round over a map under way: cnt are left. -/
def RngIs (b r n cnt : Nat) (f : Int → Option Int) (left : Int → Bool) (w : World) : Prop :=
  ∃ (D : DataW Unit) (lf : Lit → Bool), w.ranges P kT (plainElem P e) b r n D lf cnt ∧ Reads D f ∧ (∀ i, wfI i → lf (.int .i64 i) = left i) ∧ ∀ i, wfI i → left i = true → (f i).isSome = true
theorem RngIs.keep {b r n cnt : Nat} {f : Int → Option Int} {left : Int → Bool} {w w' : World} (h : RngIs P kT e b r n cnt f left w) (hb : w'.heap[b]? = w.heap[b]?) (hr : w'.heap[r]? = w.heap[r]?) : RngIs P kT e b r n cnt f left w' := by
  obtain ⟨D, lf, ⟨es, clock, since, seen, c0, h1, h2, h3, h4, h5, h6⟩, h7⟩ := h
  exact ⟨D, lf, ⟨es, clock, since, seen, c0, by rw [hb]; exact h1, h2, h3, h4, by rw [hr]; exact h5, h6⟩, h7⟩
def ptrV (r : Nat) : Value := .pointer (some ⟨r, 0, none⟩)
def rngA (b : Nat) (rv : Lv) (n cnt : Nat) (f : Int → Option Int) (left : Int → Bool) : Asr where
  p := fun ι F w => ∃ r, rv.is ι (ptrV r) ∧ (∀ j, F j ↔ j = b ∨ j = r) ∧ RngIs P kT e b r n cnt f left w
  keep := fun ι F w w' hk ⟨r, h0, h1, h2⟩ => ⟨r, h0, h1, h2.keep P kT e (hk b ((h1 b).2 (.inl rfl))) (hk r ((h1 r).2 (.inr rfl)))⟩
  mono := fun ι κ F w hle ⟨r, h0, h1⟩ => ⟨r, Lv.mono hle h0, h1⟩
def rngE (b : Nat) (rv : Lv) (n : Nat) (f : Int → Option Int) (left : Int → Bool) : Asr where
  p := fun ι F w => ∃ cnt, (rngA P kT e b rv n cnt f left).p ι F w
  keep := fun ι F w w' hk ⟨c, h⟩ => ⟨c, (rngA P kT e b rv n c f left).keep ι F w w' hk h⟩
  mono := fun ι κ F w hk ⟨c, h⟩ => ⟨c, (rngA P kT e b rv n c f left).mono ι κ F w hk h⟩
def rngL (b : Nat) (rv : Lv) (n cnt : Nat) (f : Int → Option Int) (left : Int → Bool) : Asr where
  p := fun ι F w => ∃ c, c ≤ cnt ∧ (rngA P kT e b rv n c f left).p ι F w
  keep := fun ι F w w' hk ⟨c, h0, h⟩ => ⟨c, h0, (rngA P kT e b rv n c f left).keep ι F w w' hk h⟩
  mono := fun ι κ F w hk ⟨c, h0, h⟩ => ⟨c, h0, (rngA P kT e b rv n c f left).mono ι κ F w hk h⟩
/-- .. with the entry that came last. -/
def CurIs (b r n cnt : Nat) (f : Int → Option Int) (left : Int → Bool) (i : Int) (w : World) : Prop :=
  wfI i ∧ (f i).isSome = true ∧ RngIs P kT e b r n cnt f left w ∧ ∀ w2 : World, w2.heap[b]? = w.heap[b]? → w2.heap[r]? = w.heap[r]? → (Instr.entry (ptrV r)).run P w2 = .ok (.tuple #[.int .i64 i, .int .i64 ((f i).getD 0)]) w2
theorem CurIs.keep {b r n cnt : Nat} {f : Int → Option Int} {left : Int → Bool} {i : Int} {w w' : World} (h : CurIs P kT e b r n cnt f left i w) (hb : w'.heap[b]? = w.heap[b]?) (hr : w'.heap[r]? = w.heap[r]?) : CurIs P kT e b r n cnt f left i w' := by
  obtain ⟨h0, h1, h2, h3⟩ := h
  exact ⟨h0, h1, h2.keep P kT e hb hr, fun w2 k1 k2 => h3 w2 (k1.trans hb) (k2.trans hr)⟩
def curA (b r n cnt : Nat) (f : Int → Option Int) (left : Int → Bool) (i : Int) : Asr where
  p := fun ι F w => (∀ j, F j ↔ j = b ∨ j = r) ∧ CurIs P kT e b r n cnt f left i w
  keep := fun ι F w w' hk ⟨h1, h2⟩ => ⟨h1, h2.keep P kT e (hk b ((h1 b).2 (.inl rfl))) (hk r ((h1 r).2 (.inr rfl)))⟩
  mono := fun ι κ F w hle h => h
def lessI (left : Int → Bool) (i : Int) : Int → Bool := fun j => left j && !(decide (j = i))
def nextA (b r n cnt : Nat) (f : Int → Option Int) (left : Int → Bool) : Asr where
  p := fun ι F w => (∀ j, F j ↔ j = b ∨ j = r) ∧ ∃ i cnt', cnt' < cnt ∧ left i = true ∧ CurIs P kT e b r n cnt' f (lessI left i) i w
  keep := fun ι F w w' hk ⟨h1, i, c, h2, h3, h4⟩ => ⟨h1, i, c, h2, h3, h4.keep P kT e (hk b ((h1 b).2 (.inl rfl))) (hk r ((h1 r).2 (.inr rfl)))⟩
  mono := fun ι κ F w hle h => h
end

section rows
variable {k : Kn} {P : Program} {g g' : Nat} {d0 : Option Nat} {l : List Asr} {ci : Nat} {t kT e : TypeId} {b n sM sK sV : Nat} {f : Int → Option Int} {i x : Int} (M : IntMap P t kT e)
include M
theorem M_keyed : Keyed P kT := int_keyed M.hk
theorem M_key (hi : wfI i) : keyOf P kT (.int .i64 i) = some (.int .i64 i) := keyOf_int_mk M.hk hi
theorem M_key_inv {v : Value} {kl : Lit} (h : keyOf P kT v = some kl) : ∃ i, v = .int .i64 i ∧ kl = .int .i64 i ∧ wfI i := by
  rw [keyOf_int M.hk] at h
  unfold mapKey at h
  rw [M.hk] at h
  split at h
  · rename_i hb
    cases hb
  · rename_i q q' m h1
    cases h1
    split at h
    · rename_i hh
      cases h
      obtain ⟨rfl, h2⟩ := hh
      exact ⟨_, rfl, rfl, h2⟩
    · cases h
  · rename_i hb
    cases hb
  · cases h
theorem M_zero : plainElem (H := Unit) P e (.int .i64 0) = some (.lit (.int .i64 0), []) := plainElem_int M.he (by decide)
theorem M_val {y : Value} {f : Int → Option Int} {D : DataW Unit} {ps : List MemPlace} (hD : Reads D f) (hi : wfI i) (h : plainElem (H := Unit) P e y = some (D.atKey (.int .i64 i) (.lit (.int .i64 0)), ps)) : y = .int .i64 ((f i).getD 0) := by
  obtain ⟨c, rfl, hc, _⟩ := plainElem_int_inv M.he h
  rw [(hD i hi).2] at hc
  simp only [Prod.mk.injEq, DataW.lit.injEq, Lit.int.injEq, true_and] at hc
  rw [hc.1]

theorem vsymK {ι : Ren} {m : Nat} {x' : Value} (h : letI : Sig := k.sig; VRel ι (sy m) x') : x' = k.val m := by
  letI : Sig := k.sig
  cases h with
  | sym n m' _ h => exact h.symm
theorem vintK {ι : Ren} {kd : IntKind} {m : Int} {x' : Value} (h : letI : Sig := k.sig; VRel ι (.int kd m) x') : x' = .int kd m := by
  letI : Sig := k.sig
  cases h with
  | int => rfl
theorem rsymK {ι : Ren} {m : Nat} {x' : Value} (h : k.val m = x') : letI : Sig := k.sig; VRel ι (sy m) x' := by
  letI : Sig := k.sig
  exact .sym m 0 x' h
theorem rtup2 {ι : Ren} {a b a' b' : Value} (h : letI : Sig := k.sig; VRel ι a a') (h' : letI : Sig := k.sig; VRel ι b b') : letI : Sig := k.sig; VRel ι (.tuple #[a, b]) (.tuple #[a', b']) := by
  letI : Sig := k.sig
  refine .tuple _ _ rfl (fun i v v' h1 h2 => ?_)
  match i with
  | 0 => simp at h1 h2; subst h1 h2; exact h
  | 1 => simp at h1 h2; subst h1 h2; exact h'
  | i + 2 => simp at h1
theorem rtup3 {ι : Ren} {a b c a' b' c' : Value} (h : letI : Sig := k.sig; VRel ι a a') (h' : letI : Sig := k.sig; VRel ι b b') (h'' : letI : Sig := k.sig; VRel ι c c') : letI : Sig := k.sig; VRel ι (.tuple #[a, b, c]) (.tuple #[a', b', c']) := by
  letI : Sig := k.sig
  refine .tuple _ _ rfl (fun i v v' h1 h2 => ?_)
  match i with
  | 0 => simp at h1 h2; subst h1 h2; exact h
  | 1 => simp at h1 h2; subst h1 h2; exact h'
  | 2 => simp at h1 h2; subst h1 h2; exact h''
  | i + 3 => simp at h1

/-- 'v := m[k]'. -/
theorem map_look (hg : k.gs[g]? = some (star l)) (hi : l[ci]? = some (mapA P kT e b n f)) (hM : k.val sM = .map (some b)) (hK : k.val sK = .int .i64 i) (hw : wfI i) (hV : k.val sV = .int .i64 ((f i).getD 0)) : GTrue k P ⟨[5, t, 0], [sy sM, sy sK], none, g, none, sy sV, none⟩ := by
  refine GTrue.lookup k (b := false) rfl ?_
  letI : Sig := k.sig
  intro ι F w d x' y' q hx hy
  obtain ⟨Fs, ff, hS, hf, h1, D, h2, h3⟩ := star_ask hg hi q
  rw [vsymK M hx, vsymK M hy, hM, hK]
  obtain ⟨v, ps, r1, r2⟩ := h2.lookup (M_keyed M) M.ht (M.hz w) (M_zero M) (M_key M hw)
  rw [M_val M h3 hw r2] at r1
  exact ⟨_, w, r1, rsymK M hV, Below.refl _ _⟩
/-- 'v, ok := m[k]'. -/
theorem map_look_yes (hg : k.gs[g]? = some (star l)) (hi : l[ci]? = some (mapA P kT e b n f)) (hM : k.val sM = .map (some b)) (hK : k.val sK = .int .i64 i) (hw : wfI i) (hx : f i = some x) (hV : k.val sV = .int .i64 x) : GTrue k P ⟨[5, t, 1], [sy sM, sy sK], none, g, none, .tuple #[sy sV, .bool true], none⟩ := by
  refine GTrue.lookup k (b := true) rfl ?_
  letI : Sig := k.sig
  intro ι F w d x' y' q hx' hy
  obtain ⟨Fs, ff, hS, hf, h1, D, h2, h3⟩ := star_ask hg hi q
  rw [vsymK M hx', vsymK M hy, hM, hK]
  obtain ⟨v, ps, r1, r2⟩ := h2.look_ok (M_keyed M) M.ht (M.hz w) (M_zero M) (M_key M hw)
  rw [M_val M h3 hw r2, (h3 i hw).1, hx] at r1
  exact ⟨_, w, r1, rtup2 M (rsymK M hV) (.bool true), Below.refl _ _⟩
theorem map_look_no (hg : k.gs[g]? = some (star l)) (hi : l[ci]? = some (mapA P kT e b n f)) (hM : k.val sM = .map (some b)) (hK : k.val sK = .int .i64 i) (hw : wfI i) (hx : f i = none) : GTrue k P ⟨[5, t, 1], [sy sM, sy sK], none, g, none, .tuple #[.int .i64 0, .bool false], none⟩ := by
  refine GTrue.lookup k (b := true) rfl ?_
  letI : Sig := k.sig
  intro ι F w d x' y' q hx' hy
  obtain ⟨Fs, ff, hS, hf, h1, D, h2, h3⟩ := star_ask hg hi q
  rw [vsymK M hx', vsymK M hy, hM, hK]
  obtain ⟨v, ps, r1, r2⟩ := h2.look_ok (M_keyed M) M.ht (M.hz w) (M_zero M) (M_key M hw)
  rw [M_val M h3 hw r2, (h3 i hw).1, hx] at r1
  exact ⟨_, w, r1, rtup2 M (.int _ _) (.bool false), Below.refl _ _⟩
theorem turn_of_map {w w' : World} (h : w.mapTurned w' b) {ff : Nat → Prop} (hf : ∀ j, ff j ↔ j = b) : Turn ff w w' := by
  have hg := h.grown
  exact ⟨hg.os, hg.tape, hg.output, hg.size, fun j hj hn => hg.block j hj (fun e => hn ((hf j).2 (by cases e; rfl)))⟩
/-- 'm[k] = v'. -/
theorem map_put {v' : Value} (hg : k.gs[g]? = some (star l)) (hi : l[ci]? = some (mapA P kT e b n f)) (hg' : k.gs[g']? = some (star (l.set ci (mapA P kT e b (n + 1) (upd f i (some x)))))) (hM : k.val sM = .map (some b)) (hK : k.val sK = .int .i64 i) (hw : wfI i) (hn : n < maxLen) (hV : ∀ ι y, (letI : Sig := k.sig; VRel ι v' y) → y = .int .i64 x) (hx : wfI x) : GTrue k P ⟨[6, t], [sy sM, sy sK, v'], none, g, none, undef, some g'⟩ := by
  refine GTrue.mapUpdate k ?_
  letI : Sig := k.sig
  intro ι F w d x' y' z' q hx' hy hz
  obtain ⟨Fs, ff, hS, hf, h1, D, h2, h3⟩ := star_ask hg hi q
  rw [vsymK M hx', vsymK M hy, hM, hK, hV _ _ hz]
  obtain ⟨w', r1, r2, r3⟩ := h2.store (M_keyed M) M.ht hn (M_key M hw) (plainElem_int M.he hx)
  refine ⟨w', r1, one_end hg' hS q.lt hf (ask_fresh q) 0 (f' := ff) ⟨h1, _, r2, h3.put h2.isMap⟩ (turn_of_map M r3 h1) (fun j hj => ⟨?_, .inl hj⟩) (undef_rel _)⟩
  rw [(h1 j).1 hj]
  exact r2.lt
/-- 'delete(m, k)'. -/
theorem map_del {u : TypeId} (hu : u = kT) (hg : k.gs[g]? = some (star l)) (hi : l[ci]? = some (mapA P kT e b n f)) (hg' : k.gs[g']? = some (star (l.set ci (mapA P kT e b n (upd f i none))))) (hM : k.val sM = .map (some b)) (hK : k.val sK = .int .i64 i) (hw : wfI i) : GTrue k P ⟨[12, t, u], [sy sM, sy sK], none, g, none, .tuple #[], some g'⟩ := by
  subst hu
  refine GTrue.delete k ?_
  letI : Sig := k.sig
  intro ι F w d x' y' ty q hx' hy
  obtain ⟨Fs, ff, hS, hf, h1, D, h2, h3⟩ := star_ask hg hi q
  rw [vsymK M hx', vsymK M hy, hM, hK]
  obtain ⟨w', r1, r2, r3⟩ := h2.drop (M_keyed M) M.ht (M_key M hw) ty
  refine ⟨_, w', r1, one_end hg' hS q.lt hf (ask_fresh q) 0 (f' := ff) ⟨h1, _, r2, h3.del⟩ (turn_of_map M r3 h1) (fun j hj => ⟨?_, .inl hj⟩) (.tuple _ _ rfl (fun i v v' h => by simp at h))⟩
  rw [(h1 j).1 hj]
  exact r2.lt
/-- .. of an entry, in a round over the map. -/
theorem cur_del {u r0 cnt : Nat} {left : Int → Bool} (hu : u = kT) (hg : k.gs[g]? = some (star l)) (hi : l[ci]? = some (curA P kT e b r0 n cnt f left i)) (hl : left i = false) (hg' : k.gs[g']? = some (star (l.set ci (rngL P kT e b (.st (ptrV r0)) n cnt (upd f i none) left)))) (hM : k.val sM = .map (some b)) (hK : k.val sK = .int .i64 i) : GTrue k P ⟨[12, t, u], [sy sM, sy sK], none, g, none, .tuple #[], some g'⟩ := by
  subst hu
  refine GTrue.delete k ?_
  letI : Sig := k.sig
  intro ι F w d x' y' ty q hx' hy
  obtain ⟨Fs, ff, hS, hf, h1, hw, hs, ⟨D, lf, h2, h3, h4, h5⟩, h6⟩ := star_ask hg hi q
  rw [vsymK M hx', vsymK M hy, hM, hK]
  obtain ⟨w', c', r1, r2, r3, r4⟩ := h2.drop (M_keyed M) M.ht (M_key M hw) ty
  have hne := h2.ne
  have hbl := h2.owns.lt
  have hrl := h2.lt
  have hg4 := r4.grown
  refine ⟨_, w', r1, one_end hg' hS q.lt hf (ask_fresh q) 0 (f' := ff) ⟨c', r3, r0, rfl, h1, _, _, r2, h3.del, fun j hj => ?_, fun j hj hlj => ?_⟩ ⟨hg4.os, hg4.tape, hg4.output, hg4.size, fun j hj hn => hg4.block j hj (fun e' => hn ((h1 j).2 (.inl (by cases e'; rfl))))⟩ (fun j hj => ⟨?_, .inl hj⟩) (.tuple _ _ rfl (fun i v v' h => by simp at h))⟩
  · show (lf (.int .i64 j) && !(Lit.int .i64 j).sameKey (.int .i64 i)) = left j
    rw [h4 j hj]
    by_cases e' : j = i
    · subst e'
      rw [hl]
      rfl
    · rw [sameKey_ne (lit_ne e')]
      simp
  · have : j ≠ i := fun e' => by rw [e', hl] at hlj; cases hlj
    simpa [upd, this] using h5 j hj hlj
  · rcases (h1 j).1 hj with rfl | rfl
    · exact r2.owns.lt
    · exact r2.lt
/-- 'range m'. -/
theorem map_range {d1 : Nat} (hg : k.gs[g]? = some (star l)) (hi : l[ci]? = some (mapA P kT e b n f)) (hg' : k.gs[g']? = some (star (l.set ci (rngE P kT e b (.dy d1) n f (fun j => (f j).isSome))))) (hM : k.val sM = .map (some b)) : GTrue k P ⟨[13, t], [sy sM], none, g, some d1, .complex .f32 d1 0, some g'⟩ := by
  refine GTrue.range k ?_
  letI : Sig := k.sig
  intro ι F w d x' q hx'
  obtain ⟨Fs, ff, hS, hf, h1, D, h2, h3⟩ := star_ask hg hi q
  obtain rfl := q.name d1 rfl
  rw [vsymK M hx', hM]
  obtain ⟨w', r1, r2, r3, r4⟩ := h2.range (M_keyed M) M.ht
  have hup : (ι.upd d1 (prn 1 (prn w.heap.size 0))) d1 = some (prn 1 (prn w.heap.size 0)) := by simp [Ren.upd]
  refine ⟨_, w', r1, one_end hg' hS q.lt hf (ask_fresh q) (prn 1 (prn w.heap.size 0)) (f' := fun j => j = b ∨ j = w.heap.size) ⟨_, w.heap.size, ⟨_, hup, dec_ptr _ _⟩, fun j => Iff.rfl, D, _, r2, h3, fun j hj => (h3 j hj).1, fun j hj hlj => hlj⟩ ⟨r3.os, r3.tape, r3.output, r3.size, fun j hj hn => r3.block j hj (by simp)⟩ (fun j hj => ?_) (.dyn d1 _ _ hup (dec_ptr _ _))⟩
  rcases hj with rfl | rfl
  · exact ⟨r2.owns.lt, .inl ((h1 j).2 rfl)⟩
  · exact ⟨r2.lt, .inr (Nat.le_refl _)⟩
/-- 'next': nobody is left. -/
theorem rng_next_end {r0 cnt sR : Nat} {left : Int → Bool} (hg : k.gs[g]? = some (star l)) (hi : l[ci]? = some (rngA P kT e b (.st (ptrV r0)) n cnt f left)) (hn : ∀ j, wfI j → left j = false) (hR : k.val sR = ptrV r0) : GTrue k P ⟨[14, 0], [sy sR], none, g, none, .tuple #[.bool false], none⟩ := by
  refine GTrue.next k ?_
  letI : Sig := k.sig
  intro ι F w d x' ty q hx'
  obtain ⟨Fs, ff, hS, hf, r, h0, h1, D, lf, h2, h3, h4, h5⟩ := star_ask hg hi q
  cases h0
  rw [vsymK M hx', hR]
  rcases h2.next (M_keyed M) ty with ⟨_, _, r1⟩ | ⟨key, v, kl, y, w', c', q1, q2, _⟩
  · exact ⟨_, w, r1, .tuple _ _ rfl (fun i v v' h h' => by
      match i with
      | 0 => simp at h h'; subst h h'; exact .bool false
      | i + 1 => simp at h), Below.refl _ _⟩
  · obtain ⟨j, rfl, rfl, hj⟩ := M_key_inv M q1
    rw [h4 j hj, hn j hj] at q2
    cases q2
theorem entry_keep {w w2 : World} {r0 : Nat} {v : Value} {D : DataW Unit} {lf : Lit → Bool} {cnt : Nat} (h : w.ranges P kT (plainElem P e) b r0 n D lf cnt) (hr : (Instr.entry (ptrV r0)).run P w = .ok v w) (hb : w2.heap[b]? = w.heap[b]?) (hr2 : w2.heap[r0]? = w.heap[r0]?) : (Instr.entry (ptrV r0)).run P w2 = .ok v w2 := by
  obtain ⟨es, clock, since, seen, c0, k1, _, _, _, k2, _⟩ := h
  rw [k1] at hb
  rw [k2] at hr2
  simp only [ptrV, Instr.entry, getObj, Sem.run_bind, Sem.run, k1, k2, hb, hr2, Result.andThen] at hr ⊢
  cases hbk : seen.back? with
  | none => rw [hbk] at hr; cases hr
  | some stamp =>
    rw [hbk] at hr
    simp only [Sem.run_bind, Sem.run, k1, hb, Result.andThen] at hr ⊢
    by_cases hc : (clock != c0) = true
    · rw [if_pos hc] at hr
      cases hr
    · rw [if_neg hc] at hr ⊢
      cases hfd : es.find? (fun x => x.born == stamp) with
      | none => rw [hfd] at hr; cases hr
      | some x => rw [hfd] at hr; cases hr; rfl
/-- 'next': somebody is. -/
theorem rng_next {r0 cnt sR : Nat} {left : Int → Bool} (hg : k.gs[g]? = some (star l)) (hi : l[ci]? = some (rngA P kT e b (.st (ptrV r0)) n cnt f left)) (hn : ∃ j, wfI j ∧ left j = true) (hg' : k.gs[g']? = some (star (l.set ci (nextA P kT e b r0 n cnt f left)))) (hR : k.val sR = ptrV r0) : GTrue k P ⟨[14, 0], [sy sR], none, g, none, .tuple #[.bool true, .complex .f32 0 1, .complex .f32 0 1], some g'⟩ := by
  refine GTrue.next k ?_
  letI : Sig := k.sig
  intro ι F w d x' ty q hx'
  obtain ⟨Fs, ff, hS, hf, r, h0, h1, D, lf, h2, h3, h4, h5⟩ := star_ask hg hi q
  cases h0
  rw [vsymK M hx', hR]
  rcases h2.next (M_keyed M) ty with ⟨_, q1, _⟩ | ⟨key, v, kl, y, w', c', q1, q2, q3, q4, r1, r2, r3, r4, r5, r6⟩
  · obtain ⟨j, hj, hl⟩ := hn
    rw [← h4 j hj, q1] at hl
    cases hl
  · obtain ⟨j, rfl, rfl, hj⟩ := M_key_inv M q1
    have hv : v = .int .i64 ((f j).getD 0) := M_val M h3 hj (ps := y.2) (by rw [q3, q4])
    subst hv
    have hlj : left j = true := by rw [← h4 j hj]; exact q2
    have hbl := h2.owns.lt
    have hrl := h2.lt
    refine ⟨_, w', r1, one_end hg' hS q.lt hf (ask_fresh q) 0 (f' := ff) ⟨h1, j, c', r3, hlj, hj, h5 j hj hlj, ⟨D, _, r2, h3, fun i hi => ?_, fun i hi hli => h5 i hi (by unfold lessI at hli; simp only [Bool.and_eq_true] at hli; exact hli.1)⟩, fun w2 k1 k2 => entry_keep M r2 r6 k1 k2⟩
      ⟨r4.os, r4.tape, r4.output, r4.size, fun i hi hn => r4.block i hi (fun e' => hn ((h1 i).2 (.inr (by cases e'; rfl))))⟩ (fun i hi => ⟨?_, .inl hi⟩) (rtup3 M (.bool true) (.junk 0 _ rfl) (.junk 0 _ rfl))⟩
    · show (lf (.int .i64 i) && !(Lit.int .i64 i).sameKey (.int .i64 j)) = _
      rw [h4 i hi]
      unfold lessI
      by_cases e' : i = j
      · subst e'
        rw [WideAt.sameKey_self (by trivial)]
        simp
      · rw [sameKey_ne (lit_ne e')]
        simp [e']
    · rcases (h1 i).1 hi with rfl | rfl
      · exact r2.owns.lt
      · exact r2.lt
/-- 'entry'. -/
theorem cur_entry {r0 cnt sR : Nat} {left : Int → Bool} (hg : k.gs[g]? = some (star l)) (hi : l[ci]? = some (curA P kT e b r0 n cnt f left i)) (hR : k.val sR = ptrV r0) (hK : k.val sK = .int .i64 i) (hV : k.val sV = .int .i64 ((f i).getD 0)) : GTrue k P ⟨[15], [sy sR], none, g, none, .tuple #[sy sK, sy sV], none⟩ := by
  refine GTrue.entry k ?_
  letI : Sig := k.sig
  intro ι F w d x' q hx'
  obtain ⟨Fs, ff, hS, hf, h1, hw, hs, h2, h3⟩ := star_ask hg hi q
  rw [vsymK M hx', hR]
  exact ⟨_, w, h3 w rfl rfl, rtup2 M (rsymK M hK) (rsymK M hV), Below.refl _ _⟩
end rows
end Go.Ev
