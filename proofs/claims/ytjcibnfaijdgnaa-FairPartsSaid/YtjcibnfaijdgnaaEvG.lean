/- The evaluator, part seven: append. -/
import Derived.Test.YtjcibnfaijdgnaaEvF
import Derived.Deep.AppendSrc
import Derived.Deep.Upon
namespace Go.Ev
open Go.RowKit
set_option linter.unusedVariables false
set_option linter.unusedSimpArgs false
set_option linter.unusedSectionVars false
variable [Sig]

theorem heap_setCells {e : TypeId} {b : Nat} : ∀ (vs : List Value) (o : Nat) (w : World) (cur : Array Value), w.heap[b]? = some (.cells cur e (0, 0)) →
    ∃ cur', (w.setCells b o vs).heap[b]? = some (.cells cur' e (0, 0)) ∧ cur'.size = cur.size ∧ (∀ k, (k < o ∨ o + vs.length ≤ k) → cur'[k]? = cur[k]?) ∧ (∀ j v, vs[j]? = some v → o + j < cur.size → cur'[o + j]? = some v) := by
  intro vs
  induction vs with
  | nil => intro o w cur h; exact ⟨cur, h, rfl, fun k _ => rfl, fun j v h => by simp at h⟩
  | cons x r ih =>
    intro o w cur h
    obtain ⟨cur', h1, h2, h3, h4⟩ := ih (o + 1) (w.setCell ⟨b, o, none⟩ x) (cur.setIfInBounds o x) (heap_setCell_same h)
    refine ⟨cur', h1, by simpa using h2, ?_, ?_⟩
    · intro k hk
      rw [h3 k (by simp at hk; omega), Array.getElem?_setIfInBounds, if_neg (by simp at hk; omega)]
    · intro j v hj hlt
      match j with
      | 0 =>
        simp at hj
        subst hj
        rw [Nat.add_zero, h3 o (by omega), Array.getElem?_setIfInBounds, if_pos rfl, if_pos (by simpa using hlt)]
      | j + 1 =>
        have := h4 j v (by simpa using hj) (by simp; omega)
        rw [show o + (j + 1) = o + 1 + j by omega]
        exact this
theorem setCells_size {b : Nat} : ∀ (vs : List Value) (o : Nat) (w : World), (w.setCells b o vs).heap.size = w.heap.size := by
  intro vs
  induction vs with
  | nil => intro o w; rfl
  | cons x r ih => intro o w; rw [show (w.setCells b o (x :: r)) = ((w.setCell ⟨b, o, none⟩ x).setCells b (o + 1) r) from rfl, ih]; simp [World.setCell]
theorem setCells_other {b : Nat} : ∀ (vs : List Value) (o : Nat) (w : World) (j : Nat), j ≠ b → (w.setCells b o vs).heap[j]? = w.heap[j]? := by
  intro vs
  induction vs with
  | nil => intro o w j hj; rfl
  | cons x r ih =>
    intro o w j hj
    rw [show (w.setCells b o (x :: r)) = ((w.setCell ⟨b, o, none⟩ x).setCells b (o + 1) r) from rfl, ih _ _ _ hj]
    exact Below.heap_setCell _ _ _ _ hj
theorem setCells_below {base : Nat → Prop} {b : Nat} (hb : ¬ base b) : ∀ (vs : List Value) (o : Nat) (w : World), Out base w (w.setCells b o vs) := by
  intro vs
  induction vs with
  | nil => intro o w; exact Out.refl _ _
  | cons x r ih => intro o w; exact ((Out.refl base w).setCell (p := ⟨b, o, none⟩) hb x).trans (ih (o + 1) _)

/-- How long what is appended is. -/
def srcLen : Value → Option Nat
  | .slice _ n _ => some n
  | .string b => some b.size
  | _ => none
/-- The cells of a slice, or of a text. -/
def srcCells (s : St) (sz : Nat) : Value → Option (Array Value × List Touch)
  | .slice none 0 0 => some (#[], [])
  | .slice (some ⟨id, off, none⟩) n _ =>
    match s.look id with
    | some (.cells a _ _) => if off + n * sz ≤ a.size ∧ (a.extract off (off + n * sz)).toList.all oneCell = true then some (a.extract off (off + n * sz), [⟨id, none, false⟩]) else none
    | _ => none
  | .string b => if sz = 1 then some ((byteCells b).toArray, []) else none
  | _ => none

theorem one_one {v : Value} (h : oneCell v = true) : v.oneCell' = true := by cases v <;> first | rfl | cases h

theorem srcCells_rel {P : Program} {base : Nat → Prop} {ι : Ren} {s : St} {w : World} {sz : Nat} {x x' : Value} {c : Array Value} {l : List Touch} {n : Nat} (hr : Rep P base ι s.look w) (hx : VRel ι x x') (h : srcCells s sz x = some (c, l)) (hn : srcLen x = some n) :
    ∃ c' : Array Value, ARel ι c c' ∧ c.size = n * sz ∧ c.toList.all oneCell = true ∧ (∀ w' : World, w'.heap = w.heap → (Builtin.firstCells sz n x').run P w' = .ok c' w') ∧ (∀ w' : World, (Builtin.lenOf x').run P w' = .ok n w') := by
  cases hx with
  | slice0 =>
    simp only [srcCells, Option.some.injEq, Prod.mk.injEq] at h
    simp only [srcLen, Option.some.injEq] at hn
    obtain ⟨rfl, rfl⟩ := h
    subst hn
    exact ⟨#[], ARel.empty ι, by simp, by simp, fun w' _ => rfl, fun w' => rfl⟩
  | string b =>
    simp only [srcCells] at h
    simp only [srcLen, Option.some.injEq] at hn
    split at h
    · rename_i hsz
      cases h
      subst hn hsz
      refine ⟨(byteCells b).toArray, ARel.of_flat (fun i v hv => ?_), by simp [byteCells_length], ?_, fun w' _ => firstCells_string b w', fun w' => rfl⟩
      · have := List.mem_of_getElem? (by simpa using hv : (byteCells b)[i]? = some v)
        obtain ⟨q, _, rfl⟩ := List.mem_map.1 this
        exact .int _ _
      · rw [List.all_eq_true]
        intro v hv
        obtain ⟨q, _, rfl⟩ := List.mem_map.1 (by simpa using hv : v ∈ byteCells b)
        rfl
    · cases h
  | slice id off b m cc cc' hb h0 h1 h2 h3 =>
    simp only [srcLen, Option.some.injEq] at hn
    subst hn
    simp only [srcCells] at h
    cases hl : s.look id with
    | none => simp [hl] at h
    | some o =>
      cases o with
      | cells a e f =>
        simp only [hl] at h
        split at h
        · rename_i hc
          cases h
          obtain ⟨b', o', i1, i2, i3, i4⟩ := hr.there id _ hl (hr.real hl hb)
          rw [hb] at i1
          cases i1
          obtain ⟨hf, a', rfl, j1, j2, j3, j4⟩ := i3
          have hsz : (a.extract off (off + m * sz)).size = m * sz := by simp; omega
          have hsz' : (a'.extract off (off + m * sz)).size = m * sz := by simp; omega
          refine ⟨a'.extract off (off + m * sz), ⟨by rw [hsz, hsz'], fun i v v' g1 g2 => ?_⟩, hsz, hc.2, fun w' hw' => ?_, fun w' => rfl⟩
          · rw [Array.getElem?_extract] at g1 g2
            split at g1
            · split at g2
              · exact j3 _ v v' g1 g2
              · cases g2
            · cases g1
          · have := run_firstCells_some (P := P) w' sz m ⟨b, off, none⟩ m cc' (a'.extract off (off + m * sz)).toList (by simp; omega) (fun j u hu => by
              rw [Addr.add_mk]
              have hu' : (a'.extract off (off + m * sz))[j]? = some u := by rw [← Array.getElem?_toList]; exact hu
              rw [Array.getElem?_extract] at hu'
              split at hu'
              · simp only [World.cell?, hw', i2]
                exact hu'
              · cases hu')
            rw [Array.toArray_toList] at this
            exact this
        · cases h
      | _ => simp [hl] at h
  | sliceE id off b hb h0 =>
    simp only [srcLen, Option.some.injEq] at hn
    subst hn
    simp only [srcCells] at h
    cases hl : s.look id with
    | none => simp [hl] at h
    | some o =>
      cases o with
      | cells a e f =>
        simp only [hl] at h
        split at h
        · rename_i hc
          cases h
          refine ⟨#[], ⟨by simp; omega, fun i v v' g1 g2 => by simp at g2⟩, by simp; omega, hc.2, fun w' hw' => ?_, fun w' => rfl⟩
          have := run_firstCells_some (P := P) w' sz 0 ⟨b, off, none⟩ 0 0 [] (by simp) (fun j u hu => by simp at hu)
          simpa using this
        · cases h
      | _ => simp [hl] at h
  | _ => cases h

/-- 'append', of a slice and a slice, or a text. -/
def aAppend (P : Program) (s : St) (t u : TypeId) (dst src : Value) : Option (Value × St) :=
  match P.underlying t, srcLen src, dst with
  | some (.slice e), some m, .slice ba n c =>
    match P.info? e with
    | some i =>
      match i.zero, (match P.underlying u with | some (.slice _) | some .string => true | _ => false) with
      | some z, true =>
        if m = 0 then some (dst, s)
        else if (n + m) * i.bytes ≤ 140737488355328 ∧ n + m ≤ 1000000000 ∧ 4 * s.next + 1 < lim ∧ 0 < i.size ∧ z.cells.size = i.size ∧ (n = 0 ∨ ba.isSome = true) then
          match srcCells s i.size src, srcCells s i.size dst with
          | some (news, l1), some (olds, l2) =>
            let id := 4 * s.next + 1
            let v : Value := .slice (some ⟨id, 0, none⟩) (n + m) (n + m)
            match ba with
            | none => some (v, { s.put id (some (.cells (olds ++ news) e (0, 0))) with next := s.next + 1, log := ⟨id, none, true⟩ :: (l1 ++ (l2 ++ s.log)) })
            | some a =>
              if gro a.block then
                match a.off, s.look a.block with
                | 0, some (.cells _ e0 _) => if e0 = e ∧ a.block < lim then some (v, { (s.put a.block none).put id (some (.cells (olds ++ news) e (0, 0))) with next := s.next + 1, log := ⟨id, none, true⟩ :: ⟨a.block, none, true⟩ :: (l1 ++ (l2 ++ s.log)) }) else none
                | _, _ => none
              else if c < n + m then some (v, { s.put id (some (.cells (olds ++ news) e (0, 0))) with next := s.next + 1, log := ⟨id, none, true⟩ :: (l1 ++ (l2 ++ s.log)) })
              else none
          | _, _ => none
        else none
      | _, _ => none
    | none => none
  | _, _, _ => none

theorem gro_id (n : Nat) : gro (4 * n + 1) = true := by simp [gro, Nat.add_mod]

/-- A new block that may be longer than known. -/
theorem Rep.grown {P : Program} {base : Nat → Prop} {ι : Ren} {H : Nat → Option Obj} {s : St} {w : World} {id cap : Nat} {c c' : Array Value} {e : TypeId} {ti : TypeInfo} (hs : s.look = H) (hr : Rep P base ι H w) (hlim : id < lim) (hn : ι id = none) (hn2 : ι (id + 1) = none) (hg : gro id = true)
    (hc : c.size ≤ c'.size) (hcr : ∀ (i : Nat) (v v' : Value), c[i]? = some v → c'[i]? = some v' → VRel ι v v') (hi : P.info? e = some ti) (hsz : c'.size = cap * ti.size) :
    Rep P base ((ι.upd (id + 1) cap).upd id w.heap.size) (s.put id (some (.cells c e (0, 0)))).look { w with heap := w.heap.push (.cells c' e (0, 0)) } := by
  have h1 : RLe ι (ι.upd (id + 1) cap) := Ren.upd_le hn2
  have hr1 : Rep P base (ι.upd (id + 1) cap) s.look w := by
    rw [hs]
    have back0 : ∀ x o b, H x = some o → (ι.upd (id + 1) cap) x = some b → ι x = some b := by
      intro x o b hx g
      unfold Ren.upd at g
      split at g
      · rename_i ex
        exfalso
        subst ex
        cases hgo : gnum o with
        | none =>
          obtain ⟨b2, _, k, _⟩ := hr.there _ o hx hgo
          rw [hn2] at k
          cases k
        | some gg =>
          obtain ⟨e3, _⟩ := hr.gh _ o gg hx hgo
          unfold gro at hg
          simp at hg
          omega
      · exact g
    refine ⟨?_, ?_, hr.sz, hr.ghk (fun _ _ _ h _ => h) h1 (by unfold Ren.upd; rw [if_neg (fun e3 => by unfold gro at hg; simp at hg; omega)]) (Nat.le_refl _) (fun _ _ _ => rfl) (fun x ox bb hx hbb => .inl ⟨x, ox, hx, back0 x ox bb hx hbb⟩)⟩
    · intro x y ox oy b hx hy g1 g2
      exact hr.inj x y ox oy b hx hy (back0 x ox b hx g1) (back0 y oy b hy g2)
    · intro x ox hx hrl
      obtain ⟨b, o', k1, k2, k3, k4⟩ := hr.there x ox hx hrl
      exact ⟨b, o', h1 _ _ k1, k2, k3.mono h1, k4⟩
  refine Rep.new hr1 hlim (by unfold gro at hg; simp at hg; omega) ?_ ?_
  · unfold Ren.upd
    rw [if_neg (by omega)]
    exact hn
  · refine ⟨rfl, c', rfl, hc, (fun g => by rw [hg] at g; cases g), fun i v v' a b => (hcr i v v' a b).mono h1, fun _ => ⟨cap, ti, by simp [Ren.upd], hi, hsz⟩⟩

theorem Rep.drop {P : Program} {base : Nat → Prop} {ι : Ren} {s : St} {w : World} {id : Nat} (hr : Rep P base ι s.look w) (hlim : id < lim) : Rep P base ι (s.put id none).look w := by
  have live : ∀ x o, (s.put id none).look x = some o → x ≠ id ∧ s.look x = some o := by
    intro x o hx
    by_cases e : x = id
    · subst e; rw [St.look_put_same _ _ _ hlim] at hx; cases hx
    · rw [St.look_put_other _ _ _ _ e] at hx; exact ⟨e, hx⟩
  refine ⟨fun x y ox oy b hx hy g1 g2 => hr.inj x y ox oy b (live x ox hx).2 (live y oy hy).2 g1 g2, fun x ox hx => hr.there x ox (live x ox hx).2, hr.sz, hr.ghk (fun x ox g hx _ => (live x ox hx).2) (RLe.refl _) rfl (Nat.le_refl _) (fun _ _ _ => rfl) (fun x ox bb hx hbb => .inl ⟨x, ox, (live x ox hx).2, hbb⟩)⟩

def AppS (P : Program) (base : Nat → Prop) (ι : Ren) (s s1 : St) (w : World) (v : Value) (m' : Sem Value) : Prop :=
  ∃ (κ : Ren) (v' : Value) (w1 : World), m'.run P w = .ok v' w1 ∧ Rep P base κ s1.look w1 ∧ (∀ id, (id < 4 * s.next ∨ 4 * s1.next ≤ id) → κ id = ι id) ∧ VRel κ v v' ∧ Out base w w1

theorem ARel.append {ι : Ren} {a a' b b' : Array Value} (h : ARel ι a a') (k : ARel ι b b') : ARel ι (a ++ b) (a' ++ b') := by
  refine ⟨by simp [h.1, k.1], fun i e e' h1 h2 => ?_⟩
  rw [Array.getElem?_append] at h1 h2
  rw [h.1] at h1
  split at h1
  · rename_i c
    rw [if_pos c] at h2
    exact h.2 i e e' h1 h2
  · rename_i c
    rw [if_neg c] at h2
    exact k.2 _ e e' h1 h2

theorem all_one {ι : Ren} {c c' : Array Value} (h : ARel ι c c') (ha : c.toList.all oneCell = true) : ∀ u ∈ c'.toList, u.oneCell' = true := by
  intro u hu
  rw [List.all_eq_true] at ha
  obtain ⟨i, hi⟩ := List.getElem?_of_mem hu
  have hi' : c'[i]? = some u := by rw [← Array.getElem?_toList]; exact hi
  rcases h.get i with ⟨e1, e2⟩ | ⟨x, x', e1, e2, hx⟩
  · rw [hi'] at e2; cases e2
  · rw [hi'] at e2
    cases e2
    exact one_one (hx.one (ha x (by rw [Array.mem_toList_iff]; exact Array.mem_of_getElem? e1)))

theorem grow_sound {P : Program} {base : Nat → Prop} {ι : Ren} {s : St} {w : World} {t u ty e : TypeId} {i : TypeInfo} {z : Value} {ba' : Option Addr} {n c' m : Nat} {src' : Value} {olds olds' news news' : Array Value} {lg : List Touch}
    (hr : Rep P base ι s.look w) (ht : P.underlying t = some (.slice e)) (hu : (∃ e', P.underlying u = some (.slice e')) ∨ P.underlying u = some .string) (hi : P.info? e = some i) (hz : i.zero = some z) (hzs : z.cells.size = i.size)
    (hbytes : (n + m) * i.bytes ≤ 140737488355328) (hnm : n + m ≤ 1000000000) (hm : 0 < m) (hlim : 4 * s.next + 1 < lim) (hg : c' < n + m)
    (ho : ARel ι olds olds') (ho2 : olds.size = n * i.size) (ho3 : ∀ w' : World, w'.heap = w.heap → (Builtin.firstCells i.size n (.slice ba' n c')).run P w' = .ok olds' w')
    (hn : ARel ι news news') (hn2 : news.size = m * i.size) (hn3 : news.toList.all oneCell = true) (hn4 : ∀ w' : World, w'.heap = w.heap → (Builtin.firstCells i.size m src').run P w' = .ok news' w') (hn5 : ∀ w' : World, (Builtin.lenOf src').run P w' = .ok m w')
    (hfr : ∀ id, 4 * s.next ≤ id → id < 4 * (s.next + 1) → ι id = none) :
    AppS P base ι s { s.put (4 * s.next + 1) (some (.cells (olds ++ news) e (0, 0))) with next := s.next + 1, log := lg } w (.slice (some ⟨4 * s.next + 1, 0, none⟩) (n + m) (n + m)) (Builtin.append_ #[t, u] ty #[.slice ba' n c', src']) := by
  have hsrc : Src P i.size u src' m news'.toList w := by
    refine ⟨hu, hn5, ?_, ?_, by rw [Array.length_toList, ← hn.1, hn2], all_one hn hn3⟩
    · rw [Array.toArray_toList]; exact hn4 w rfl
    · rw [Array.toArray_toList]; exact hn4 w.drew rfl
  have hrun := run_append_grow_src (P := P) w t u ty e i z ht hi hz ba' n c' olds'.toList (by rw [Array.toArray_toList]; exact ho3 w.drew rfl) src' m news'.toList hsrc hg (by omega) (growslice_fits hg hbytes)
  have hcap := grownCap_ge w (n + m) c' e
  generalize grownCap w (n + m) c' e = cap at hrun hcap
  have e1 : (olds'.toList ++ news'.toList).toArray = olds' ++ news' := by
    apply Array.ext'
    simp
  rw [e1] at hrun
  have hrel := ho.append hn
  have hsz : (olds' ++ news').size = (n + m) * i.size := by
    rw [← hrel.1, Array.size_append, ho2, hn2, Nat.add_mul]
  have hzc : (Builtin.zeroCells z.cells (cap - (n + m))).size = (cap - (n + m)) * i.size := by
    simp [Builtin.zeroCells, hzs]
  have hrep := Rep.grown (P := P) (H := s.look) (s := s) (id := 4 * s.next + 1) (cap := cap) (c := olds ++ news) (c' := olds' ++ news' ++ Builtin.zeroCells z.cells (cap - (n + m))) (e := e) (ti := i) (w := w.drew) rfl ⟨hr.inj, hr.there, hr.sz, hr.ghk (fun _ _ _ h _ => h) (RLe.refl _) rfl (Nat.le_refl _) (fun _ _ _ => rfl) (fun x ox bb hx hbb => .inl ⟨x, ox, hx, hbb⟩)⟩ hlim (hfr _ (by omega) (by omega)) (hfr _ (by omega) (by omega)) (gro_id _)
    (by rw [hrel.1, Array.size_append (xs := olds' ++ news')]; omega)
    (fun k v v' g1 g2 => by
      have hk : k < (olds' ++ news').size := by
        rw [← hrel.1]
        rcases Nat.lt_or_ge k (olds ++ news).size with g | g
        · exact g
        · rw [Array.getElem?_eq_none g] at g1; cases g1
      rw [Array.getElem?_append_left hk] at g2
      exact hrel.2 k v v' g1 g2)
    hi (by rw [Array.size_append (xs := olds' ++ news'), hsz, hzc, ← Nat.add_mul]; congr 1; omega)
  refine ⟨_, _, _, hrun, hrep, ?_, ?_, ?_⟩
  · intro id hid
    have hid' : id < 4 * s.next ∨ 4 * (s.next + 1) ≤ id := hid
    unfold Ren.upd
    rw [if_neg (by omega), if_neg (by omega)]
  · refine .slice _ 0 _ _ _ _ (by simp [Ren.upd]) (fun g => by rw [gro_id] at g; cases g) (fun _ => ⟨hcap, fun _ => ?_⟩) (by omega) (Nat.le_refl _)
    simp [Ren.upd]
  · exact ((Out.refl base w).drew).alloc hr.sz _

theorem room_sound {P : Program} {base : Nat → Prop} {ι : Ren} {s : St} {w : World} {t u ty e : TypeId} {i : TypeInfo} {id b n c' m : Nat} {src' : Value} {a0 : Array Value} {f0 : Nat × Nat} {olds olds' news news' : Array Value} {lg : List Touch}
    (hr : Rep P base ι s.look w) (hl : s.look id = some (.cells a0 e f0)) (hb : ι id = some b) (hgid : gro id = true) (hcap : ι (id + 1) = some c') (hidl : id < lim)
    (ht : P.underlying t = some (.slice e)) (hu : (∃ e', P.underlying u = some (.slice e')) ∨ P.underlying u = some .string) (hi : P.info? e = some i)
    (hm : 0 < m) (hlim : 4 * s.next + 1 < lim) (hg : n + m ≤ c')
    (ho : ARel ι olds olds') (ho2 : olds.size = n * i.size) (ho3 : ∀ w' : World, w'.heap = w.heap → (Builtin.firstCells i.size n (.slice (some ⟨b, 0, none⟩) n c')).run P w' = .ok olds' w') (hoe : olds = a0.extract 0 (0 + n * i.size))
    (hn : ARel ι news news') (hn2 : news.size = m * i.size) (hn3 : news.toList.all oneCell = true) (hn4 : ∀ w' : World, w'.heap = w.heap → (Builtin.firstCells i.size m src').run P w' = .ok news' w') (hn5 : ∀ w' : World, (Builtin.lenOf src').run P w' = .ok m w')
    (hfr : ∀ id, 4 * s.next ≤ id → id < 4 * (s.next + 1) → ι id = none) :
    AppS P base ι s { (s.put id none).put (4 * s.next + 1) (some (.cells (olds ++ news) e (0, 0))) with next := s.next + 1, log := lg } w (.slice (some ⟨4 * s.next + 1, 0, none⟩) (n + m) (n + m)) (Builtin.append_ #[t, u] ty #[.slice (some ⟨b, 0, none⟩) n c', src']) := by
  obtain ⟨b', o', i1, i2, i3, i4⟩ := hr.there id _ hl (hr.real hl hb)
  rw [hb] at i1
  cases i1
  obtain ⟨hf, cur, rfl, j1, j2, j3, j4⟩ := i3
  obtain ⟨cap, ti, k1, k2, k3⟩ := j4 hgid
  rw [hcap] at k1
  cases k1
  rw [hi] at k2
  cases k2
  have hsrc : Src P i.size u src' m news'.toList w := by
    refine ⟨hu, hn5, ?_, ?_, by rw [Array.length_toList, ← hn.1, hn2], all_one hn hn3⟩
    · rw [Array.toArray_toList]; exact hn4 w rfl
    · rw [Array.toArray_toList]; exact hn4 w.drew rfl
  have hnl : news'.toList.length = m * i.size := by rw [Array.length_toList, ← hn.1, hn2]
  have hfit : n * i.size + m * i.size ≤ cur.size := by
    rw [k3, ← Nat.add_mul]
    exact Nat.mul_le_mul_right _ hg
  have hrun := run_append_room_src (P := P) w t u ty e i ht hi b 0 n c' src' m news'.toList hsrc hg
    (fun j hj => by
      have hlt : 0 + n * i.size + j < cur.size := by omega
      simp only [World.cell?, i2, Array.getElem?_eq_getElem hlt]
      rfl)
    (fun j hj => by simp [World.frozen?, i2])
  obtain ⟨cur2, s1, s2, s3, s4⟩ := heap_setCells (b := b) news'.toList (0 + n * i.size) w cur i2
  have hnid : ι (4 * s.next + 1) = none := hfr _ (by omega) (by omega)
  have hnid2 : ι (4 * s.next + 1 + 1) = none := hfr _ (by omega) (by omega)
  have hle1 : RLe ι (ι.upd (4 * s.next + 1 + 1) c') := Ren.upd_le hnid2
  have hle2 : RLe (ι.upd (4 * s.next + 1 + 1) c') ((ι.upd (4 * s.next + 1 + 1) c').upd (4 * s.next + 1) b) := Ren.upd_le (by unfold Ren.upd; rw [if_neg (by omega)]; exact hnid)
  have hle := hle1.trans hle2
  have hrel := ho.append hn
  have hne : id ≠ 4 * s.next + 1 := by intro e; rw [e, hnid] at hb; cases hb
  have lives : ∀ x ox, x ≠ 4 * s.next + 1 → ((s.put id none).put (4 * s.next + 1) (some (.cells (olds ++ news) e (0, 0)))).look x = some ox → x ≠ id ∧ s.look x = some ox := by
    intro x ox hx h
    rw [St.look_put_other _ _ _ _ hx] at h
    by_cases ex : x = id
    · subst ex; rw [St.look_put_same _ _ _ hidl] at h; cases h
    · rw [St.look_put_other _ _ _ _ ex] at h; exact ⟨ex, h⟩
  have back : ∀ x ox bb, s.look x = some ox → ((ι.upd (4 * s.next + 1 + 1) c').upd (4 * s.next + 1) b) x = some bb → ι x = some bb := by
    intro x ox bb hx h
    cases hgo : gnum ox with
    | none =>
      obtain ⟨b2, o2, g1, _⟩ := hr.there x ox hx hgo
      have := hle _ _ g1
      rw [h] at this
      cases this
      exact g1
    | some gg =>
      obtain ⟨e3, _⟩ := hr.gh _ ox gg hx hgo
      subst e3
      unfold Ren.upd at h
      rw [if_neg (by omega), if_neg (by omega)] at h
      exact h
  have hrep : Rep P base ((ι.upd (4 * s.next + 1 + 1) c').upd (4 * s.next + 1) b) ((s.put id none).put (4 * s.next + 1) (some (.cells (olds ++ news) e (0, 0)))).look (w.setCells b (0 + n * i.size) news'.toList) := by
    refine ⟨?_, ?_, by rw [setCells_size]; exact hr.sz, hr.ghk (fun x ox g hx hg => ?_) hle (by unfold Ren.upd; rw [if_neg (by omega), if_neg (by omega)]) (by rw [setCells_size]; exact Nat.le_refl _) (fun j hj _ => setCells_other _ _ _ _ (hj id _ b hl hb)) (fun x ox bb hx hbb => ?_)⟩
    rotate_left 2
    · by_cases ex : x = 4 * s.next + 1
      · subst ex
        rw [St.look_put_same _ _ _ hlim] at hx
        cases hx
        cases hg
      · exact (lives x ox ex hx).2
    · by_cases ex : x = 4 * s.next + 1
      · subst ex
        simp only [Ren.upd, if_true, Option.some.injEq] at hbb
        subst hbb
        exact .inl ⟨id, _, hl, hb⟩
      · exact .inl ⟨x, ox, (lives x ox ex hx).2, back x ox bb (lives x ox ex hx).2 hbb⟩
    · intro x y ox oy bb hx hy g1 g2
      by_cases ex : x = 4 * s.next + 1
      · by_cases ey : y = 4 * s.next + 1
        · rw [ex, ey]
        · exfalso
          obtain ⟨y1, y2⟩ := lives y oy ey hy
          have := back y oy bb y2 g2
          subst ex
          simp only [Ren.upd, if_true, Option.some.injEq] at g1
          subst g1
          exact y1 (hr.inj y id oy _ b y2 hl this hb)
      · obtain ⟨x1, x2⟩ := lives x ox ex hx
        have hx3 := back x ox bb x2 g1
        by_cases ey : y = 4 * s.next + 1
        · exfalso
          subst ey
          simp only [Ren.upd, if_true, Option.some.injEq] at g2
          subst g2
          exact x1 (hr.inj x id ox _ b x2 hl hx3 hb)
        · obtain ⟨y1, y2⟩ := lives y oy ey hy
          exact hr.inj x y ox oy bb x2 y2 hx3 (back y oy bb y2 g2)
    · intro x ox hx hrl
      by_cases ex : x = 4 * s.next + 1
      · subst ex
        rw [St.look_put_same _ _ _ hlim] at hx
        cases hx
        refine ⟨b, _, by simp [Ren.upd], s1, ⟨rfl, cur2, rfl, ?_, (fun g => by rw [gro_id] at g; cases g), ?_, fun _ => ⟨c', i, by simp [Ren.upd], hi, by rw [s2]; exact k3⟩⟩, i4⟩
        · rw [s2, Array.size_append, ho2, hn2]; exact hfit
        · intro k v v' g1 g2
          by_cases hk : k < olds.size
          · rw [Array.getElem?_append_left hk] at g1
            rw [s3 k (by omega)] at g2
            rw [hoe, Array.getElem?_extract] at g1
            split at g1
            · rw [Nat.zero_add] at g1
              exact (j3 k v v' g1 g2).mono hle
            · cases g1
          · rw [Array.getElem?_append_right (Nat.le_of_not_lt hk)] at g1
            have hkn : k - olds.size < news.size := by
              rcases Nat.lt_or_ge (k - olds.size) news.size with g | g
              · exact g
              · rw [Array.getElem?_eq_none g] at g1; cases g1
            rcases hn.get (k - olds.size) with ⟨e1, e2⟩ | ⟨x, x', e1, e2, hx⟩
            · rw [g1] at e1; cases e1
            · rw [g1] at e1
              cases e1
              have := s4 (k - olds.size) x' (by rw [Array.getElem?_toList]; exact e2) (by omega)
              rw [show 0 + n * i.size + (k - olds.size) = k by omega, g2] at this
              cases this
              exact hx.mono hle
      · obtain ⟨x1, x2⟩ := lives x ox ex hx
        obtain ⟨b2, o2, g1, g2, g3, g4⟩ := hr.there x ox x2 hrl
        have hbb : b2 ≠ b := by
          intro eb
          subst eb
          exact x1 (hr.inj x id ox _ b2 x2 hl g1 hb)
        exact ⟨b2, o2, hle _ _ g1, by rw [setCells_other _ _ _ _ hbb]; exact g2, g3.mono hle, g4⟩
  refine ⟨_, _, _, hrun, hrep, ?_, ?_, setCells_below i4 _ _ _⟩
  · intro x hx
    have hx' : x < 4 * s.next ∨ 4 * (s.next + 1) ≤ x := hx
    unfold Ren.upd
    rw [if_neg (by omega), if_neg (by omega)]
  · refine .slice _ 0 _ _ _ _ (by simp [Ren.upd]) (fun g => by rw [gro_id] at g; cases g) (fun _ => ⟨hg, fun _ => ?_⟩) (by omega) (Nat.le_refl _)
    simp [Ren.upd]

theorem nothing_src {P : Program} {ι : Ren} {x x' : Value} {sz : Nat} {u : TypeId} {w : World} (hx : VRel ι x x') (hl : srcLen x = some 0) (hu : (∃ e', P.underlying u = some (.slice e')) ∨ P.underlying u = some .string) : Src P sz u x' 0 [] w := by
  have key : (∀ w' : World, (Builtin.lenOf x').run P w' = .ok 0 w') ∧ ∀ w' : World, (Builtin.firstCells sz 0 x').run P w' = .ok #[] w' := by
    cases hx with
    | slice0 => exact ⟨fun _ => rfl, fun _ => rfl⟩
    | slice id off b n c c' h h0 h1 h2 h3 =>
      simp only [srcLen, Option.some.injEq] at hl
      subst hl
      exact ⟨fun _ => rfl, fun w' => by simpa using run_firstCells_some (P := P) w' sz 0 ⟨b, off, none⟩ 0 c' [] (by simp) (fun j u hu => by simp at hu)⟩
    | sliceE id off b h h0 => exact ⟨fun _ => rfl, fun w' => by simpa using run_firstCells_some (P := P) w' sz 0 ⟨b, off, none⟩ 0 0 [] (by simp) (fun j u hu => by simp at hu)⟩
    | string s =>
      simp only [srcLen, Option.some.injEq] at hl
      refine ⟨fun w' => by rw [← hl]; rfl, fun w' => ?_⟩
      simp [Builtin.firstCells]
    | _ => cases hl
  exact ⟨hu, key.1, by simpa using key.2 w, by simpa using key.2 w.drew, by simp, fun _ h => by cases h⟩

theorem aAppend_sound {P : Program} {base : Nat → Prop} {ι : Ren} {s s1 : St} {w : World} {t u ty : TypeId} {dst dst' src src' v : Value} (hr : Rep P base ι s.look w) (hd : VRel ι dst dst') (hx : VRel ι src src')
    (ha : aAppend P s t u dst src = some (v, s1)) (hfr : ∀ id, 4 * s.next ≤ id → id < 4 * s1.next → ι id = none) : AppS P base ι s s1 w v (Builtin.append_ #[t, u] ty #[dst', src']) := by
  unfold aAppend at ha
  split at ha
  · rename_i e m ba n c ht hm
    split at ha
    · rename_i i hi
      split at ha
      · rename_i z hz hu0
        have hu : (∃ e', P.underlying u = some (.slice e')) ∨ P.underlying u = some .string := by
          split at hu0
          · rename_i e' he; exact .inl ⟨e', he⟩
          · rename_i he; exact .inr he
          · cases hu0
        split at ha
        · rename_i hm0
          subst hm0
          cases ha
          have hsrc := nothing_src (P := P) (sz := i.size) (w := w) hx hm hu
          have hdd : ∃ ba' c', dst' = .slice ba' n c' ∧ n ≤ c' := by
            cases hd with
            | slice0 => exact ⟨none, 0, rfl, Nat.le_refl _⟩
            | slice id off b _ _ c' h h0 h1 h2 h3 =>
              refine ⟨_, c', rfl, ?_⟩
              cases hg : gro id with
              | false => rw [← h0 hg]; exact h3
              | true => exact Nat.le_trans h3 (h1 hg).1
            | sliceE id off b h h0 => exact ⟨_, 0, rfl, Nat.le_refl _⟩
          obtain ⟨ba', c', rfl, hle⟩ := hdd
          exact ⟨ι, _, w, run_append_nothing w t u ty e i ht hi ba' n c' hle src' hsrc, hr, fun _ _ => rfl, hd, Out.refl _ _⟩
        · rename_i hm0
          split at ha
          · rename_i hc
            obtain ⟨hc1, hc2, hc3, hc4, hc5, hc6⟩ := hc
            split at ha
            · rename_i news l1 olds l2 hnw hol
              obtain ⟨news', n1, n2, n3, n4, n5⟩ := srcCells_rel hr hx hnw hm
              dsimp only at ha
              cases ba with
              | none =>
                dsimp only at ha
                cases ha
                cases hd with
                | slice0 =>
                  obtain ⟨olds', o1, o2, o3, o4, o5⟩ := srcCells_rel hr (VRel.slice0 (ι := ι)) hol rfl
                  exact grow_sound hr ht hu hi hz hc5 hc1 hc2 (by omega) hc3 (by omega) o1 o2 o4 n1 n2 n3 n4 n5 (fun id h1 h2 => hfr id h1 h2)
              | some a =>
                dsimp only at ha
                split at ha
                · rename_i hg
                  split at ha
                  · rename_i a1 e0 f0 hoff hl
                    split at ha
                    · rename_i he
                      obtain ⟨rfl, hal⟩ := he
                      cases ha
                      have hdv := hd
                      cases hd with
                      | slice id off b _ _ c' hb h0 h1 h2 h3 =>
                        dsimp only at hoff hl hg hal
                        subst hoff
                        obtain ⟨olds', o1, o2, o3, o4, o5⟩ := srcCells_rel hr hdv hol rfl
                        by_cases hroom : n + m ≤ c'
                        · have hoe : olds = a1.extract 0 (0 + n * i.size) := by
                            simp only [srcCells, hl] at hol
                            split at hol
                            · cases hol; rfl
                            · cases hol
                          exact room_sound hr hl hb hg ((h1 hg).2 rfl) hal ht hu hi (by omega) hc3 hroom o1 o2 o4 hoe n1 n2 n3 n4 n5 (fun id h1 h2 => hfr id h1 h2)
                        · obtain ⟨κ, v', w1, r1, r2, r3, r4, r5⟩ := grow_sound (s := s.put id none) (lg := ⟨4 * s.next + 1, none, true⟩ :: ⟨id, none, true⟩ :: (l1 ++ (l2 ++ s.log))) (ty := ty) (Rep.drop hr hal) ht hu hi hz hc5 hc1 hc2 (by omega) hc3 (by omega) o1 o2 o4 n1 n2 n3 n4 n5 (fun id h1 h2 => hfr id h1 h2)
                          exact ⟨κ, v', w1, r1, r2, r3, r4, r5⟩
                      | sliceE id off b hb h0 => rw [h0] at hg; cases hg
                    · cases ha
                  · cases ha
                · rename_i hg
                  split at ha
                  · rename_i hroom
                    cases ha
                    have hdv := hd
                    obtain ⟨olds', o1, o2, o3, o4, o5⟩ := srcCells_rel hr hdv hol rfl
                    cases hd with
                    | slice id off b _ _ c' hb h0 h1 h2 h3 =>
                      have : c = c' := h0 (by simpa using hg)
                      exact grow_sound hr ht hu hi hz hc5 hc1 hc2 (by omega) hc3 (by omega) o1 o2 o4 n1 n2 n3 n4 n5 (fun id h1 h2 => hfr id h1 h2)
                    | sliceE id off b hb h0 => exact grow_sound hr ht hu hi hz hc5 hc1 hc2 (by omega) hc3 (by omega) o1 o2 o4 n1 n2 n3 n4 n5 (fun id h1 h2 => hfr id h1 h2)
                  · cases ha
            · cases ha
          · cases ha
      · cases ha
    · cases ha
  · cases ha
/-- 'append' where there is room, to a block that is known whole. -/
def inRoom (P : Program) (u : TypeId) (d x : Value) : Bool :=
  match d, srcLen x, P.underlying u with
  | .slice (some a) n c, some m, some (.slice _) => !gro a.block && decide (n + m ≤ c)
  | .slice (some a) n c, some m, some .string => !gro a.block && decide (n + m ≤ c)
  | _, _, _ => false

theorem srcLen_rel {ι : Ren} {x x' : Value} {m : Nat} (h : VRel ι x x') (hm : srcLen x = some m) : srcLen x' = some m := by
  cases h <;> first | exact hm | cases hm

theorem sim_appendIn {P : Program} {base : Nat → Prop} {ι : Ren} {d d' x x' : Value} (t u ty : TypeId) (hd : VRel ι d d') (hx : VRel ι x x') (h : inRoom P u d x = true) :
    Sim P base VV ι (Builtin.append_ #[t, u] ty #[d, x]) (Builtin.append_ #[t, u] ty #[d', x']) := by
  have hh : ∃ a n c m, d = .slice (some a) n c ∧ srcLen x = some m ∧ gro a.block = false ∧ n + m ≤ c ∧ ((∃ e, P.underlying u = some (.slice e)) ∨ P.underlying u = some .string) := by
    unfold inRoom at h
    split at h
    · rename_i a n c m e hm hu
      simp only [Bool.and_eq_true, Bool.not_eq_true', decide_eq_true_eq] at h
      exact ⟨a, n, c, m, rfl, hm, h.1, h.2, .inl ⟨e, hu⟩⟩
    · rename_i a n c m hm hu
      simp only [Bool.and_eq_true, Bool.not_eq_true', decide_eq_true_eq] at h
      exact ⟨a, n, c, m, rfl, hm, h.1, h.2, .inr hu⟩
    · cases h
  obtain ⟨a, n, c, m, rfl, hm, hg, hroom, hu⟩ := hh
  have lenx : ∀ x, srcLen x = some m → Builtin.lenOf x = pure m := by
    intro x hx
    cases x <;> first | (cases hx; done) | (simp only [srcLen, Option.some.injEq] at hx; subst hx; rfl)
  have main : ∀ (id off b : Nat), ι id = some b → VRel ι (.slice (some ⟨id, off, none⟩) n c) (.slice (some ⟨b, off, none⟩) n c) → Sim P base VV ι (Builtin.append_ #[t, u] ty #[.slice (some ⟨id, off, none⟩) n c, x]) (Builtin.append_ #[t, u] ty #[.slice (some ⟨b, off, none⟩) n c, x']) := by
    intro id off b hb hself
    unfold Builtin.append_
    simp only [List.getElem?_toArray, List.getElem?_cons_zero, List.getElem?_cons_succ]
    refine Sim.bnd (sim_underlying t) (fun κ a a' hle ha => ?_)
    obtain ⟨rfl, h2⟩ := ha
    cases a' with
    | slice elem =>
      dsimp only
      refine Sim.bnd (sim_sizeOf elem) (fun κ2 sz sz' hle2 hs => ?_)
      subst hs
      refine Sim.bnd (sim_underlying u) (fun κ2' y y' hle2' hy => ?_)
      obtain ⟨rfl, hy⟩ := hy
      refine Sim.bnd (R := fun _ z z' => z = false ∧ z' = false) (Sim.ret ?_) (fun κ3 z z' hle3 hz => ?_)
      · rcases hu with ⟨e, hu⟩ | hu
        · rw [hu] at hy; cases hy; exact ⟨rfl, rfl⟩
        · rw [hu] at hy; cases hy; exact ⟨rfl, rfl⟩
      · obtain ⟨rfl, rfl⟩ := hz
        simp only [Bool.false_eq_true, if_false, Bool.not_false, if_true]
        rw [lenx x hm, lenx x' (srcLen_rel hx hm)]
        refine Sim.bnd (R := fun _ l l' => l = m ∧ l' = m) (Sim.ret ⟨rfl, rfl⟩) (fun κ4 l l' hle4 hl => ?_)
        obtain ⟨rfl, rfl⟩ := hl
        simp only [hroom, if_true]
        have hle3 := RLe.trans hle2' hle3
        have hx4 := (((hx.mono hle).mono hle2).mono hle3).mono hle4
        refine Sim.bnd (sim_firstCells sz' l' hx4) (fun κ5 cs cs' hle5 hc => ?_)
        rw [Addr.add_mk, Addr.add_mk]
        refine Sim.bnd (sim_storeCells _ _ 0 κ5 (hle5 _ _ (hle4 _ _ (hle3 _ _ (hle2 _ _ (hle _ _ hb))))) hc.list) (fun κ6 _ _ hle6 _ => Sim.ret ?_)
        have hm6 := (((((hself.mono hle).mono hle2).mono hle3).mono hle4).mono hle5).mono hle6
        cases hm6 with
        | slice _ _ _ _ _ _ q0 q1 q2 q3 q4 => exact .slice _ _ _ _ _ _ q0 q1 q2 q3 hroom
        | sliceE _ _ _ q0 q1 =>
          have : 0 + l' = 0 := by omega
          rw [this]
          exact .sliceE _ _ _ q0 q1
    | _ => exact Sim.halt
  cases hd with
  | slice id off b _ _ c' hb h0 h1 h2 h3 =>
    have hc : c = c' := h0 hg
    subst hc
    exact main id off b hb (.slice id off b n c c hb h0 h1 h2 h3)
  | sliceE id off b hb h0 => exact main id off b hb (.sliceE id off b hb h0)
end Go.Ev
