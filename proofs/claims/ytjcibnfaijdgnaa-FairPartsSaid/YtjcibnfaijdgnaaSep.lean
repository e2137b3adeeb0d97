/- States outside that are made of parts, each with blocks of its own: what turns one part, or two, leaves the others. -/
import Derived.Test.YtjcibnfaijdgnaaSeg
import Derived.Test.YtjcibnfaijdgnaaSlv
namespace Go.Ev
open Go.RowKit
set_option linter.unusedVariables false
set_option linter.unusedSimpArgs false
set_option linter.unusedSectionVars false

/-- Parts hold, each over its own blocks. -/
structure StarAt (l : List Asr) (Fs : List (Nat → Prop)) (ι : Ren) (F : Nat → Prop) (w : World) : Prop where
  len : Fs.length = l.length
  holds : ∀ (i : Nat) a f, l[i]? = some a → Fs[i]? = some f → a.p ι f w
  apart : ∀ (i j : Nat) f f', i ≠ j → Fs[i]? = some f → Fs[j]? = some f' → ∀ x, f x → ¬ f' x
  all : ∀ x, F x ↔ ∃ (i : Nat) (f : Nat → Prop), Fs[i]? = some f ∧ f x
def star (l : List Asr) : Asr where
  p := fun ι F w => ∃ Fs, StarAt l Fs ι F w
  keep := fun ι F w w' hk ⟨Fs, h⟩ => ⟨Fs, h.len, fun i a f h1 h2 => a.keep ι f w w' (fun j hj => hk j ((h.all j).2 ⟨i, f, h2, hj⟩)) (h.holds i a f h1 h2), h.apart, h.all⟩
  mono := fun ι κ F w hk ⟨Fs, h⟩ => ⟨Fs, h.len, fun i a f h1 h2 => a.mono ι κ f w hk (h.holds i a f h1 h2), h.apart, h.all⟩

theorem StarAt.turn {l l' : List Asr} {Fs Fs' : List (Nat → Prop)} {ι κ : Ren} {F : Nat → Prop} {w w' : World} (h : StarAt l Fs ι F w) (lt : ∀ x, F x → x < w.heap.size) (C : Nat → Prop) (hle : RLe ι κ) (hl : l'.length = l.length) (hf : Fs'.length = Fs.length)
    (same : ∀ i : Nat, ¬ C i → l'[i]? = l[i]? ∧ Fs'[i]? = Fs[i]?) (new : ∀ (i : Nat) a f, C i → l'[i]? = some a → Fs'[i]? = some f → a.p κ f w')
    (dis : ∀ (i j : Nat) f f', C i → C j → i ≠ j → Fs'[i]? = some f → Fs'[j]? = some f' → ∀ x, f x → ¬ f' x)
    (sub : ∀ (i : Nat) f, C i → Fs'[i]? = some f → ∀ x, f x → x < w'.heap.size ∧ ((∃ (j : Nat) (f0 : Nat → Prop), C j ∧ Fs[j]? = some f0 ∧ f0 x) ∨ w.heap.size ≤ x))
    (ht : Turn (fun x => ∃ (j : Nat) (f0 : Nat → Prop), C j ∧ Fs[j]? = some f0 ∧ f0 x) w w') :
    ∃ F', StarAt l' Fs' κ F' w' ∧ Turn F w w' ∧ ∀ x, F' x → x < w'.heap.size ∧ (F x ∨ w.heap.size ≤ x) := by
  have hlt : ∀ (i : Nat) f, Fs[i]? = some f → ∀ x, f x → x < w.heap.size := fun i f hi x hx => lt x ((h.all x).2 ⟨i, f, hi, hx⟩)
  refine ⟨fun x => ∃ (i : Nat) (f : Nat → Prop), Fs'[i]? = some f ∧ f x, ⟨by rw [hf, hl, h.len], fun i a f h1 h2 => ?_, fun i j f f' hij h1 h2 x hx hx' => ?_, fun x => Iff.rfl⟩, ⟨ht.os, ht.tape, ht.output, ht.size, fun x hx hn => ht.block x hx (fun ⟨j, f0, _, q2, q3⟩ => hn ((h.all x).2 ⟨j, f0, q2, q3⟩))⟩, ?_⟩
  · by_cases hc : C i
    · exact new i a f hc h1 h2
    · obtain ⟨s1, s2⟩ := same i hc
      rw [s1] at h1
      rw [s2] at h2
      refine a.mono ι κ f w' hle (a.keep ι f w w' (fun x hx => ht.block x (hlt i f h2 x hx) ?_) (h.holds i a f h1 h2))
      rintro ⟨j, f0, q1, q2, q3⟩
      exact h.apart i j f f0 (fun e => hc (e ▸ q1)) h2 q2 x hx q3
  · by_cases hc : C i
    · by_cases hc' : C j
      · exact dis i j f f' hc hc' hij h1 h2 x hx hx'
      · rw [(same j hc').2] at h2
        rcases (sub i f hc h1 x hx).2 with ⟨j0, f0, q1, q2, q3⟩ | q
        · exact h.apart j0 j f0 f' (fun e => hc' (e ▸ q1)) q2 h2 x q3 hx'
        · have := hlt j f' h2 x hx'
          omega
    · rw [(same i hc).2] at h1
      by_cases hc' : C j
      · rcases (sub j f' hc' h2 x hx').2 with ⟨j0, f0, q1, q2, q3⟩ | q
        · exact h.apart i j0 f f0 (fun e => hc (e ▸ q1)) h1 q2 x hx q3
        · have := hlt i f h1 x hx
          omega
      · rw [(same j hc').2] at h2
        exact h.apart i j f f' hij h1 h2 x hx hx'
  · rintro x ⟨i, f, h1, hx⟩
    by_cases hc : C i
    · refine ⟨(sub i f hc h1 x hx).1, (sub i f hc h1 x hx).2.imp (fun ⟨j, f0, _, q2, q3⟩ => (h.all x).2 ⟨j, f0, q2, q3⟩) id⟩
    · rw [(same i hc).2] at h1
      have := hlt i f h1 x hx
      exact ⟨Nat.lt_of_lt_of_le this ht.size, .inl ((h.all x).2 ⟨i, f, h1, hx⟩)⟩

theorem get_set {α : Type} {l : List α} {i : Nat} (hi : i < l.length) (x : α) (j : Nat) : (l.set i x)[j]? = if i = j then some x else l[j]? := by
  rw [List.getElem?_set]
  by_cases e : i = j
  · subst e; simp [hi]
  · simp [e]
/-- One part turns. -/
theorem StarAt.one {l : List Asr} {Fs : List (Nat → Prop)} {ι κ : Ren} {F f : Nat → Prop} {w w' : World} (h : StarAt l Fs ι F w) (lt : ∀ x, F x → x < w.heap.size) {i : Nat} (hi : Fs[i]? = some f) (hle : RLe ι κ) (a' : Asr) (f' : Nat → Prop) (ha : a'.p κ f' w') (ht : Turn f w w')
    (hs : ∀ x, f' x → x < w'.heap.size ∧ (f x ∨ w.heap.size ≤ x)) : ∃ F', (star (l.set i a')).p κ F' w' ∧ Turn F w w' ∧ ∀ x, F' x → x < w'.heap.size ∧ (F x ∨ w.heap.size ≤ x) := by
  have hlt : i < Fs.length := (List.getElem?_eq_some_iff.1 hi).1
  have hlt' : i < l.length := by rw [← h.len]; exact hlt
  obtain ⟨F', h1, h2⟩ := h.turn (l' := l.set i a') (Fs' := Fs.set i f') lt (fun j => j = i) hle (by simp) (by simp) (fun j hj => by rw [get_set hlt', get_set hlt, if_neg (fun e => hj e.symm), if_neg (fun e => hj e.symm)]; exact ⟨rfl, rfl⟩)
    (fun j a g hj h1 h2 => by
      subst hj
      rw [get_set hlt', if_pos rfl] at h1
      rw [get_set hlt, if_pos rfl] at h2
      cases h1; cases h2
      exact ha)
    (fun j k g g' hj hk hjk => absurd (hj.trans hk.symm) hjk)
    (fun j g hj h1 x hx => by
      subst hj
      rw [get_set hlt, if_pos rfl] at h1
      cases h1
      exact ⟨(hs x hx).1, (hs x hx).2.imp (fun hf => ⟨j, f, rfl, hi, hf⟩) id⟩)
    ⟨ht.os, ht.tape, ht.output, ht.size, fun x hx hn => ht.block x hx (fun hf => hn ⟨i, f, rfl, hi, hf⟩)⟩
  exact ⟨F', ⟨_, h1⟩, h2⟩
/-- Two parts turn. -/
theorem StarAt.two {l : List Asr} {Fs : List (Nat → Prop)} {ι κ : Ren} {F f g : Nat → Prop} {w w' : World} (h : StarAt l Fs ι F w) (lt : ∀ x, F x → x < w.heap.size) {i j : Nat} (hij : i ≠ j) (hi : Fs[i]? = some f) (hj : Fs[j]? = some g) (hle : RLe ι κ) (a' b' : Asr) (f' g' : Nat → Prop) (ha : a'.p κ f' w') (hb : b'.p κ g' w')
    (hd : ∀ x, f' x → ¬ g' x) (ht : Turn (fun x => f x ∨ g x) w w') (hs : ∀ x, f' x ∨ g' x → x < w'.heap.size ∧ ((f x ∨ g x) ∨ w.heap.size ≤ x)) :
    ∃ F', (star ((l.set i a').set j b')).p κ F' w' ∧ Turn F w w' ∧ ∀ x, F' x → x < w'.heap.size ∧ (F x ∨ w.heap.size ≤ x) := by
  have hlt : i < Fs.length := (List.getElem?_eq_some_iff.1 hi).1
  have hlt' : i < l.length := by rw [← h.len]; exact hlt
  have jlt : j < Fs.length := (List.getElem?_eq_some_iff.1 hj).1
  have jlt' : j < l.length := by rw [← h.len]; exact jlt
  have gl : ∀ k, ((l.set i a').set j b')[k]? = if j = k then some b' else if i = k then some a' else l[k]? := fun k => by rw [get_set (by simpa using jlt'), get_set hlt']
  have gf : ∀ k, ((Fs.set i f').set j g')[k]? = if j = k then some g' else if i = k then some f' else Fs[k]? := fun k => by rw [get_set (by simpa using jlt), get_set hlt]
  have up : ∀ x, (f x ∨ g x) → ∃ (k : Nat) (f0 : Nat → Prop), (k = i ∨ k = j) ∧ Fs[k]? = some f0 ∧ f0 x := fun x hx => hx.elim (fun hx => ⟨i, f, .inl rfl, hi, hx⟩) (fun hx => ⟨j, g, .inr rfl, hj, hx⟩)
  obtain ⟨F', h1, h2⟩ := h.turn (l' := (l.set i a').set j b') (Fs' := (Fs.set i f').set j g') lt (fun k => k = i ∨ k = j) hle (by simp) (by simp)
    (fun k hk => by
      have n1 : ¬ j = k := fun e => hk (.inr e.symm)
      have n2 : ¬ i = k := fun e => hk (.inl e.symm)
      simp [gl, gf, n1, n2])
    (fun k a q hk h1 h2 => by
      rw [gl] at h1
      rw [gf] at h2
      rcases hk with rfl | rfl
      · rw [if_neg (fun e => hij e.symm), if_pos rfl] at h1 h2
        cases h1; cases h2
        exact ha
      · rw [if_pos rfl] at h1 h2
        cases h1; cases h2
        exact hb)
    (fun k m q q' hk hm hkm h1 h2 x hx hx' => by
      rw [gf] at h1 h2
      rcases hk with rfl | rfl <;> rcases hm with rfl | rfl
      · exact hkm rfl
      · rw [if_neg (fun e => hij e.symm), if_pos rfl] at h1
        rw [if_pos rfl] at h2
        cases h1; cases h2
        exact hd x hx hx'
      · rw [if_pos rfl] at h1
        rw [if_neg (fun e => hij e.symm), if_pos rfl] at h2
        cases h1; cases h2
        exact hd x hx' hx
      · exact hkm rfl)
    (fun k q hk h1 x hx => by
      rw [gf] at h1
      rcases hk with rfl | rfl
      · rw [if_neg (fun e => hij e.symm), if_pos rfl] at h1
        cases h1
        exact ⟨(hs x (.inl hx)).1, (hs x (.inl hx)).2.imp (up x) id⟩
      · rw [if_pos rfl] at h1
        cases h1
        exact ⟨(hs x (.inr hx)).1, (hs x (.inr hx)).2.imp (up x) id⟩)
    ⟨ht.os, ht.tape, ht.output, ht.size, fun x hx hn => ht.block x hx (fun hf => hn (up x hf))⟩
  exact ⟨F', ⟨_, h1⟩, h2⟩
end Go.Ev
