/- The evaluator, part twenty-one: who wrote last; which operations stand before others; the steps of a region, one by one. -/
import Derived.Test.YtjcibnfaijdgnaaEvT
namespace Go.Ev
open Go.RowKit
set_option linter.unusedVariables false
set_option linter.unusedSimpArgs false
set_option linter.unusedSectionVars false
variable [Sig]

section Last
variable {X Y : Type}
/-- At x there is what the last one of D that writes it left. -/
def Holds (D : Nat → Prop) (W : Nat → X → Prop) (V : Nat → X → Y) (z : X → Y) (x : X) : Prop :=
  (∀ m, D m → W m x → (∀ m', D m' → W m' x → m' ≤ m) → z x = V (m + 1) x) ∧ ((∀ m, D m → ¬ W m x) → z x = V 0 x)

theorem same_between {W : Nat → X → Prop} {V : Nat → X → Y} {N : Nat} {x : X} (hV : ∀ i, i < N → ¬ W i x → V (i + 1) x = V i x) (i : Nat) :
    ∀ d, i + d ≤ N → (∀ m, i ≤ m → m < i + d → ¬ W m x) → V (i + d) x = V i x := by
  intro d
  induction d with
  | zero => intro _ _; rfl
  | succ d ih =>
    intro h hn
    rw [← ih (by omega) (fun m a b => hn m a (by omega))]
    exact hV (i + d) (by omega) (hn (i + d) (by omega) (by omega))

theorem last_below (p : Nat → Prop) : ∀ i, (∃ m, m < i ∧ p m) → ∃ m, m < i ∧ p m ∧ ∀ m', m' < i → p m' → m' ≤ m := by
  intro i
  induction i with
  | zero => rintro ⟨m, h, _⟩; omega
  | succ i ih =>
    rintro ⟨m, h, hm⟩
    by_cases hp : p i
    · exact ⟨i, by omega, hp, fun m' a _ => by omega⟩
    · have hmi : m < i := by
        rcases Nat.lt_or_ge m i with g | g
        · exact g
        · have e : m = i := by omega
          rw [e] at hm
          exact absurd hm hp
      obtain ⟨k, a, b, c⟩ := ih ⟨m, hmi, hm⟩
      refine ⟨k, by omega, b, fun m' x y => ?_⟩
      rcases Nat.lt_or_ge m' i with g | g
      · exact c m' g y
      · have : m' = i := by omega
        rw [this] at y
        exact absurd y hp

theorem Holds.read {D : Nat → Prop} {W : Nat → X → Prop} {V : Nat → X → Y} {z : X → Y} {x : X} {N i : Nat} (hz : Holds D W V z x) (hN : i ≤ N) (hD : ∀ m, D m → m < N) (hi : ¬ D i)
    (hV : ∀ i, i < N → ¬ W i x → V (i + 1) x = V i x) (hc : ∀ m, m < N → m ≠ i → W m x → (m < i → D m) ∧ (i < m → ¬ D m)) : z x = V i x := by
  have hlt : ∀ m, D m → W m x → m < i := by
    intro m hm hw
    rcases Nat.lt_trichotomy m i with g | g | g
    · exact g
    · subst g; exact absurd hm hi
    · exact absurd hm ((hc m (hD m hm) (by omega) hw).2 g)
  by_cases hex : ∃ m, m < i ∧ W m x
  · obtain ⟨m, h1, h2, h3⟩ := last_below (fun m => W m x) i hex
    have hm : D m := (hc m (by omega) (by omega) h2).1 h1
    rw [hz.1 m hm h2 (fun m' a b => h3 m' (hlt m' a b) b)]
    have := same_between (N := N) hV (m + 1) (i - (m + 1)) (by omega) (fun k a b hk => by have := h3 k (by omega) hk; omega)
    rw [show m + 1 + (i - (m + 1)) = i by omega] at this
    exact this.symm
  · rw [hz.2 (fun m hm hw => hex ⟨m, hlt m hm hw, hw⟩)]
    have := same_between (N := N) hV 0 i (by omega) (fun k a b hk => hex ⟨k, by omega, hk⟩)
    rw [Nat.zero_add] at this
    exact this.symm

theorem Holds.step {D D' : Nat → Prop} {W : Nat → X → Prop} {V : Nat → X → Y} {z z' : X → Y} {x : X} {i : Nat} (hz : Holds D W V z x) (hD : ∀ m, D' m ↔ m = i ∨ D m)
    (h1 : W i x → z' x = V (i + 1) x) (h2 : ¬ W i x → z' x = z x) (hc : W i x → ∀ m, W m x → i < m → ¬ D m) : Holds D' W V z' x := by
  by_cases hw : W i x
  · refine ⟨fun m hm hwm hmax => ?_, fun hno => absurd hw (hno i ((hD i).2 (.inl rfl)))⟩
    have hge := hmax i ((hD i).2 (.inl rfl)) hw
    have hmi : m = i := by
      rcases (hD m).1 hm with e | e
      · exact e
      · rcases Nat.lt_or_ge i m with g | g
        · exact absurd e (hc hw m hwm g)
        · omega
    rw [hmi]
    exact h1 hw
  · rw [Holds, h2 hw]
    refine ⟨fun m hm hwm hmax => ?_, fun hno => hz.2 (fun m hm => hno m ((hD m).2 (.inr hm)))⟩
    have hm' : D m := by
      rcases (hD m).1 hm with e | e
      · rw [e] at hwm; exact absurd hwm hw
      · exact e
    exact hz.1 m hm' hwm (fun m' a b => hmax m' ((hD m').2 (.inr a)) b)
theorem Holds.start {W : Nat → X → Prop} {V : Nat → X → Y} {D : Nat → Prop} (hD : ∀ m, ¬ D m) (z : X → Y) (x : X) (h : z x = V 0 x) : Holds D W V z x :=
  ⟨fun m hm => absurd hm (hD m), fun _ => h⟩
end Last

/-! ### Which operations stand before others -/

theorem orBits_fold (look : Nat → Nat) (i : Nat) : ∀ (l : List Edge) (s : Nat), (l.foldl (fun s e => if Region.binds .any e then s ||| 2 ^ e.on ||| look e.on else s) s).testBit i = true →
    s.testBit i = true ∨ ∃ e ∈ l, Region.binds .any e = true ∧ (e.on = i ∨ (look e.on).testBit i = true) := by
  intro l
  induction l with
  | nil => intro s h; exact .inl h
  | cons e rest ih =>
    intro s h
    rw [List.foldl_cons] at h
    rcases ih _ h with g | ⟨e', he', hb', hh⟩
    · split at g
      · rename_i hb
        rw [Nat.testBit_or, Nat.testBit_or, Bool.or_eq_true, Bool.or_eq_true, Nat.testBit_two_pow, decide_eq_true_eq] at g
        rcases g with (g | g) | g
        · exact .inl g
        · exact .inr ⟨e, List.mem_cons_self .., hb, .inl g⟩
        · exact .inr ⟨e, List.mem_cons_self .., hb, .inr g⟩
      · exact .inl g
    · exact .inr ⟨e', List.mem_cons_of_mem _ he', hb', hh⟩

def BitsOf (ops : Array Oper) (acc : Array Nat) : Prop := ∀ j i, (acc.getD j 0).testBit i = true →
  ∃ o e, ops[j]? = some o ∧ e ∈ o.after ∧ Region.binds .any e = true ∧ (e.on = i ∨ (e.on < j ∧ (acc.getD e.on 0).testBit i = true))

theorem before_bits (ops : Array Oper) : BitsOf ops (Region.before ops) := by
  unfold Region.before
  have main := Array.foldl_induction (as := ops) (motive := fun k acc => acc.size = k ∧ BitsOf ops acc) (init := #[])
    (f := fun acc o => acc.push (o.after.foldl (fun s e => if Region.binds .any e then s ||| 2 ^ e.on ||| acc.getD e.on 0 else s) 0))
    ⟨rfl, fun j i h => by simp at h⟩ (by
      rintro ⟨k, hk⟩ acc ⟨hs, hb⟩
      refine ⟨by simp [hs], fun j i h => ?_⟩
      have hs' : acc.size = k := hs
      have gl : ∀ v m, m < k → (acc.push v).getD m 0 = acc.getD m 0 := by
        intro v m hm
        have hm' : m < acc.size := by omega
        have hm2 : m < (acc.push v).size := by simp; omega
        rw [Array.getD, Array.getD, dif_pos hm', dif_pos hm2]
        exact Array.getElem_push_lt hm'
      rcases Nat.lt_trichotomy j k with g | g | g
      · rw [gl _ j g] at h
        obtain ⟨o, e, h1, h2, h3, h4⟩ := hb j i h
        refine ⟨o, e, h1, h2, h3, ?_⟩
        rcases h4 with h4 | ⟨h4, h5⟩
        · exact .inl h4
        · refine .inr ⟨h4, ?_⟩
          rw [gl _ _ (by omega)]
          exact h5
      · subst g
        have hlast : ∀ v, (acc.push v).getD j 0 = v := by
          intro v
          have hm2 : j < (acc.push v).size := by simp; omega
          rw [Array.getD, dif_pos hm2]
          show (acc.push v)[j] = v
          rw [Array.getElem_push]
          rw [dif_neg (by omega)]
        rw [hlast] at h
        rw [← Array.foldl_toList] at h
        rcases orBits_fold (fun m => acc.getD m 0) i _ _ h with h | ⟨e, h2, h3, h4⟩
        · simp at h
        · refine ⟨ops[j], e, Array.getElem?_eq_getElem hk, by simpa using h2, h3, ?_⟩
          rcases h4 with h4 | h4
          · exact .inl h4
          · have hlt : e.on < j := by
              rcases Nat.lt_or_ge e.on j with g | g
              · exact g
              · have h0 : acc.getD e.on 0 = 0 := by rw [Array.getD, dif_neg (by omega)]
                rw [h0] at h4
                simp at h4
            refine .inr ⟨hlt, ?_⟩
            rw [gl _ _ hlt]
            exact h4
      · have h0 : ∀ v, (acc.push v).getD j 0 = 0 := by
          intro v
          rw [Array.getD, dif_neg (by simp; omega)]
        rw [h0] at h
        simp at h)
  exact main.2

/-- All that is listed has what it must wait for listed. -/
def Down (ops : Array Oper) (D : Nat → Prop) : Prop := ∀ j o, ops[j]? = some o → D j → ∀ e ∈ o.after, Region.binds .any e = true → D e.on

theorem before_listed {ops : Array Oper} {D : Nat → Prop} (hd : Down ops D) : ∀ (n j i : Nat), j < n → ((Region.before ops).getD j 0).testBit i = true →
    (∀ o, ops[j]? = some o → ∀ e ∈ o.after, Region.binds .any e = true → D e.on) → D i := by
  intro n
  induction n with
  | zero => intro j i h; omega
  | succ n ih =>
    intro j i hj h hall
    obtain ⟨o, e, h1, h2, h3, h4⟩ := before_bits ops j i h
    have hon := hall o h1 e h2 h3
    rcases h4 with h4 | ⟨h4, h5⟩
    · rw [← h4]; exact hon
    · exact ih e.on i (by omega) h5 (fun o' ho' e' he' hb' => hd _ _ ho' hon e' he' hb')

/-! ### No two that are not ordered touch the same -/

theorem noClash_at (b : Array Nat) : ∀ (ls : List (List Touch)) (j : Nat), noClash b ls j = true → ∀ (p q : Nat) (l m : List Touch), p < q → ls[p]? = some l → ls[q]? = some m → clashes l m = true → (b.getD (j - p) 0).testBit (j - q) = true := by
  intro ls
  induction ls with
  | nil => intro j h p q l m hpq hl; cases hl
  | cons x rest ih =>
    intro j h p q l m hpq hl hm hc
    simp only [noClash, Bool.and_eq_true] at h
    obtain ⟨h1, h2⟩ := h
    match p, q with
    | p + 1, q + 1 =>
      have := ih (j - 1) h2 p q l m (by omega) (by simpa using hl) (by simpa using hm) hc
      rw [show j - 1 - p = j - (p + 1) by omega, show j - 1 - q = j - (q + 1) by omega] at this
      exact this
    | 0, q + 1 =>
      simp only [List.getElem?_cons_zero, Option.some.injEq] at hl
      subst hl
      simp only [List.getElem?_cons_succ] at hm
      rw [Bool.or_eq_true] at h1
      rcases h1 with h1 | h1
      · rw [List.isEmpty_iff] at h1
        subst h1
        simp [clashes] at hc
      · rw [List.all_eq_true] at h1
        have h3 := h1 (m, q) (by rw [List.mem_zipIdx_iff_getElem?]; exact hm)
        simp only [Bool.or_eq_true, Bool.not_eq_true'] at h3
        rcases h3 with (h3 | h3) | h3
        · rw [List.isEmpty_iff] at h3
          subst h3
          simp [clashes] at hc
        · rw [show j - 1 - q = j - (q + 1) by omega] at h3
          exact h3
        · rw [h3] at hc; cases hc

theorem noClash_pair {b : Array Nat} {N : Nat} {Lf : Nat → List Touch} (h : noClash b ((List.range N).map Lf).reverse (N - 1) = true) {i m : Nat} (him : i < m) (hm : m < N) (hc : clashes (Lf m) (Lf i) = true) :
    (b.getD m 0).testBit i = true := by
  have get : ∀ k, k < N → ((List.range N).map Lf).reverse[N - 1 - k]? = some (Lf k) := by
    intro k hk
    rw [List.getElem?_reverse (by simp; omega)]
    simp only [List.length_map, List.length_range, List.getElem?_map]
    rw [show N - 1 - (N - 1 - k) = k by omega, List.getElem?_range hk]
    rfl
  have := noClash_at b _ _ h (N - 1 - m) (N - 1 - i) (Lf m) (Lf i) (by omega) (get m hm) (get i (by omega)) hc
  rw [show N - 1 - (N - 1 - m) = m by omega, show N - 1 - (N - 1 - i) = i by omega] at this
  exact this

/-! ### The steps of a region -/

/-- One operation of a region, in the text's order. -/
def Stp (P : Program) (call : Caller) (ops : Array Oper) (o : Oper) (a : Act) (s : St) (a1 : Act) (s1 : St) (L : List Touch) : Prop :=
  ∃ v, a1 = a.put o.dst v ∧ ((Region.wanted o (yielded ops a.tmps) = true ∧ ∃ s2, ares P call a o { s with log := [] } = some (v, s2) ∧ L = s2.log ∧ s1 = { s2 with log := s2.log ++ s.log }) ∨
    (Region.wanted o (yielded ops a.tmps) = false ∧ v = undef ∧ s1 = s ∧ L = []))

theorem alogs_trace {P : Program} {call : Caller} {ops : Array Oper} : ∀ (l : List Oper) (a : Act) (s : St) (ls : List (List Touch)) (a1 : Act) (s1 : St) (ms : List (List Touch)), alogs P call ops l a s ls = some (a1, s1, ms) →
    ∃ (ac : Nat → Act) (S : Nat → St) (Lf : Nat → List Touch), ac 0 = a ∧ S 0 = s ∧ ac l.length = a1 ∧ S l.length = s1 ∧ ms = ((List.range l.length).map Lf).reverse ++ ls ∧
      ∀ i o, l[i]? = some o → Stp P call ops o (ac i) (S i) (ac (i + 1)) (S (i + 1)) (Lf i) := by
  intro l
  induction l with
  | nil =>
    intro a s ls a1 s1 ms h
    cases h
    exact ⟨fun _ => a, fun _ => s, fun _ => [], rfl, rfl, rfl, rfl, rfl, fun i o h => by cases h⟩
  | cons o rest ih =>
    intro a s ls a1 s1 ms h
    have key : ∃ a2 s2 L, Stp P call ops o a s a2 s2 L ∧ alogs P call ops rest a2 s2 (L :: ls) = some (a1, s1, ms) := by
      simp only [alogs] at h
      split at h
      · rename_i hw
        split at h
        · rename_i a2 s2 hs
          rw [astep_eq] at hs
          split at hs
          · rename_i v s3 hr
            cases hs
            exact ⟨_, _, _, ⟨v, rfl, .inl ⟨hw, s2, hr, rfl, rfl⟩⟩, h⟩
          · cases hs
        · cases h
      · rename_i hw
        exact ⟨_, _, _, ⟨undef, rfl, .inr ⟨by simpa using hw, rfl, rfl, rfl⟩⟩, h⟩
    obtain ⟨a2, s2, L, hst, hrest⟩ := key
    obtain ⟨ac, S, Lf, e1, e2, e3, e4, e5, e6⟩ := ih _ _ _ _ _ _ hrest
    refine ⟨(fun n => match n with | 0 => a | n + 1 => ac n), (fun n => match n with | 0 => s | n + 1 => S n), (fun n => match n with | 0 => L | n + 1 => Lf n), rfl, rfl, e3, e4, ?_, ?_⟩
    · rw [e5, List.length_cons, List.range_succ_eq_map, List.map_cons, List.map_map, List.reverse_cons, List.append_assoc]
      rfl
    · intro i o' hi
      match i with
      | 0 =>
        simp only [List.getElem?_cons_zero, Option.some.injEq] at hi
        subst hi
        dsimp only
        rw [e1, e2]
        exact hst
      | i + 1 =>
        simp only [List.getElem?_cons_succ] at hi
        exact e6 i o' hi

/-- What is known of one operation, and what it does elsewhere. -/
theorem Stp.known {P : Program} {call : Caller} {ops : Array Oper} {o : Oper} {a a1 : Act} {s s1 : St} {L : List Touch} (hcl : CallLocal call) (h : Stp P call ops o a s a1 s1 L) :
    s.next ≤ s1.next ∧ (Win s s.next s1.next → Upd L s s1 ∧ (∀ t ∈ L, Old s.next s1.next t.id → s.look t.id ≠ none) ∧ ∃ v, a1 = a.put o.dst v ∧
      ∀ (b : Act) (z : St), Region.wanted o (yielded ops b.tmps) = Region.wanted o (yielded ops a.tmps) → (∀ x ∈ o.op.operands, b.eval x = a.eval x) → z.next = s.next →
        (∀ t ∈ L, Old s.next s1.next t.id → agr t (s.look t.id) (z.look t.id)) → Win z s.next s1.next →
        (Region.wanted o (yielded ops b.tmps) = true ∧ ∃ z1, astep P call b o z = some (b.put o.dst v, z1) ∧ z1.next = s1.next ∧ Mrg L s1 z z1) ∨
        (Region.wanted o (yielded ops b.tmps) = false ∧ v = undef ∧ s1 = s ∧ L = [])) := by
  obtain ⟨v, ha, h | ⟨hw, hv, rfl, rfl⟩⟩ := h
  · obtain ⟨hw, s2, hr, rfl, rfl⟩ := h
    obtain ⟨n, k⟩ := ares_local (P := P) hcl a o _ _ _ hr
    refine ⟨n, fun hwin => ?_⟩
    obtain ⟨L, e, u, bd, l⟩ := k hwin
    have eL : s2.log = L := by rw [e]; simp
    rw [eL]
    refine ⟨u, bd, v, ha, fun b z hwb hev hz hag hzc => .inl ⟨by rw [hwb]; exact hw, ?_⟩⟩
    obtain ⟨z1, f1, m1, g1, r1⟩ := l z hz hag hzc
    refine ⟨z1, ?_, m1, r1⟩
    rw [astep_eq, ares_congr o hev z, f1]
  · exact ⟨Nat.le_refl _, fun _ => ⟨fun id _ => ⟨rfl, fun k _ => rfl⟩, (fun t ht => by cases ht), v, ha, fun b z hwb _ _ _ _ => .inr ⟨by rw [hwb]; exact hw, hv, rfl, rfl⟩⟩⟩
end Go.Ev
