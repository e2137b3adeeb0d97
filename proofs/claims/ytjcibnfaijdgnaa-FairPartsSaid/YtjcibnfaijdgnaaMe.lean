/- fair.Fair, FewSamples, Pick: contracts; the runs of FairParts. -/
import Derived.Test.YtjcibnfaijdgnaaMd
import Derived.Test.YtjcibnfaijdgnaaRows
import Derived.WalkKit
import Derived.ProofKit
namespace Go.Proofs.Ytjcibnfaijdgnaa
open Go.RowKit
open Go.Ev (sy)
set_option linter.unusedVariables false
set_option linter.unusedSimpArgs false
structure FewP where
  W : World
  sv : Value
  ss : List Smp
  hs : Ev.SlR 6 sv ss.length (ss.flatMap Smp.cells) W
  hok : ∀ s ∈ ss, Ev.SlR 1 s.act s.zs.length (s.zs.map (Value.int .i64)) W
abbrev FewP.c (p : FewP) : Ev.Ctx := ⟨p.W, fun _ => False⟩
theorem cell3 {ss : List Smp} {j : Nat} {s : Smp} (h : ss[j]? = some s) : (ss.flatMap Smp.cells)[j * 6 + 3]? = some s.act := by
  obtain ⟨tl, e⟩ := cells_drop h
  rw [← List.getElem?_drop, e]
  rfl
theorem firstIs_one {w l : Int} {ss : List Smp} {n m : Nat} {b c : Bool} (h : firstIs w l ss n b) (k : firstIs w l ss m c) : n = m ∧ b = c := by
  obtain ⟨h1, h2⟩ := h
  obtain ⟨k1, k2⟩ := k
  rcases h2 with ⟨rfl, h3, h4⟩ | ⟨rfl, h3⟩ <;> rcases k2 with ⟨rfl, k3, k4⟩ | ⟨rfl, k3⟩
  · rcases Nat.lt_trichotomy n m with e | e | e
    · exact (h4 (k1 n e)).elim
    · exact ⟨e, rfl⟩
    · exact (k4 (h1 m e)).elim
  · exact (h4 (k1 n (by omega))).elim
  · exact (k4 (h1 m (by omega))).elim
  · exact ⟨by omega, rfl⟩
theorem firstIs_ex (w l : Int) (ss : List Smp) : ∃ n b, firstIs w l ss n b := by
  have key : ∀ m, m ≤ ss.length → (∀ i, i < m → okAt w l ss i) ∨ ∃ n, n < m ∧ (∀ i, i < n → okAt w l ss i) ∧ ¬ okAt w l ss n := by
    intro m
    induction m with
    | zero => exact fun _ => .inl (fun i hi => absurd hi (Nat.not_lt_zero i))
    | succ m ih =>
      intro hm
      rcases ih (by omega) with h | ⟨n, h1, h2, h3⟩
      · by_cases hk : okAt w l ss m
        · refine .inl (fun i hi => ?_)
          rcases Nat.lt_succ_iff_lt_or_eq.1 hi with hi | rfl
          · exact h i hi
          · exact hk
        · exact .inr ⟨m, Nat.lt_succ_self m, h, hk⟩
      · exact .inr ⟨n, by omega, h2, h3⟩
  rcases key ss.length (Nat.le_refl _) with h | ⟨n, h1, h2, h3⟩
  · exact ⟨_, false, h, .inr ⟨rfl, rfl⟩⟩
  · exact ⟨n, true, h2, .inl ⟨rfl, h1, h3⟩⟩
theorem firstIs_fair {w l : Int} {ss : List Smp} {n : Nat} {b : Bool} (h : firstIs w l ss n b) : b = false ↔ fairP w l ss := by
  obtain ⟨h1, ⟨rfl, h3, h4⟩ | ⟨rfl, h3⟩⟩ := h
  · exact ⟨(fun e => by cases e), fun hf => (h4 (hf n h3)).elim⟩
  · exact ⟨fun _ i hi => h1 i (by omega), fun _ => rfl⟩
theorem FirP.at (p : FirP) {w : World} (ho : Ev.OldW p.W (fun _ => False) w) : ∃ q : FirP, q.W = w ∧ q.ll = p.ll ∧ q.ww = p.ww ∧ q.sv = p.sv ∧ q.ss = p.ss :=
  ⟨⟨w, p.ll, p.ww, p.sv, p.ss, p.hs.old ho (Ev.offNone _), p.hl, p.hw, p.hw2, p.hn, fun s hs => (p.hok s hs).at ho⟩, rfl, rfl, rfl, rfl, rfl⟩
theorem first_at (p : FirP) {n : Nat} {b : Bool} (hf : firstIs p.ww p.ll p.ss n b) {w : World} (ho : Ev.OldW p.W (fun _ => False) w) : Calls Try.prog 11 [.int .i64 p.ll, .int .i64 p.ww, p.sv].toArray w fun e w' => e = .returned (.tuple #[.int .i64 (n : Nat), .bool b]) ∧ Below w.heap.size w w' := by
  obtain ⟨q, rfl, e2, e3, e4, e5⟩ := p.at ho
  rw [← e2, ← e3, ← e4]
  rw [← e2, ← e3, ← e5] at hf
  refine (first_ok q).mono ?_
  rintro e w' ⟨m, c, rfl, hm, hb⟩
  obtain ⟨rfl, rfl⟩ := firstIs_one hf hm
  exact ⟨rfl, hb⟩

def fft_v (p : FirP) (n : Nat) (hf : firstIs p.ww p.ll p.ss n true) : Nat → Value
  | 0 => .int .i64 (p.ll)
  | 1 => .int .i64 (p.ww)
  | 2 => p.sv
  | 3 => .int .i64 ((n : Nat) : Int)
  | _ => .int .i64 0
theorem fft_l (p : FirP) (n : Nat) (hf : firstIs p.ww p.ll p.ss n true) : ∀ j9, Ev.leafV (fft_v p n hf j9) = true := by
  intro j9
  unfold fft_v
  split <;> first | rfl | assumption | exact p.hs.leaf
@[reducible] def fft_k (p : FirP) (n : Nat) (hf : firstIs p.ww p.ll p.ss n true) : Ev.Kn := { val := fft_v p n hf, leaf := fft_l p n hf, bs := [], us := [], cs := [], ks := [], hb := (List.forall_mem_nil _), hu := (List.forall_mem_nil _), hc := (List.forall_mem_nil _), gs := [Ev.star (Ev.oldX p.W ((fun _ => False)) :: [])], ops := [], cls := [⟨11, [sy 0, sy 1, sy 2], 0, none, .tuple #[sy 3, .bool true], none⟩] }
theorem fft_o (p : FirP) (n : Nat) (hf : firstIs p.ww p.ll p.ss n true) : @Ev.CalOK (fft_k p n hf).sig Try.prog := Ev.Kn.ok (fft_k p n hf) (fun q hq => by cases hq) (List.forall_mem_nil _) (List.forall_mem_cons.2 ⟨(by exact Ev.ro_callR (ci := 0) (args := [(.int .i64 (p.ll)), (.int .i64 (p.ww)), (p.sv)]) (rv := (.tuple #[(.int .i64 ((n : Nat) : Int)), (.bool true)])) rfl rfl (fun w hb => first_at p hf hb) (fun ι => (Ev.rtup2' (Ev.symT rfl) Ev.boolV')) (Ev.args_cons (Ev.isSym rfl) (Ev.args_cons (Ev.isSym rfl) (Ev.args_cons (Ev.isSym rfl) Ev.args_nil)))), (List.forall_mem_nil _)⟩)
theorem fft (p : FirP) (n : Nat) (hf : firstIs p.ww p.ll p.ss n true) : Ev.PieE Try.prog 12 [] 0 18 p.c [(0, (.int .i64 (p.ll))), (1, (.int .i64 (p.ww))), (2, (p.sv))] [] (fun κ : Ev.Ren => (.bool false)) (fun κ : Ev.Ren => []) := (Ev.triE Try.codeOk mixed_ok (fft_k p n hf) (fft_o p n hf) (n := 200) (m := 100) (kk := 4) (c := p.c) [] [] [] 0 0 [] [] rfl rfl [(0, sy 0), (1, sy 1), (2, sy 2)] (.bool false) (by kernel_rfl) (fun gb => by kernel_rfl))
def fff_v (p : FirP) (n : Nat) (hf : firstIs p.ww p.ll p.ss n false) : Nat → Value
  | 0 => .int .i64 (p.ll)
  | 1 => .int .i64 (p.ww)
  | 2 => p.sv
  | 3 => .int .i64 ((n : Nat) : Int)
  | _ => .int .i64 0
theorem fff_l (p : FirP) (n : Nat) (hf : firstIs p.ww p.ll p.ss n false) : ∀ j9, Ev.leafV (fff_v p n hf j9) = true := by
  intro j9
  unfold fff_v
  split <;> first | rfl | assumption | exact p.hs.leaf
@[reducible] def fff_k (p : FirP) (n : Nat) (hf : firstIs p.ww p.ll p.ss n false) : Ev.Kn := { val := fff_v p n hf, leaf := fff_l p n hf, bs := [], us := [], cs := [], ks := [], hb := (List.forall_mem_nil _), hu := (List.forall_mem_nil _), hc := (List.forall_mem_nil _), gs := [Ev.star (Ev.oldX p.W ((fun _ => False)) :: [])], ops := [], cls := [⟨11, [sy 0, sy 1, sy 2], 0, none, .tuple #[sy 3, .bool false], none⟩] }
theorem fff_o (p : FirP) (n : Nat) (hf : firstIs p.ww p.ll p.ss n false) : @Ev.CalOK (fff_k p n hf).sig Try.prog := Ev.Kn.ok (fff_k p n hf) (fun q hq => by cases hq) (List.forall_mem_nil _) (List.forall_mem_cons.2 ⟨(by exact Ev.ro_callR (ci := 0) (args := [(.int .i64 (p.ll)), (.int .i64 (p.ww)), (p.sv)]) (rv := (.tuple #[(.int .i64 ((n : Nat) : Int)), (.bool false)])) rfl rfl (fun w hb => first_at p hf hb) (fun ι => (Ev.rtup2' (Ev.symT rfl) Ev.boolV')) (Ev.args_cons (Ev.isSym rfl) (Ev.args_cons (Ev.isSym rfl) (Ev.args_cons (Ev.isSym rfl) Ev.args_nil)))), (List.forall_mem_nil _)⟩)
theorem fff (p : FirP) (n : Nat) (hf : firstIs p.ww p.ll p.ss n false) : Ev.PieE Try.prog 12 [] 0 18 p.c [(0, (.int .i64 (p.ll))), (1, (.int .i64 (p.ww))), (2, (p.sv))] [] (fun κ : Ev.Ren => (.bool true)) (fun κ : Ev.Ren => []) := (Ev.triE Try.codeOk mixed_ok (fff_k p n hf) (fff_o p n hf) (n := 200) (m := 100) (kk := 4) (c := p.c) [] [] [] 0 0 [] [] rfl rfl [(0, sy 0), (1, sy 1), (2, sy 2)] (.bool true) (by kernel_rfl) (fun gb => by kernel_rfl))
def fw_v (p : FewP) : Nat → Value
  | 0 => p.sv
  | 1 => .int .i64 ((p.ss.length : Nat) : Int)
  | _ => .int .i64 0
theorem fw_l (p : FewP) : ∀ j9, Ev.leafV (fw_v p j9) = true := by
  intro j9
  unfold fw_v
  split <;> first | rfl | assumption | exact p.hs.leaf | exact Ev.ptrR_leaf _ _
@[reducible] def fwA_k (p : FewP) : Ev.Kn := { val := fw_v p, leaf := fw_l p, bs := [], us := [], cs := [], ks := [], hb := (List.forall_mem_nil _), hu := (List.forall_mem_nil _), hc := (List.forall_mem_nil _), gs := [Ev.star (Ev.oldX p.W ((fun _ => False)) :: [])], ops := [], cls := [] }
theorem fwA_o (p : FewP) : @Ev.CalOK (fwA_k p).sig Try.prog := Ev.Kn.ok (fwA_k p) (fun q hq => by cases hq) (List.forall_mem_nil _) (List.forall_mem_nil _)
theorem fwA (p : FewP) : Ev.Pie Try.prog 9 [] 0 2 28 p.c [(0, (p.sv)), (1, (.int .i64 60))] [] .normal (fun κ : Ev.Ren => [(0, (p.sv)), (1, (.int .i64 60)), (5, (.int .i64 0))]) (fun κ : Ev.Ren => []) := (Ev.tri Try.codeOk mixed_ok (fwA_k p) (fwA_o p) (n := 200) (m := 100) (c := p.c) [] [] [] 0 0 [] [] rfl rfl [(0, sy 0), (1, .int .i64 60)] [(0, sy 0), (1, .int .i64 60), (5, .int .i64 0)] .normal (by kernel_rfl) (fun gb => by kernel_rfl))
@[reducible] def fwZ_k (p : FewP) (h1 : ((p.ss.length : Nat) : Int) ≤ 60) : Ev.Kn := { val := fw_v p, leaf := fw_l p, bs := [(.leq, sy 1, .int .i64 60, .bool true)], us := [], cs := [], ks := [], hb := (List.forall_mem_cons.2 ⟨(by intro t ox oy; exact Ev.bt_leq (by first | (simpa using h1) | (simp; omega))), (List.forall_mem_nil _)⟩), hu := (List.forall_mem_nil _), hc := (List.forall_mem_nil _), gs := [Ev.star (Ev.oldX p.W ((fun _ => False)) :: [])], ops := [⟨[10, 31], [sy 0], none, 0, none, sy 1, none⟩], cls := [] }
theorem fwZ_o (p : FewP) (h1 : ((p.ss.length : Nat) : Int) ≤ 60) : @Ev.CalOK (fwZ_k p h1).sig Try.prog := Ev.Kn.ok (fwZ_k p h1) (fun q hq => by cases hq) (List.forall_mem_cons.2 ⟨(by exact Ev.ro_len (ci := 0) rfl rfl p.hs Try.underlying31 rfl rfl), (List.forall_mem_nil _)⟩) (List.forall_mem_nil _)
theorem fwZ (p : FewP) (h1 : ((p.ss.length : Nat) : Int) ≤ 60) : Ev.Pie Try.prog 9 [] 3 2 28 p.c [(0, (p.sv)), (1, (.int .i64 60))] [] .ret (fun κ : Ev.Ren => [(4, (.bool true))]) (fun κ : Ev.Ren => []) := (Ev.tri Try.codeOk mixed_ok (fwZ_k p h1) (fwZ_o p h1) (n := 200) (m := 100) (c := p.c) [] [] [] 0 0 [] [] rfl rfl [(0, sy 0), (1, .int .i64 60)] [(4, .bool true)] .ret (by kernel_rfl) (fun gb => by kernel_rfl))
@[reducible] def fwY_k (p : FewP) (h1 : ¬ ((p.ss.length : Nat) : Int) ≤ 60) : Ev.Kn := { val := fw_v p, leaf := fw_l p, bs := [(.leq, sy 1, .int .i64 60, .bool false)], us := [], cs := [], ks := [], hb := (List.forall_mem_cons.2 ⟨(by intro t ox oy; exact Ev.bt_leq (by first | (simpa using h1) | (simp; omega))), (List.forall_mem_nil _)⟩), hu := (List.forall_mem_nil _), hc := (List.forall_mem_nil _), gs := [Ev.star (Ev.oldX p.W ((fun _ => False)) :: [])], ops := [⟨[10, 31], [sy 0], none, 0, none, sy 1, none⟩], cls := [] }
theorem fwY_o (p : FewP) (h1 : ¬ ((p.ss.length : Nat) : Int) ≤ 60) : @Ev.CalOK (fwY_k p h1).sig Try.prog := Ev.Kn.ok (fwY_k p h1) (fun q hq => by cases hq) (List.forall_mem_cons.2 ⟨(by exact Ev.ro_len (ci := 0) rfl rfl p.hs Try.underlying31 rfl rfl), (List.forall_mem_nil _)⟩) (List.forall_mem_nil _)
theorem fwY (p : FewP) (h1 : ¬ ((p.ss.length : Nat) : Int) ≤ 60) : Ev.Pie Try.prog 9 [] 3 2 28 p.c [(0, (p.sv)), (1, (.int .i64 60))] [] .ret (fun κ : Ev.Ren => [(4, (.bool false))]) (fun κ : Ev.Ren => []) := (Ev.tri Try.codeOk mixed_ok (fwY_k p h1) (fwY_o p h1) (n := 200) (m := 100) (c := p.c) [] [] [] 0 0 [] [] rfl rfl [(0, sy 0), (1, .int .i64 60)] [(4, .bool false)] .ret (by kernel_rfl) (fun gb => by kernel_rfl))
def fv_v (p : FewP) (j : Nat) : Nat → Value
  | 0 => p.sv
  | 1 => .int .i64 ((j : Nat) : Int)
  | 2 => .int .i64 ((p.ss.length : Nat) : Int)
  | _ => .int .i64 0
theorem fv_l (p : FewP) (j : Nat) : ∀ j9, Ev.leafV (fv_v p j j9) = true := by
  intro j9
  unfold fv_v
  split <;> first | rfl | assumption | exact p.hs.leaf | exact Ev.ptrR_leaf _ _
@[reducible] def fvE_k (p : FewP) (j : Nat) (h1 : ¬ ((j : Nat) : Int) < ((p.ss.length : Nat) : Int)) : Ev.Kn := { val := fv_v p j, leaf := fv_l p j, bs := [(.lss, sy 1, sy 2, .bool false)], us := [], cs := [], ks := [], hb := (List.forall_mem_cons.2 ⟨(by intro t ox oy; exact Ev.bt_lss (by first | (simpa using h1) | (simp; omega))), (List.forall_mem_nil _)⟩), hu := (List.forall_mem_nil _), hc := (List.forall_mem_nil _), gs := [Ev.star (Ev.oldX p.W ((fun _ => False)) :: [])], ops := [⟨[10, 31], [sy 0], none, 0, none, sy 2, none⟩], cls := [] }
theorem fvE_o (p : FewP) (j : Nat) (h1 : ¬ ((j : Nat) : Int) < ((p.ss.length : Nat) : Int)) : @Ev.CalOK (fvE_k p j h1).sig Try.prog := Ev.Kn.ok (fvE_k p j h1) (fun q hq => by cases hq) (List.forall_mem_cons.2 ⟨(by exact Ev.ro_len (ci := 0) rfl rfl p.hs Try.underlying31 rfl rfl), (List.forall_mem_nil _)⟩) (List.forall_mem_nil _)
theorem fvE (p : FewP) (j : Nat) (h1 : ¬ ((j : Nat) : Int) < ((p.ss.length : Nat) : Int)) : Ev.Pie Try.prog 9 [4, 0] 0 2 28 p.c [(0, (p.sv)), (1, (.int .i64 60)), (5, (.int .i64 ((j : Nat) : Int)))] [] (.exit 0) (fun κ : Ev.Ren => [(0, (p.sv)), (1, (.int .i64 60))]) (fun κ : Ev.Ren => []) := (Ev.tri Try.codeOk mixed_ok (fvE_k p j h1) (fvE_o p j h1) (n := 200) (m := 100) (c := p.c) [] [] [] 0 0 [] [] rfl rfl [(0, sy 0), (1, .int .i64 60), (5, sy 1)] [(0, sy 0), (1, .int .i64 60)] (.exit 0) (by kernel_rfl) (fun gb => by kernel_rfl))
@[reducible] def fvD_k (p : FewP) (j : Nat) (h1 : ((j : Nat) : Int) < ((p.ss.length : Nat) : Int)) (h2 : ¬ ((j : Nat) : Int) ≤ 60) : Ev.Kn := { val := fv_v p j, leaf := fv_l p j, bs := [(.lss, sy 1, sy 2, .bool true), (.leq, sy 1, .int .i64 60, .bool false)], us := [], cs := [], ks := [], hb := (List.forall_mem_cons.2 ⟨(by intro t ox oy; exact Ev.bt_lss (by first | (simpa using h1) | (simp; omega))), (List.forall_mem_cons.2 ⟨(by intro t ox oy; exact Ev.bt_leq (by first | (simpa using h2) | (simp; omega))), (List.forall_mem_nil _)⟩)⟩), hu := (List.forall_mem_nil _), hc := (List.forall_mem_nil _), gs := [Ev.star (Ev.oldX p.W ((fun _ => False)) :: [])], ops := [⟨[10, 31], [sy 0], none, 0, none, sy 2, none⟩], cls := [] }
theorem fvD_o (p : FewP) (j : Nat) (h1 : ((j : Nat) : Int) < ((p.ss.length : Nat) : Int)) (h2 : ¬ ((j : Nat) : Int) ≤ 60) : @Ev.CalOK (fvD_k p j h1 h2).sig Try.prog := Ev.Kn.ok (fvD_k p j h1 h2) (fun q hq => by cases hq) (List.forall_mem_cons.2 ⟨(by exact Ev.ro_len (ci := 0) rfl rfl p.hs Try.underlying31 rfl rfl), (List.forall_mem_nil _)⟩) (List.forall_mem_nil _)
theorem fvD (p : FewP) (j : Nat) (h1 : ((j : Nat) : Int) < ((p.ss.length : Nat) : Int)) (h2 : ¬ ((j : Nat) : Int) ≤ 60) : Ev.Pie Try.prog 9 [4, 0] 0 2 28 p.c [(0, (p.sv)), (1, (.int .i64 60)), (5, (.int .i64 ((j : Nat) : Int)))] [] (.exit 0) (fun κ : Ev.Ren => [(0, (p.sv)), (1, (.int .i64 60))]) (fun κ : Ev.Ren => []) := (Ev.tri Try.codeOk mixed_ok (fvD_k p j h1 h2) (fvD_o p j h1 h2) (n := 200) (m := 100) (c := p.c) [] [] [] 0 0 [] [] rfl rfl [(0, sy 0), (1, .int .i64 60), (5, sy 1)] [(0, sy 0), (1, .int .i64 60)] (.exit 0) (by kernel_rfl) (fun gb => by kernel_rfl))
def fu_v (p : FewP) (j : Nat) (s : Smp) (hj : p.ss[j]? = some s) (hS : Ev.SlR 1 s.act s.zs.length (s.zs.map (Value.int .i64)) p.W) (hl : j < p.ss.length) (h60 : j ≤ 60) : Nat → Value
  | 0 => p.sv
  | 1 => .int .i64 ((j : Nat) : Int)
  | 2 => .int .i64 ((p.ss.length : Nat) : Int)
  | 3 => Ev.ptrR (p.sv) ((j) * 6)
  | 4 => Ev.ptrR (p.sv) ((j) * 6 + 3)
  | 5 => s.act
  | 6 => .int .i64 ((s.zs.length : Nat) : Int)
  | 7 => .int .i64 (((j) + 1 : Nat) : Int)
  | _ => .int .i64 0
theorem fu_l (p : FewP) (j : Nat) (s : Smp) (hj : p.ss[j]? = some s) (hS : Ev.SlR 1 s.act s.zs.length (s.zs.map (Value.int .i64)) p.W) (hl : j < p.ss.length) (h60 : j ≤ 60) : ∀ j9, Ev.leafV (fu_v p j s hj hS hl h60 j9) = true := by
  intro j9
  unfold fu_v
  split <;> first | rfl | assumption | exact p.hs.leaf | exact Ev.ptrR_leaf _ _ | exact hS.leaf
@[reducible] def fuY_k (p : FewP) (j : Nat) (s : Smp) (hj : p.ss[j]? = some s) (hS : Ev.SlR 1 s.act s.zs.length (s.zs.map (Value.int .i64)) p.W) (hl : j < p.ss.length) (h60 : j ≤ 60) (h1 : ¬ ((s.zs.length : Nat) : Int) > 20) : Ev.Kn := { val := fu_v p j s hj hS hl h60, leaf := fu_l p j s hj hS hl h60, bs := [(.lss, sy 1, sy 2, .bool true), (.leq, sy 1, .int .i64 60, .bool true), (.gtr, sy 6, .int .i64 20, .bool false), (.add, sy 1, .int .i64 1, sy 7)], us := [], cs := [], ks := [], hb := (List.forall_mem_cons.2 ⟨(by intro t ox oy; exact Ev.bt_lss (by first | (simp; done) | (simp; omega))), (List.forall_mem_cons.2 ⟨(by intro t ox oy; exact Ev.bt_leq (by first | (simp; done) | (simp; omega))), (List.forall_mem_cons.2 ⟨(by intro t ox oy; exact Ev.bt_gtr (by first | (simpa using h1) | (simp; omega))), (List.forall_mem_cons.2 ⟨(by intro t ox oy; exact Ev.bt_add (by rw [wrap_ok (by omega) (by omega)]; omega)), (List.forall_mem_nil _)⟩)⟩)⟩)⟩), hu := (List.forall_mem_nil _), hc := (List.forall_mem_nil _), gs := [Ev.star (Ev.oldX p.W ((fun _ => False)) :: [])], ops := [⟨[10, 31], [sy 0], none, 0, none, sy 2, none⟩, ⟨[3, 31], [sy 0, sy 1], none, 0, none, sy 3, none⟩, ⟨[7, 47, 3], [sy 3], none, 0, none, sy 4, none⟩, ⟨[1, 45], [sy 4], none, 0, none, sy 5, none⟩, ⟨[10, 45], [sy 5], none, 0, none, sy 6, none⟩], cls := [] }
theorem fuY_o (p : FewP) (j : Nat) (s : Smp) (hj : p.ss[j]? = some s) (hS : Ev.SlR 1 s.act s.zs.length (s.zs.map (Value.int .i64)) p.W) (hl : j < p.ss.length) (h60 : j ≤ 60) (h1 : ¬ ((s.zs.length : Nat) : Int) > 20) : @Ev.CalOK (fuY_k p j s hj hS hl h60 h1).sig Try.prog := Ev.Kn.ok (fuY_k p j s hj hS hl h60 h1) (fun q hq => by cases hq) (List.forall_mem_cons.2 ⟨(by exact Ev.ro_len (ci := 0) rfl rfl p.hs Try.underlying31 rfl rfl), (List.forall_mem_cons.2 ⟨(by obtain ⟨i, i1, i2, i3, i4⟩ := infoSamp; exact Ev.ro_index (ci := 0) (j := (j)) rfl rfl p.hs Try.underlying31 i1 i2 rfl rfl (by omega) rfl), (List.forall_mem_cons.2 ⟨(by exact Ev.ro_field (fo := 3) rfl p.hs (by omega) fieldAct rfl rfl), (List.forall_mem_cons.2 ⟨(by exact Ev.ro_load (ci := 0) (m := (j) * 6 + 3) (x := s.act) rfl rfl p.hs loadInts (cell3 hj) rfl rfl (Ev.offNone _)), (List.forall_mem_cons.2 ⟨(by exact Ev.ro_len (ci := 0) rfl rfl hS Try.underlying45 rfl rfl), (List.forall_mem_nil _)⟩)⟩)⟩)⟩)⟩) (List.forall_mem_nil _)
theorem fuY (p : FewP) (j : Nat) (s : Smp) (hj : p.ss[j]? = some s) (hS : Ev.SlR 1 s.act s.zs.length (s.zs.map (Value.int .i64)) p.W) (hl : j < p.ss.length) (h60 : j ≤ 60) (h1 : ¬ ((s.zs.length : Nat) : Int) > 20) : Ev.Pie Try.prog 9 [4, 0] 0 4 28 p.c [(0, (p.sv)), (1, (.int .i64 60)), (5, (.int .i64 ((j : Nat) : Int)))] [] .normal (fun κ : Ev.Ren => [(0, (p.sv)), (1, (.int .i64 60)), (5, (.int .i64 (((j) + 1 : Nat) : Int)))]) (fun κ : Ev.Ren => []) := (Ev.tri Try.codeOk mixed_ok (fuY_k p j s hj hS hl h60 h1) (fuY_o p j s hj hS hl h60 h1) (n := 200) (m := 100) (c := p.c) [] [] [] 0 0 [] [] rfl rfl [(0, sy 0), (1, .int .i64 60), (5, sy 1)] [(0, sy 0), (1, .int .i64 60), (5, sy 7)] .normal (by kernel_rfl) (fun gb => by kernel_rfl))
@[reducible] def fuN_k (p : FewP) (j : Nat) (s : Smp) (hj : p.ss[j]? = some s) (hS : Ev.SlR 1 s.act s.zs.length (s.zs.map (Value.int .i64)) p.W) (hl : j < p.ss.length) (h60 : j ≤ 60) (h1 : ((s.zs.length : Nat) : Int) > 20) : Ev.Kn := { val := fu_v p j s hj hS hl h60, leaf := fu_l p j s hj hS hl h60, bs := [(.lss, sy 1, sy 2, .bool true), (.leq, sy 1, .int .i64 60, .bool true), (.gtr, sy 6, .int .i64 20, .bool true)], us := [], cs := [], ks := [], hb := (List.forall_mem_cons.2 ⟨(by intro t ox oy; exact Ev.bt_lss (by first | (simp; done) | (simp; omega))), (List.forall_mem_cons.2 ⟨(by intro t ox oy; exact Ev.bt_leq (by first | (simp; done) | (simp; omega))), (List.forall_mem_cons.2 ⟨(by intro t ox oy; exact Ev.bt_gtr (by first | (simpa using h1) | (simp; omega))), (List.forall_mem_nil _)⟩)⟩)⟩), hu := (List.forall_mem_nil _), hc := (List.forall_mem_nil _), gs := [Ev.star (Ev.oldX p.W ((fun _ => False)) :: [])], ops := [⟨[10, 31], [sy 0], none, 0, none, sy 2, none⟩, ⟨[3, 31], [sy 0, sy 1], none, 0, none, sy 3, none⟩, ⟨[7, 47, 3], [sy 3], none, 0, none, sy 4, none⟩, ⟨[1, 45], [sy 4], none, 0, none, sy 5, none⟩, ⟨[10, 45], [sy 5], none, 0, none, sy 6, none⟩], cls := [] }
theorem fuN_o (p : FewP) (j : Nat) (s : Smp) (hj : p.ss[j]? = some s) (hS : Ev.SlR 1 s.act s.zs.length (s.zs.map (Value.int .i64)) p.W) (hl : j < p.ss.length) (h60 : j ≤ 60) (h1 : ((s.zs.length : Nat) : Int) > 20) : @Ev.CalOK (fuN_k p j s hj hS hl h60 h1).sig Try.prog := Ev.Kn.ok (fuN_k p j s hj hS hl h60 h1) (fun q hq => by cases hq) (List.forall_mem_cons.2 ⟨(by exact Ev.ro_len (ci := 0) rfl rfl p.hs Try.underlying31 rfl rfl), (List.forall_mem_cons.2 ⟨(by obtain ⟨i, i1, i2, i3, i4⟩ := infoSamp; exact Ev.ro_index (ci := 0) (j := (j)) rfl rfl p.hs Try.underlying31 i1 i2 rfl rfl (by omega) rfl), (List.forall_mem_cons.2 ⟨(by exact Ev.ro_field (fo := 3) rfl p.hs (by omega) fieldAct rfl rfl), (List.forall_mem_cons.2 ⟨(by exact Ev.ro_load (ci := 0) (m := (j) * 6 + 3) (x := s.act) rfl rfl p.hs loadInts (cell3 hj) rfl rfl (Ev.offNone _)), (List.forall_mem_cons.2 ⟨(by exact Ev.ro_len (ci := 0) rfl rfl hS Try.underlying45 rfl rfl), (List.forall_mem_nil _)⟩)⟩)⟩)⟩)⟩) (List.forall_mem_nil _)
theorem fuN (p : FewP) (j : Nat) (s : Smp) (hj : p.ss[j]? = some s) (hS : Ev.SlR 1 s.act s.zs.length (s.zs.map (Value.int .i64)) p.W) (hl : j < p.ss.length) (h60 : j ≤ 60) (h1 : ((s.zs.length : Nat) : Int) > 20) : Ev.Pie Try.prog 9 [4, 0] 0 4 28 p.c [(0, (p.sv)), (1, (.int .i64 60)), (5, (.int .i64 ((j : Nat) : Int)))] [] .ret (fun κ : Ev.Ren => [(4, (.bool false))]) (fun κ : Ev.Ren => []) := (Ev.tri Try.codeOk mixed_ok (fuN_k p j s hj hS hl h60 h1) (fuN_o p j s hj hS hl h60 h1) (n := 200) (m := 100) (c := p.c) [] [] [] 0 0 [] [] rfl rfl [(0, sy 0), (1, .int .i64 60), (5, sy 1)] [(4, .bool false)] .ret (by kernel_rfl) (fun gb => by kernel_rfl))
end Go.Proofs.Ytjcibnfaijdgnaa

namespace Go.Proofs.Ytjcibnfaijdgnaa
open Go.RowKit
open Go.Ev (sy)
set_option linter.unusedVariables false
set_option linter.unusedSimpArgs false

theorem fair_ok (p : FirP) {b : Bool} (hb : b = true ↔ fairP p.ww p.ll p.ss) : Calls Try.prog 12 #[.int .i64 p.ll, .int .i64 p.ww, p.sv] p.W fun e w' => e = .returned (.bool b) ∧ Below p.W.heap.size p.W w' := by
  obtain ⟨n, c, hf⟩ := firstIs_ex p.ww p.ll p.ss
  have hc := firstIs_fair hf
  refine Ev.con_start (N := 18) (tm := [(0, .int .i64 p.ll), (1, .int .i64 p.ww), (2, p.sv)]) (by kernel_rfl) (Ev.now_nil p.W) (by simp) (by simp) (fun A h => ?_)
  cases c with
  | true =>
    refine fft p n hf A p.W _ h ?_
    intro κ w1 h1
    refine ⟨?_, h1.below (fun _ h => h)⟩
    cases b with
    | true => exact absurd (hc.2 (hb.1 rfl)) (by simp)
    | false => rfl
  | false =>
    refine fff p n hf A p.W _ h ?_
    intro κ w1 h1
    refine ⟨?_, h1.below (fun _ h => h)⟩
    cases b with
    | true => rfl
    | false => exact absurd (hb.2 (hc.1 rfl)) (by simp)
theorem few_ok (p : FewP) {b : Bool} (hb : b = true ↔ (p.ss.length ≤ 60 ∧ ∀ s ∈ p.ss, s.zs.length ≤ 20)) : Calls Try.prog 9 #[p.sv, .int .i64 60] p.W fun e w' => e = .returned (.bool b) ∧ Below p.W.heap.size p.W w' := by
  refine Ev.con_start (N := 28) (tm := [(0, p.sv), (1, .int .i64 60)]) (by kernel_rfl) (Ev.now_nil p.W) (by simp) (by simp) (fun A h => ?_)
  refine fwA p A p.W _ h ?_
  intro κ A1 w1 h1
  refine Ev.in_block (id := 0) (by kernel_rfl) ?_
  refine Ev.loop_st (by kernel_rfl) (fun (j : Nat) A w => Ev.At p.c 28 [(0, p.sv), (1, .int .i64 60), (5, .int .i64 (j : Int))] [] A w ∧ j ≤ 61 ∧ ∀ i s, i < j → p.ss[i]? = some s → s.zs.length ≤ 20) (fun j => 61 - j) (x := 0) ⟨h1, by omega, fun i s hi => absurd hi (Nat.not_lt_zero i)⟩ ?_
  clear h1 h A
  rintro j A w ⟨h, hj, hs⟩
  have fin : ∀ A1 w1, Ev.At p.c 28 [(0, p.sv), (1, .int .i64 60)] [] A1 w1 → (j < p.ss.length → 60 < j) → Ev.wpL Try.prog (Ev.stm Try.prog 9 [] 3) (bodyPostM Fence.wide 0 Try.prog (Ev.fnOf Try.prog 9) fun e w' => e = .returned (.bool b) ∧ Below p.W.heap.size p.W w') A1 w1 := by
    intro A1 w1 h1 hend
    by_cases h60 : (p.ss.length : Int) ≤ 60
    · refine fwZ p h60 A1 w1 _ h1 ?_
      intro κ A2 w2 h2
      refine h2.ret (by kernel_rfl) (List.mem_singleton.2 rfl) (fun hh => ⟨?_, hh.below (fun _ h => h)⟩)
      rw [hb.2 ⟨by omega, fun s hm => ?_⟩]
      obtain ⟨i, hi, e⟩ := List.getElem_of_mem hm
      exact hs i s (by omega) (by rw [List.getElem?_eq_getElem hi, e])
    · refine fwY p h60 A1 w1 _ h1 ?_
      intro κ A2 w2 h2
      refine h2.ret (by kernel_rfl) (List.mem_singleton.2 rfl) (fun hh => ⟨?_, hh.below (fun _ h => h)⟩)
      cases b with
      | true => have := (hb.1 rfl).1; omega
      | false => rfl
  by_cases h1 : (j : Int) < (p.ss.length : Int)
  · by_cases h2 : (j : Int) ≤ 60
    · have hl : j < p.ss.length := by omega
      have hg : p.ss[j]? = some p.ss[j] := List.getElem?_eq_getElem hl
      have hS := p.hok p.ss[j] (List.getElem_mem hl)
      by_cases h3 : (p.ss[j].zs.length : Int) > 20
      · refine fuN p j p.ss[j] hg hS hl (by omega) h3 A w _ h ?_
        intro κ A2 w2 h2
        refine h2.ret (by kernel_rfl) (List.mem_singleton.2 rfl) (fun hh => ⟨?_, hh.below (fun _ h => h)⟩)
        cases b with
        | true => have := (hb.1 rfl).2 p.ss[j] (List.getElem_mem hl); omega
        | false => rfl
      · refine fuY p j p.ss[j] hg hS hl (by omega) h3 A w _ h ?_
        intro κ A2 w2 h4
        exact Ev.wpL_nil (by kernel_rfl) ⟨j + 1, ⟨h4, by omega, fun i s hi he => by
          rcases Nat.lt_succ_iff_lt_or_eq.1 hi with hi | rfl
          · exact hs i s hi he
          · rw [hg] at he; cases he; omega⟩, by omega⟩
    · refine fvD p j h1 h2 A w _ h ?_
      intro κ A2 w2 h3
      exact fin A2 w2 h3 (fun _ => by omega)
  · refine fvE p j h1 A w _ h ?_
    intro κ A2 w2 h3
    exact fin A2 w2 h3 (fun h => by omega)
end Go.Proofs.Ytjcibnfaijdgnaa

namespace Go.Proofs.Ytjcibnfaijdgnaa
open Go.RowKit
set_option linter.unusedVariables false

/-- A number brought from 0 up to m. -/
def pick (n m : Int) : Int := ((n.tmod m) + m).tmod m
theorem tmod_gt (n m : Int) (h : 0 < m) : -m < n.tmod m := by
  rcases Int.le_total 0 n with h0 | h0
  · have := Int.tmod_nonneg m h0
    omega
  · have e : n.tmod m = -((-n).tmod m) := by rw [Int.neg_tmod, Int.neg_neg]
    have := Int.tmod_lt_of_pos (-n) h
    omega
theorem pick_bd (n m : Int) (h : 0 < m) : 0 ≤ pick n m ∧ pick n m < m := by
  unfold pick
  have h1 := Int.tmod_lt_of_pos (n.tmod m + m) h
  have h2 : -m < n.tmod m := tmod_gt n m h
  exact ⟨Int.tmod_nonneg _ (by omega), h1⟩

set_option maxHeartbeats 400000 in
theorem pick_any (n m : Int) (h : 0 < m) (hm : m ≤ 1000000) (w : World) :
    Calls Try.prog 10 #[.int .i64 n, .int .i64 m] w fun e w' => e = .returned (.int .i64 (pick n m)) ∧ Below w.heap.size w w' := by
  have hne : m ≠ 0 := by omega
  have h1 : -m < n.tmod m := tmod_gt n m h
  have h2 : n.tmod m < m := Int.tmod_lt_of_pos n h
  have hw : IntKind.i64.wrap (n.tmod m + m) = n.tmod m + m := IntWalk.i64_in _ (by omega)
  go_enter Try.func10, Try.ntmps10
  go_wp2
  go_ret
  refine ⟨?_, Below.refl _ _⟩
  simp_all [pick]
  rw [Int.tmod_eq_emod_of_nonneg (a := n.tmod m + m) (by omega), Int.add_emod_right]
end Go.Proofs.Ytjcibnfaijdgnaa

namespace Go.Proofs.Ytjcibnfaijdgnaa
open Go.RowKit
open Go.Ev (sy)
set_option linter.unusedVariables false
set_option linter.unusedSimpArgs false

structure LawP where
  W : World
  l : Int
  w : Int
  sv : Value
  ss : List Smp
  fr0 : Int
  to0 : Int
  mo : Int
  hl1 : 0 ≤ l
  hl2 : l < 256
  hw1 : 0 ≤ w
  hw2 : w < 256
  hm1 : 0 ≤ mo
  hm2 : mo < 256
  hs : Ev.SlR 6 sv ss.length (ss.flatMap Smp.cells) W
  hok : ∀ s ∈ ss, Ev.SlR 1 s.act s.zs.length (s.zs.map (Value.int .i64)) W ∧ Ev.wfI s.am ∧ Ev.wfI s.gg ∧ ∀ z ∈ s.zs, Ev.wfI z
abbrev LawP.c (p : LawP) : Ev.Ctx := ⟨p.W, fun _ => False⟩
def LawP.a (p : LawP) : Int := 1 + p.l.tmod 30
def LawP.b (p : LawP) : Int := 1 + p.w.tmod 30
def LawP.fr (p : LawP) : Nat := (pick p.fr0 ((p.ss.length : Int) + 1)).toNat
def LawP.tn (p : LawP) : Nat := (pick p.to0 ((p.ss.length : Int) + 1 - (p.fr : Int))).toNat
theorem LawP.fr_eq (p : LawP) : (p.fr : Int) = pick p.fr0 ((p.ss.length : Int) + 1) := Int.toNat_of_nonneg (pick_bd _ _ (by omega)).1
theorem LawP.fr_le (p : LawP) : p.fr ≤ p.ss.length := by
  have h1 := (pick_bd p.fr0 ((p.ss.length : Int) + 1) (by omega)).2
  have h2 := p.fr_eq
  omega
theorem LawP.tn_eq (p : LawP) : (p.tn : Int) = pick p.to0 ((p.ss.length : Int) + 1 - (p.fr : Int)) := Int.toNat_of_nonneg (pick_bd _ _ (by have := p.fr_le; omega)).1
theorem LawP.to_le (p : LawP) : p.fr + p.tn ≤ p.ss.length := by
  have h1 := (pick_bd p.to0 ((p.ss.length : Int) + 1 - (p.fr : Int)) (by have := p.fr_le; omega)).2
  have h2 := p.tn_eq
  have h3 := p.fr_le
  omega
theorem tmod30 {x : Int} (h : 0 ≤ x) : 0 ≤ x.tmod 30 ∧ x.tmod 30 < 30 := ⟨Int.tmod_nonneg 30 h, Int.tmod_lt_of_pos x (by omega)⟩
theorem LawP.tl_bd (p : LawP) : -9223372036854775808 ≤ p.l.tmod 30 ∧ p.l.tmod 30 ≤ 9223372036854775807 := by have := tmod30 p.hl1; omega
theorem LawP.tw_bd (p : LawP) : -9223372036854775808 ≤ p.w.tmod 30 ∧ p.w.tmod 30 ≤ 9223372036854775807 := by have := tmod30 p.hw1; omega
theorem LawP.a_bd (p : LawP) : 1 ≤ p.a ∧ p.a ≤ 30 := by have := tmod30 p.hl1; unfold LawP.a; omega
theorem LawP.b_bd (p : LawP) : 1 ≤ p.b ∧ p.b ≤ 30 := by have := tmod30 p.hw1; unfold LawP.b; omega
theorem LawP.a_wrap (p : LawP) : IntKind.i64.wrap (1 + p.l.tmod 30) = p.a := by have := p.a_bd; exact wrap_ok (show -9223372036854775808 ≤ p.a by omega) (show p.a ≤ 9223372036854775807 by omega)
theorem LawP.b_wrap (p : LawP) : IntKind.i64.wrap (1 + p.w.tmod 30) = p.b := by have := p.b_bd; exact wrap_ok (show -9223372036854775808 ≤ p.b by omega) (show p.b ≤ 9223372036854775807 by omega)
theorem few_at (p : LawP) {b : Bool} (hb : b = true ↔ (p.ss.length ≤ 60 ∧ ∀ s ∈ p.ss, s.zs.length ≤ 20)) {w : World} (ho : Ev.OldW p.W (fun _ => False) w) : Calls Try.prog 9 [p.sv, .int .i64 60].toArray w fun e w' => e = .returned (.bool b) ∧ Below w.heap.size w w' :=
  few_ok ⟨w, p.sv, p.ss, p.hs.old ho (Ev.offNone _), fun s hs => (p.hok s hs).1.old ho (Ev.offNone _)⟩ hb
theorem firstIs_le {w l : Int} {ss : List Smp} {n : Nat} {b : Bool} (h : firstIs w l ss n b) : n ≤ ss.length := by
  obtain ⟨_, ⟨_, h, _⟩ | ⟨_, h⟩⟩ := h <;> omega
theorem firstIs_lt {w l : Int} {ss : List Smp} {n : Nat} (h : firstIs w l ss n true) : n < ss.length := by
  obtain ⟨_, ⟨_, h, _⟩ | ⟨h, _⟩⟩ := h
  · exact h
  · cases h
theorem LawP.ok (p : LawP) (hf : p.ss.length ≤ 60 ∧ ∀ s ∈ p.ss, s.zs.length ≤ 20) : ∀ s ∈ p.ss, s.Ok p.W := fun s hs => by
  obtain ⟨h1, h2, h3, h4⟩ := p.hok s hs
  exact ⟨h1, by have := hf.2 s hs; omega, h2, h3, h4⟩
def LawP.fir (p : LawP) (hf : p.ss.length ≤ 60 ∧ ∀ s ∈ p.ss, s.zs.length ≤ 20) : FirP := ⟨p.W, p.a, p.b, p.sv, p.ss, p.hs, p.a_bd.1, p.b_bd.1, by have := p.b_bd; omega, by have := hf.1; omega, p.ok hf⟩
theorem LawP.pick_fr (p : LawP) (h : p.ss.length ≤ 60) (w : World) : Calls Try.prog 10 [.int .i64 p.fr0, .int .i64 ((p.ss.length + 1 : Nat) : Int)].toArray w fun e w' => e = .returned (.int .i64 ((p.fr : Nat) : Int)) ∧ Below w.heap.size w w' := by
  rw [p.fr_eq]
  exact pick_any p.fr0 _ (by omega) (by omega) w
theorem LawP.pick_to (p : LawP) (h : p.ss.length ≤ 60) (w : World) : Calls Try.prog 10 [.int .i64 p.to0, .int .i64 (((p.ss.length + 1 : Nat) : Int) - (p.fr : Int))].toArray w fun e w' => e = .returned (.int .i64 ((p.tn : Nat) : Int)) ∧ Below w.heap.size w w' := by
  have h1 := p.fr_le
  rw [p.tn_eq]
  exact pick_any p.to0 _ (by omega) (by omega) w
/-! ### Fair, of a row's part -/
theorem flat_drop (ss : List Smp) (a : Nat) : (ss.flatMap Smp.cells).drop (a * 6) = (ss.drop a).flatMap Smp.cells := by
  induction a generalizing ss with
  | zero => rw [Nat.zero_mul]; rfl
  | succ a ih =>
    cases ss with
    | nil => simp
    | cons s ss =>
      rw [Nat.add_mul, Nat.one_mul, Nat.add_comm, ← List.drop_drop, List.drop_succ_cons, ← ih ss]
      rfl
theorem flat_take (ss : List Smp) (a : Nat) : (ss.flatMap Smp.cells).take (a * 6) = (ss.take a).flatMap Smp.cells := by
  have h : ss.flatMap Smp.cells = (ss.take a).flatMap Smp.cells ++ (ss.drop a).flatMap Smp.cells := by rw [← List.flatMap_append, List.take_append_drop]
  by_cases ha : a ≤ ss.length
  · rw [h, List.take_append_of_le_length (by rw [cells_len, List.length_take]; omega), List.take_of_length_le (by rw [cells_len, List.length_take]; omega)]
  · rw [List.take_of_length_le (by rw [cells_len]; omega), List.take_of_length_le (by omega)]
theorem fair_cut (p : LawP) (hf : p.ss.length ≤ 60 ∧ ∀ s ∈ p.ss, s.zs.length ≤ 20) {a m : Nat} (h : a + m ≤ p.ss.length) {x y : Int} (hx : 1 ≤ x) (hy : 1 ≤ y) (hy2 : y ≤ 1000000) {b : Bool} (hb : b = true ↔ fairP y x ((p.ss.drop a).take m)) {v : Value} (hv : v = Ev.cutV 6 p.sv a (a + m)) {w : World} (ho : Ev.OldW p.W (fun _ => False) w) :
    Calls Try.prog 12 [.int .i64 x, .int .i64 y, v].toArray w fun e w' => e = .returned (.bool b) ∧ Below w.heap.size w w' := by
  have hc := (p.hs.cut (lo := a) (hi := a + m) (by omega) h).old ho (Ev.offNone _)
  rw [show a + m - a = m by omega, flat_drop, flat_take, ← hv] at hc
  have hl : ((p.ss.drop a).take m).length = m := by rw [List.length_take, List.length_drop]; omega
  refine fair_ok ⟨w, x, y, v, (p.ss.drop a).take m, by rw [hl]; exact hc, hx, hy, hy2, by have := hf.1; omega, fun s hs => (p.ok hf s (List.mem_of_mem_drop (List.mem_of_mem_take hs))).at ho⟩ hb
theorem fair_all (p : LawP) (hf : p.ss.length ≤ 60 ∧ ∀ s ∈ p.ss, s.zs.length ≤ 20) {x y : Int} (hx : 1 ≤ x) (hy : 1 ≤ y) (hy2 : y ≤ 1000000) {b : Bool} (hb : b = true ↔ fairP y x p.ss) {w : World} (ho : Ev.OldW p.W (fun _ => False) w) :
    Calls Try.prog 12 [.int .i64 x, .int .i64 y, p.sv].toArray w fun e w' => e = .returned (.bool b) ∧ Below w.heap.size w w' :=
  fair_ok ⟨w, x, y, p.sv, p.ss, p.hs.old ho (Ev.offNone _), hx, hy, hy2, by have := hf.1; omega, fun s hs => (p.ok hf s hs).at ho⟩ hb
theorem no_iff {q : Prop} (h : ¬ q) : false = true ↔ q := ⟨(fun e => by cases e), fun e => (h e).elim⟩
theorem yes_iff {q : Prop} (h : q) : true = true ↔ q := ⟨fun _ => h, fun _ => rfl⟩
theorem fairF (p : LawP) (hf : p.ss.length ≤ 60 ∧ ∀ s ∈ p.ss, s.zs.length ≤ 20) {n : Nat} {w : World} (hn : firstIs p.b p.a p.ss n true) (ho : Ev.OldW p.W (fun _ => False) w) : Calls Try.prog 12 [.int .i64 p.a, .int .i64 p.b, p.sv].toArray w fun e w' => e = .returned (.bool false) ∧ Below w.heap.size w w' :=
  fair_all p hf p.a_bd.1 p.b_bd.1 (by have := p.b_bd; omega) (no_iff (fun h => by have := (firstIs_fair hn).2 h; cases this)) ho
theorem fairT (p : LawP) (hf : p.ss.length ≤ 60 ∧ ∀ s ∈ p.ss, s.zs.length ≤ 20) {n : Nat} {w : World} (hn : firstIs p.b p.a p.ss n true) (ho : Ev.OldW p.W (fun _ => False) w) : Calls Try.prog 12 [.int .i64 p.a, .int .i64 p.b, Ev.cutV 6 p.sv 0 n].toArray w fun e w' => e = .returned (.bool true) ∧ Below w.heap.size w w' :=
  fair_cut p hf (a := 0) (m := n) (by have := firstIs_le hn; omega) p.a_bd.1 p.b_bd.1 (by have := p.b_bd; omega) (yes_iff (fair_take hn.1)) (by rw [Nat.zero_add]) ho
theorem fairN (p : LawP) (hf : p.ss.length ≤ 60 ∧ ∀ s ∈ p.ss, s.zs.length ≤ 20) {n : Nat} {w : World} (hn : firstIs p.b p.a p.ss n true) (ho : Ev.OldW p.W (fun _ => False) w) : Calls Try.prog 12 [.int .i64 p.a, .int .i64 p.b, Ev.cutV 6 p.sv 0 (n + 1)].toArray w fun e w' => e = .returned (.bool false) ∧ Below w.heap.size w w' := by
  obtain ⟨h1, ⟨_, h2, h3⟩ | ⟨h, _⟩⟩ := hn
  · exact fair_cut p hf (a := 0) (m := n + 1) (by omega) p.a_bd.1 p.b_bd.1 (by have := p.b_bd; omega) (no_iff (not_fair_take h2 h3)) (by rw [Nat.zero_add]) ho
  · cases h
theorem fairA (p : LawP) (hf : p.ss.length ≤ 60 ∧ ∀ s ∈ p.ss, s.zs.length ≤ 20) {n : Nat} {w : World} (hn : firstIs p.b p.a p.ss n false) (ho : Ev.OldW p.W (fun _ => False) w) : Calls Try.prog 12 [.int .i64 p.a, .int .i64 p.b, p.sv].toArray w fun e w' => e = .returned (.bool true) ∧ Below w.heap.size w w' :=
  fair_all p hf p.a_bd.1 p.b_bd.1 (by have := p.b_bd; omega) (yes_iff ((firstIs_fair hn).1 rfl)) ho
theorem fairB (p : LawP) (hf : p.ss.length ≤ 60 ∧ ∀ s ∈ p.ss, s.zs.length ≤ 20) {n : Nat} {w : World} (hn : firstIs p.b p.a p.ss n false) (ho : Ev.OldW p.W (fun _ => False) w) : Calls Try.prog 12 [.int .i64 p.a, .int .i64 p.b, Ev.cutV 6 p.sv p.fr (p.fr + p.tn)].toArray w fun e w' => e = .returned (.bool true) ∧ Below w.heap.size w w' :=
  fair_cut p hf (a := p.fr) (m := p.tn) p.to_le p.a_bd.1 p.b_bd.1 (by have := p.b_bd; omega) (yes_iff (fair_part p.b_bd.1 p.fr_le ((firstIs_fair hn).1 rfl))) rfl ho
theorem fairC (p : LawP) (hf : p.ss.length ≤ 60 ∧ ∀ s ∈ p.ss, s.zs.length ≤ 20) {n : Nat} {w : World} (hn : firstIs p.b p.a p.ss n false) (ho : Ev.OldW p.W (fun _ => False) w) : Calls Try.prog 12 [.int .i64 (p.a + p.mo), .int .i64 p.b, p.sv].toArray w fun e w' => e = .returned (.bool true) ∧ Below w.heap.size w w' :=
  fair_all p hf (by have := p.a_bd; have := p.hm1; omega) p.b_bd.1 (by have := p.b_bd; omega) (yes_iff (fair_l (by have := p.hm1; omega) ((firstIs_fair hn).1 rfl))) ho
theorem fairD (p : LawP) (hf : p.ss.length ≤ 60 ∧ ∀ s ∈ p.ss, s.zs.length ≤ 20) {n : Nat} {w : World} (hn : firstIs p.b p.a p.ss n false) (ho : Ev.OldW p.W (fun _ => False) w) : Calls Try.prog 12 [.int .i64 p.a, .int .i64 (p.b + p.mo), p.sv].toArray w fun e w' => e = .returned (.bool true) ∧ Below w.heap.size w w' :=
  fair_all p hf p.a_bd.1 (by have := p.b_bd; have := p.hm1; omega) (by have := p.b_bd; have := p.hm2; omega) (yes_iff (fair_w p.b_bd.1 (by have := p.hm1; omega) ((firstIs_fair hn).1 rfl))) ho
end Go.Proofs.Ytjcibnfaijdgnaa

namespace Go.Proofs.Ytjcibnfaijdgnaa
open Go.RowKit
open Go.Ev (sy)
set_option linter.unusedVariables false
set_option linter.unusedSimpArgs false

def lwA_v (p : LawP) (hbad : ¬ (p.ss.length ≤ 60 ∧ ∀ s ∈ p.ss, s.zs.length ≤ 20)) : Nat → Value
  | 0 => .int .u8 (p.l)
  | 1 => .int .u8 (p.w)
  | 2 => p.sv
  | 3 => .int .i64 (p.fr0)
  | 4 => .int .i64 (p.to0)
  | 5 => .int .u8 (p.mo)
  | _ => .int .i64 0
theorem lwA_l (p : LawP) (hbad : ¬ (p.ss.length ≤ 60 ∧ ∀ s ∈ p.ss, s.zs.length ≤ 20)) : ∀ j9, Ev.leafV (lwA_v p hbad j9) = true := by
  have q1 := p.hl1; have q2 := p.hl2; have q3 := p.hw1; have q4 := p.hw2; have q5 := p.hm1; have q6 := p.hm2; intro j9
  unfold lwA_v
  split <;> first | rfl | assumption | exact p.hs.leaf | exact Ev.cutV_leaf p.hs.leaf
@[reducible] def lwA_k (p : LawP) (hbad : ¬ (p.ss.length ≤ 60 ∧ ∀ s ∈ p.ss, s.zs.length ≤ 20)) : Ev.Kn := { val := lwA_v p hbad, leaf := lwA_l p hbad, bs := [], us := [], cs := [], ks := [], hb := (List.forall_mem_nil _), hu := (List.forall_mem_nil _), hc := (List.forall_mem_nil _), gs := [Ev.star (Ev.oldX p.W ((fun _ => False)) :: [])], ops := [], cls := [⟨9, [sy 2, .int .i64 60], 0, none, .bool false, none⟩, ⟨8, [], 0, none, .bool true, none⟩] }
theorem lwA_o (p : LawP) (hbad : ¬ (p.ss.length ≤ 60 ∧ ∀ s ∈ p.ss, s.zs.length ≤ 20)) : @Ev.CalOK (lwA_k p hbad).sig Try.prog := Ev.Kn.ok (lwA_k p hbad) (fun q hq => by cases hq) (List.forall_mem_nil _) (List.forall_mem_cons.2 ⟨(by have q1 := p.hl1; have q2 := p.hl2; have q3 := p.hw1; have q4 := p.hw2; have q5 := p.hm1; have q6 := p.hm2; exact Ev.ro_callR (ci := 0) (args := [(p.sv), (.int .i64 60)]) (rv := (.bool false)) rfl rfl (fun w hb => few_at p (b := false) (by simpa using hbad) hb) (fun ι => Ev.boolV') (Ev.args_cons (Ev.isSym rfl) (Ev.args_cons Ev.isInt Ev.args_nil))), (List.forall_mem_cons.2 ⟨(by have q1 := p.hl1; have q2 := p.hl2; have q3 := p.hw1; have q4 := p.hw2; have q5 := p.hm1; have q6 := p.hm2; exact Ev.ro_callR (ci := 0) (args := []) (rv := (.bool true)) rfl rfl (fun w hb => works_any _) (fun ι => Ev.boolV') Ev.args_nil), (List.forall_mem_nil _)⟩)⟩)
theorem lwA (p : LawP) (hbad : ¬ (p.ss.length ≤ 60 ∧ ∀ s ∈ p.ss, s.zs.length ≤ 20)) : Ev.Pie Try.prog 4 [] 0 3 123 p.c [(0, (.int .u8 (p.l))), (1, (.int .u8 (p.w))), (2, (p.sv)), (3, (.int .i64 (p.fr0))), (4, (.int .i64 (p.to0))), (5, (.int .u8 (p.mo)))] [] .ret (fun κ : Ev.Ren => [(12, (.bool true))]) (fun κ : Ev.Ren => []) := (Ev.tri Try.codeOk mixed_ok (lwA_k p hbad) (lwA_o p hbad) (n := 200) (m := 100) (c := p.c) [] [] [] 0 0 [] [] rfl rfl [(0, sy 0), (1, sy 1), (2, sy 2), (3, sy 3), (4, sy 4), (5, sy 5)] [(12, .bool true)] .ret (by kernel_rfl) (fun gb => by kernel_rfl))
def lwB_v (p : LawP) (hf : p.ss.length ≤ 60 ∧ ∀ s ∈ p.ss, s.zs.length ≤ 20) (n : Nat) (hn : firstIs p.b p.a p.ss n true) : Nat → Value
  | 0 => .int .u8 (p.l)
  | 1 => .int .u8 (p.w)
  | 2 => p.sv
  | 3 => .int .i64 (p.fr0)
  | 4 => .int .i64 (p.to0)
  | 5 => .int .u8 (p.mo)
  | 6 => .int .u8 (p.l.tmod 30)
  | 7 => .int .u8 (p.w.tmod 30)
  | 8 => .int .i64 (p.l.tmod 30)
  | 9 => .int .i64 (p.w.tmod 30)
  | 10 => .int .i64 (p.mo)
  | 11 => .int .i64 (p.a)
  | 12 => .int .i64 (p.b)
  | 13 => .int .i64 (p.a + p.mo)
  | 14 => .int .i64 (p.b + p.mo)
  | 15 => .int .i64 ((p.ss.length : Nat) : Int)
  | 16 => .int .i64 (((p.ss.length) + 1 : Nat) : Int)
  | 17 => .int .i64 ((p.fr : Nat) : Int)
  | 18 => .int .i64 ((((p.ss.length) + 1 : Nat) : Int) - ((p.fr : Nat) : Int))
  | 19 => .int .i64 ((p.tn : Nat) : Int)
  | 20 => .int .i64 (((p.fr) + (p.tn) : Nat) : Int)
  | 21 => .int .i64 ((n : Nat) : Int)
  | 22 => Ev.cutV 6 (p.sv) 0 (n)
  | 23 => .int .i64 (((n) + 1 : Nat) : Int)
  | 24 => Ev.cutV 6 (p.sv) 0 ((n) + 1)
  | _ => .int .i64 0
theorem lwB_l (p : LawP) (hf : p.ss.length ≤ 60 ∧ ∀ s ∈ p.ss, s.zs.length ≤ 20) (n : Nat) (hn : firstIs p.b p.a p.ss n true) : ∀ j9, Ev.leafV (lwB_v p hf n hn j9) = true := by
  have q1 := p.hl1; have q2 := p.hl2; have q3 := p.hw1; have q4 := p.hw2; have q5 := p.hm1; have q6 := p.hm2; have q7 := hf.1; have q8 := firstIs_lt hn; have q9 := p.fr_le; have q0 := p.to_le; intro j9
  unfold lwB_v
  split <;> first | rfl | assumption | exact p.hs.leaf | exact Ev.cutV_leaf p.hs.leaf
@[reducible] def lwB_k (p : LawP) (hf : p.ss.length ≤ 60 ∧ ∀ s ∈ p.ss, s.zs.length ≤ 20) (n : Nat) (hn : firstIs p.b p.a p.ss n true) : Ev.Kn := { val := lwB_v p hf n hn, leaf := lwB_l p hf n hn, bs := [(.rem, sy 0, .int .u8 30, sy 6), (.add, .int .i64 1, sy 8, sy 11), (.rem, sy 1, .int .u8 30, sy 7), (.add, .int .i64 1, sy 9, sy 12), (.add, sy 15, .int .i64 1, sy 16), (.sub, sy 16, sy 17, sy 18), (.add, sy 17, sy 19, sy 20), (.lss, sy 21, .int .i64 0, .bool false), (.gtr, sy 21, sy 15, .bool false), (.eql, sy 21, sy 15, .bool false), (.add, sy 21, .int .i64 1, sy 23)], us := [], cs := [(.i64, sy 6, sy 8), (.i64, sy 7, sy 9)], ks := [], hb := (List.forall_mem_cons.2 ⟨(by intro t ox oy; exact Ev.bt_rem (by decide) rfl), (List.forall_mem_cons.2 ⟨(by intro t ox oy; exact Ev.bt_add (by have q1 := p.hl1; have q2 := p.hl2; have q3 := p.hw1; have q4 := p.hw2; have q5 := p.hm1; have q6 := p.hm2; have q7 := hf.1; have q8 := firstIs_lt hn; have q9 := p.fr_le; have q0 := p.to_le; exact p.a_wrap)), (List.forall_mem_cons.2 ⟨(by intro t ox oy; exact Ev.bt_rem (by decide) rfl), (List.forall_mem_cons.2 ⟨(by intro t ox oy; exact Ev.bt_add (by have q1 := p.hl1; have q2 := p.hl2; have q3 := p.hw1; have q4 := p.hw2; have q5 := p.hm1; have q6 := p.hm2; have q7 := hf.1; have q8 := firstIs_lt hn; have q9 := p.fr_le; have q0 := p.to_le; exact p.b_wrap)), (List.forall_mem_cons.2 ⟨(by intro t ox oy; exact Ev.bt_add (by have q1 := p.hl1; have q2 := p.hl2; have q3 := p.hw1; have q4 := p.hw2; have q5 := p.hm1; have q6 := p.hm2; have q7 := hf.1; have q8 := firstIs_lt hn; have q9 := p.fr_le; have q0 := p.to_le; rw [wrap_ok (by omega) (by omega)]; omega)), (List.forall_mem_cons.2 ⟨(by intro t ox oy; exact Ev.bt_sub (by have q1 := p.hl1; have q2 := p.hl2; have q3 := p.hw1; have q4 := p.hw2; have q5 := p.hm1; have q6 := p.hm2; have q7 := hf.1; have q8 := firstIs_lt hn; have q9 := p.fr_le; have q0 := p.to_le; exact wrap_ok (by omega) (by omega))), (List.forall_mem_cons.2 ⟨(by intro t ox oy; exact Ev.bt_add (by have q1 := p.hl1; have q2 := p.hl2; have q3 := p.hw1; have q4 := p.hw2; have q5 := p.hm1; have q6 := p.hm2; have q7 := hf.1; have q8 := firstIs_lt hn; have q9 := p.fr_le; have q0 := p.to_le; rw [wrap_ok (by omega) (by omega)]; omega)), (List.forall_mem_cons.2 ⟨(by intro t ox oy; exact Ev.bt_lss (by have q1 := p.hl1; have q2 := p.hl2; have q3 := p.hw1; have q4 := p.hw2; have q5 := p.hm1; have q6 := p.hm2; have q7 := hf.1; have q8 := firstIs_lt hn; have q9 := p.fr_le; have q0 := p.to_le; first | (simp; done) | (simp; omega))), (List.forall_mem_cons.2 ⟨(by intro t ox oy; exact Ev.bt_gtr (by have q1 := p.hl1; have q2 := p.hl2; have q3 := p.hw1; have q4 := p.hw2; have q5 := p.hm1; have q6 := p.hm2; have q7 := hf.1; have q8 := firstIs_lt hn; have q9 := p.fr_le; have q0 := p.to_le; first | (simp; done) | (simp; omega))), (List.forall_mem_cons.2 ⟨(by intro t ox oy; exact Ev.bt_eql (by have q1 := p.hl1; have q2 := p.hl2; have q3 := p.hw1; have q4 := p.hw2; have q5 := p.hm1; have q6 := p.hm2; have q7 := hf.1; have q8 := firstIs_lt hn; have q9 := p.fr_le; have q0 := p.to_le; first | (simp; done) | (simp; omega))), (List.forall_mem_cons.2 ⟨(by intro t ox oy; exact Ev.bt_add (by have q1 := p.hl1; have q2 := p.hl2; have q3 := p.hw1; have q4 := p.hw2; have q5 := p.hm1; have q6 := p.hm2; have q7 := hf.1; have q8 := firstIs_lt hn; have q9 := p.fr_le; have q0 := p.to_le; rw [wrap_ok (by omega) (by omega)]; omega)), (List.forall_mem_nil _)⟩)⟩)⟩)⟩)⟩)⟩)⟩)⟩)⟩)⟩)⟩), hu := (List.forall_mem_nil _), hc := (List.forall_mem_cons.2 ⟨(Ev.ct_in rfl rfl (wrap_ok (by have q1 := p.hl1; have q2 := p.hl2; have q3 := p.hw1; have q4 := p.hw2; have q5 := p.hm1; have q6 := p.hm2; have q7 := hf.1; have q8 := firstIs_lt hn; have q9 := p.fr_le; have q0 := p.to_le; exact (p.tl_bd).1) (by have q1 := p.hl1; have q2 := p.hl2; have q3 := p.hw1; have q4 := p.hw2; have q5 := p.hm1; have q6 := p.hm2; have q7 := hf.1; have q8 := firstIs_lt hn; have q9 := p.fr_le; have q0 := p.to_le; exact (p.tl_bd).2))), (List.forall_mem_cons.2 ⟨(Ev.ct_in rfl rfl (wrap_ok (by have q1 := p.hl1; have q2 := p.hl2; have q3 := p.hw1; have q4 := p.hw2; have q5 := p.hm1; have q6 := p.hm2; have q7 := hf.1; have q8 := firstIs_lt hn; have q9 := p.fr_le; have q0 := p.to_le; exact (p.tw_bd).1) (by have q1 := p.hl1; have q2 := p.hl2; have q3 := p.hw1; have q4 := p.hw2; have q5 := p.hm1; have q6 := p.hm2; have q7 := hf.1; have q8 := firstIs_lt hn; have q9 := p.fr_le; have q0 := p.to_le; exact (p.tw_bd).2))), (List.forall_mem_nil _)⟩)⟩), gs := [Ev.star (Ev.oldX p.W ((fun _ => False)) :: [])], ops := [⟨[10, 31], [sy 2], none, 0, none, sy 15, none⟩, ⟨[4, 31, 0, 1, 0], [sy 2, sy 21], none, 0, none, sy 22, none⟩, ⟨[4, 31, 0, 1, 0], [sy 2, sy 23], none, 0, none, sy 24, none⟩], cls := [⟨9, [sy 2, .int .i64 60], 0, none, .bool true, none⟩, ⟨10, [sy 3, sy 16], 0, none, sy 17, none⟩, ⟨10, [sy 4, sy 18], 0, none, sy 19, none⟩, ⟨11, [sy 11, sy 12, sy 2], 0, none, .tuple #[sy 21, .bool true], none⟩, ⟨12, [sy 11, sy 12, sy 2], 0, none, .bool false, none⟩, ⟨12, [sy 11, sy 12, sy 22], 0, none, .bool true, none⟩, ⟨12, [sy 11, sy 12, sy 24], 0, none, .bool false, none⟩, ⟨8, [], 0, none, .bool true, none⟩] }
theorem lwB_o (p : LawP) (hf : p.ss.length ≤ 60 ∧ ∀ s ∈ p.ss, s.zs.length ≤ 20) (n : Nat) (hn : firstIs p.b p.a p.ss n true) : @Ev.CalOK (lwB_k p hf n hn).sig Try.prog := Ev.Kn.ok (lwB_k p hf n hn) (fun q hq => by cases hq) (List.forall_mem_cons.2 ⟨(by exact Ev.ro_len (ci := 0) rfl rfl p.hs Try.underlying31 rfl rfl), (List.forall_mem_cons.2 ⟨(by obtain ⟨i, i1, i2, i3, i4⟩ := infoSamp; have q1 := p.hl1; have q2 := p.hl2; have q3 := p.hw1; have q4 := p.hw2; have q5 := p.hm1; have q6 := p.hm2; have q7 := hf.1; have q8 := firstIs_lt hn; have q9 := p.fr_le; have q0 := p.to_le; exact Ev.ro_hi (hi := (n)) p.hs Try.underlying31 i1 i2 rfl rfl (by omega) rfl), (List.forall_mem_cons.2 ⟨(by obtain ⟨i, i1, i2, i3, i4⟩ := infoSamp; have q1 := p.hl1; have q2 := p.hl2; have q3 := p.hw1; have q4 := p.hw2; have q5 := p.hm1; have q6 := p.hm2; have q7 := hf.1; have q8 := firstIs_lt hn; have q9 := p.fr_le; have q0 := p.to_le; exact Ev.ro_hi (hi := ((n) + 1)) p.hs Try.underlying31 i1 i2 rfl rfl (by omega) rfl), (List.forall_mem_nil _)⟩)⟩)⟩) (List.forall_mem_cons.2 ⟨(by have q1 := p.hl1; have q2 := p.hl2; have q3 := p.hw1; have q4 := p.hw2; have q5 := p.hm1; have q6 := p.hm2; have q7 := hf.1; have q8 := firstIs_lt hn; have q9 := p.fr_le; have q0 := p.to_le; exact Ev.ro_callR (ci := 0) (args := [(p.sv), (.int .i64 60)]) (rv := (.bool true)) rfl rfl (fun w hb => few_at p (b := true) (by simpa using hf) hb) (fun ι => Ev.boolV') (Ev.args_cons (Ev.isSym rfl) (Ev.args_cons Ev.isInt Ev.args_nil))), (List.forall_mem_cons.2 ⟨(by have q1 := p.hl1; have q2 := p.hl2; have q3 := p.hw1; have q4 := p.hw2; have q5 := p.hm1; have q6 := p.hm2; have q7 := hf.1; have q8 := firstIs_lt hn; have q9 := p.fr_le; have q0 := p.to_le; exact Ev.ro_callR (ci := 0) (args := [(.int .i64 (p.fr0)), (.int .i64 (((p.ss.length) + 1 : Nat) : Int))]) (rv := (.int .i64 ((p.fr : Nat) : Int))) rfl rfl (fun w hb => p.pick_fr hf.1 _) (fun ι => (Ev.symT rfl)) (Ev.args_cons (Ev.isSym rfl) (Ev.args_cons (Ev.isSym rfl) Ev.args_nil))), (List.forall_mem_cons.2 ⟨(by have q1 := p.hl1; have q2 := p.hl2; have q3 := p.hw1; have q4 := p.hw2; have q5 := p.hm1; have q6 := p.hm2; have q7 := hf.1; have q8 := firstIs_lt hn; have q9 := p.fr_le; have q0 := p.to_le; exact Ev.ro_callR (ci := 0) (args := [(.int .i64 (p.to0)), (.int .i64 ((((p.ss.length) + 1 : Nat) : Int) - ((p.fr : Nat) : Int)))]) (rv := (.int .i64 ((p.tn : Nat) : Int))) rfl rfl (fun w hb => p.pick_to hf.1 _) (fun ι => (Ev.symT rfl)) (Ev.args_cons (Ev.isSym rfl) (Ev.args_cons (Ev.isSym rfl) Ev.args_nil))), (List.forall_mem_cons.2 ⟨(by have q1 := p.hl1; have q2 := p.hl2; have q3 := p.hw1; have q4 := p.hw2; have q5 := p.hm1; have q6 := p.hm2; have q7 := hf.1; have q8 := firstIs_lt hn; have q9 := p.fr_le; have q0 := p.to_le; exact Ev.ro_callR (ci := 0) (args := [(.int .i64 (p.a)), (.int .i64 (p.b)), (p.sv)]) (rv := (.tuple #[(.int .i64 ((n : Nat) : Int)), (.bool true)])) rfl rfl (fun w hb => first_at (p.fir hf) hn hb) (fun ι => (Ev.rtup2' (Ev.symT rfl) Ev.boolV')) (Ev.args_cons (Ev.isSym rfl) (Ev.args_cons (Ev.isSym rfl) (Ev.args_cons (Ev.isSym rfl) Ev.args_nil)))), (List.forall_mem_cons.2 ⟨(by have q1 := p.hl1; have q2 := p.hl2; have q3 := p.hw1; have q4 := p.hw2; have q5 := p.hm1; have q6 := p.hm2; have q7 := hf.1; have q8 := firstIs_lt hn; have q9 := p.fr_le; have q0 := p.to_le; exact Ev.ro_callR (ci := 0) (args := [(.int .i64 (p.a)), (.int .i64 (p.b)), (p.sv)]) (rv := (.bool false)) rfl rfl (fun w hb => fairF p hf hn hb) (fun ι => Ev.boolV') (Ev.args_cons (Ev.isSym rfl) (Ev.args_cons (Ev.isSym rfl) (Ev.args_cons (Ev.isSym rfl) Ev.args_nil)))), (List.forall_mem_cons.2 ⟨(by have q1 := p.hl1; have q2 := p.hl2; have q3 := p.hw1; have q4 := p.hw2; have q5 := p.hm1; have q6 := p.hm2; have q7 := hf.1; have q8 := firstIs_lt hn; have q9 := p.fr_le; have q0 := p.to_le; exact Ev.ro_callR (ci := 0) (args := [(.int .i64 (p.a)), (.int .i64 (p.b)), (Ev.cutV 6 (p.sv) 0 (n))]) (rv := (.bool true)) rfl rfl (fun w hb => fairT p hf hn hb) (fun ι => Ev.boolV') (Ev.args_cons (Ev.isSym rfl) (Ev.args_cons (Ev.isSym rfl) (Ev.args_cons (Ev.isSym rfl) Ev.args_nil)))), (List.forall_mem_cons.2 ⟨(by have q1 := p.hl1; have q2 := p.hl2; have q3 := p.hw1; have q4 := p.hw2; have q5 := p.hm1; have q6 := p.hm2; have q7 := hf.1; have q8 := firstIs_lt hn; have q9 := p.fr_le; have q0 := p.to_le; exact Ev.ro_callR (ci := 0) (args := [(.int .i64 (p.a)), (.int .i64 (p.b)), (Ev.cutV 6 (p.sv) 0 ((n) + 1))]) (rv := (.bool false)) rfl rfl (fun w hb => fairN p hf hn hb) (fun ι => Ev.boolV') (Ev.args_cons (Ev.isSym rfl) (Ev.args_cons (Ev.isSym rfl) (Ev.args_cons (Ev.isSym rfl) Ev.args_nil)))), (List.forall_mem_cons.2 ⟨(by have q1 := p.hl1; have q2 := p.hl2; have q3 := p.hw1; have q4 := p.hw2; have q5 := p.hm1; have q6 := p.hm2; have q7 := hf.1; have q8 := firstIs_lt hn; have q9 := p.fr_le; have q0 := p.to_le; exact Ev.ro_callR (ci := 0) (args := []) (rv := (.bool true)) rfl rfl (fun w hb => works_any _) (fun ι => Ev.boolV') Ev.args_nil), (List.forall_mem_nil _)⟩)⟩)⟩)⟩)⟩)⟩)⟩)⟩)
theorem lwB (p : LawP) (hf : p.ss.length ≤ 60 ∧ ∀ s ∈ p.ss, s.zs.length ≤ 20) (n : Nat) (hn : firstIs p.b p.a p.ss n true) : Ev.Pie Try.prog 4 [] 0 14 123 p.c [(0, (.int .u8 (p.l))), (1, (.int .u8 (p.w))), (2, (p.sv)), (3, (.int .i64 (p.fr0))), (4, (.int .i64 (p.to0))), (5, (.int .u8 (p.mo)))] [] .ret (fun κ : Ev.Ren => [(12, (.bool true))]) (fun κ : Ev.Ren => []) := (Ev.tri Try.codeOk mixed_ok (lwB_k p hf n hn) (lwB_o p hf n hn) (n := 200) (m := 100) (c := p.c) [] [] [] 0 0 [] [] rfl rfl [(0, sy 0), (1, sy 1), (2, sy 2), (3, sy 3), (4, sy 4), (5, sy 5)] [(12, .bool true)] .ret (by kernel_rfl) (fun gb => by kernel_rfl))
def lwG_v (p : LawP) (hf : p.ss.length ≤ 60 ∧ ∀ s ∈ p.ss, s.zs.length ≤ 20) (n : Nat) (hn : firstIs p.b p.a p.ss n false) : Nat → Value
  | 0 => .int .u8 (p.l)
  | 1 => .int .u8 (p.w)
  | 2 => p.sv
  | 3 => .int .i64 (p.fr0)
  | 4 => .int .i64 (p.to0)
  | 5 => .int .u8 (p.mo)
  | 6 => .int .u8 (p.l.tmod 30)
  | 7 => .int .u8 (p.w.tmod 30)
  | 8 => .int .i64 (p.l.tmod 30)
  | 9 => .int .i64 (p.w.tmod 30)
  | 10 => .int .i64 (p.mo)
  | 11 => .int .i64 (p.a)
  | 12 => .int .i64 (p.b)
  | 13 => .int .i64 (p.a + p.mo)
  | 14 => .int .i64 (p.b + p.mo)
  | 15 => .int .i64 ((p.ss.length : Nat) : Int)
  | 16 => .int .i64 (((p.ss.length) + 1 : Nat) : Int)
  | 17 => .int .i64 ((p.fr : Nat) : Int)
  | 18 => .int .i64 ((((p.ss.length) + 1 : Nat) : Int) - ((p.fr : Nat) : Int))
  | 19 => .int .i64 ((p.tn : Nat) : Int)
  | 20 => .int .i64 (((p.fr) + (p.tn) : Nat) : Int)
  | 21 => .int .i64 ((n : Nat) : Int)
  | 22 => Ev.cutV 6 (p.sv) (p.fr) ((p.fr) + (p.tn))
  | _ => .int .i64 0
theorem lwG_l (p : LawP) (hf : p.ss.length ≤ 60 ∧ ∀ s ∈ p.ss, s.zs.length ≤ 20) (n : Nat) (hn : firstIs p.b p.a p.ss n false) : ∀ j9, Ev.leafV (lwG_v p hf n hn j9) = true := by
  have q1 := p.hl1; have q2 := p.hl2; have q3 := p.hw1; have q4 := p.hw2; have q5 := p.hm1; have q6 := p.hm2; have q7 := hf.1; have q8 := firstIs_le hn; have q9 := p.fr_le; have q0 := p.to_le; intro j9
  unfold lwG_v
  split <;> first | rfl | assumption | exact p.hs.leaf | exact Ev.cutV_leaf p.hs.leaf
@[reducible] def lwG_k (p : LawP) (hf : p.ss.length ≤ 60 ∧ ∀ s ∈ p.ss, s.zs.length ≤ 20) (n : Nat) (hn : firstIs p.b p.a p.ss n false) : Ev.Kn := { val := lwG_v p hf n hn, leaf := lwG_l p hf n hn, bs := [(.rem, sy 0, .int .u8 30, sy 6), (.add, .int .i64 1, sy 8, sy 11), (.rem, sy 1, .int .u8 30, sy 7), (.add, .int .i64 1, sy 9, sy 12), (.add, sy 15, .int .i64 1, sy 16), (.sub, sy 16, sy 17, sy 18), (.add, sy 17, sy 19, sy 20), (.lss, sy 21, .int .i64 0, .bool false), (.gtr, sy 21, sy 15, .bool false), (.add, sy 11, sy 10, sy 13), (.add, sy 12, sy 10, sy 14)], us := [], cs := [(.i64, sy 6, sy 8), (.i64, sy 7, sy 9), (.i64, sy 5, sy 10)], ks := [], hb := (List.forall_mem_cons.2 ⟨(by intro t ox oy; exact Ev.bt_rem (by decide) rfl), (List.forall_mem_cons.2 ⟨(by intro t ox oy; exact Ev.bt_add (by have q1 := p.hl1; have q2 := p.hl2; have q3 := p.hw1; have q4 := p.hw2; have q5 := p.hm1; have q6 := p.hm2; have q7 := hf.1; have q8 := firstIs_le hn; have q9 := p.fr_le; have q0 := p.to_le; exact p.a_wrap)), (List.forall_mem_cons.2 ⟨(by intro t ox oy; exact Ev.bt_rem (by decide) rfl), (List.forall_mem_cons.2 ⟨(by intro t ox oy; exact Ev.bt_add (by have q1 := p.hl1; have q2 := p.hl2; have q3 := p.hw1; have q4 := p.hw2; have q5 := p.hm1; have q6 := p.hm2; have q7 := hf.1; have q8 := firstIs_le hn; have q9 := p.fr_le; have q0 := p.to_le; exact p.b_wrap)), (List.forall_mem_cons.2 ⟨(by intro t ox oy; exact Ev.bt_add (by have q1 := p.hl1; have q2 := p.hl2; have q3 := p.hw1; have q4 := p.hw2; have q5 := p.hm1; have q6 := p.hm2; have q7 := hf.1; have q8 := firstIs_le hn; have q9 := p.fr_le; have q0 := p.to_le; rw [wrap_ok (by omega) (by omega)]; omega)), (List.forall_mem_cons.2 ⟨(by intro t ox oy; exact Ev.bt_sub (by have q1 := p.hl1; have q2 := p.hl2; have q3 := p.hw1; have q4 := p.hw2; have q5 := p.hm1; have q6 := p.hm2; have q7 := hf.1; have q8 := firstIs_le hn; have q9 := p.fr_le; have q0 := p.to_le; exact wrap_ok (by omega) (by omega))), (List.forall_mem_cons.2 ⟨(by intro t ox oy; exact Ev.bt_add (by have q1 := p.hl1; have q2 := p.hl2; have q3 := p.hw1; have q4 := p.hw2; have q5 := p.hm1; have q6 := p.hm2; have q7 := hf.1; have q8 := firstIs_le hn; have q9 := p.fr_le; have q0 := p.to_le; rw [wrap_ok (by omega) (by omega)]; omega)), (List.forall_mem_cons.2 ⟨(by intro t ox oy; exact Ev.bt_lss (by have q1 := p.hl1; have q2 := p.hl2; have q3 := p.hw1; have q4 := p.hw2; have q5 := p.hm1; have q6 := p.hm2; have q7 := hf.1; have q8 := firstIs_le hn; have q9 := p.fr_le; have q0 := p.to_le; first | (simp; done) | (simp; omega))), (List.forall_mem_cons.2 ⟨(by intro t ox oy; exact Ev.bt_gtr (by have q1 := p.hl1; have q2 := p.hl2; have q3 := p.hw1; have q4 := p.hw2; have q5 := p.hm1; have q6 := p.hm2; have q7 := hf.1; have q8 := firstIs_le hn; have q9 := p.fr_le; have q0 := p.to_le; first | (simp; done) | (simp; omega))), (List.forall_mem_cons.2 ⟨(by intro t ox oy; exact Ev.bt_add (by have q1 := p.hl1; have q2 := p.hl2; have q3 := p.hw1; have q4 := p.hw2; have q5 := p.hm1; have q6 := p.hm2; have q7 := hf.1; have q8 := firstIs_le hn; have q9 := p.fr_le; have q0 := p.to_le; have z := p.a_bd; exact wrap_ok (by omega) (by omega))), (List.forall_mem_cons.2 ⟨(by intro t ox oy; exact Ev.bt_add (by have q1 := p.hl1; have q2 := p.hl2; have q3 := p.hw1; have q4 := p.hw2; have q5 := p.hm1; have q6 := p.hm2; have q7 := hf.1; have q8 := firstIs_le hn; have q9 := p.fr_le; have q0 := p.to_le; have z := p.b_bd; exact wrap_ok (by omega) (by omega))), (List.forall_mem_nil _)⟩)⟩)⟩)⟩)⟩)⟩)⟩)⟩)⟩)⟩)⟩), hu := (List.forall_mem_nil _), hc := (List.forall_mem_cons.2 ⟨(Ev.ct_in rfl rfl (wrap_ok (by have q1 := p.hl1; have q2 := p.hl2; have q3 := p.hw1; have q4 := p.hw2; have q5 := p.hm1; have q6 := p.hm2; have q7 := hf.1; have q8 := firstIs_le hn; have q9 := p.fr_le; have q0 := p.to_le; exact (p.tl_bd).1) (by have q1 := p.hl1; have q2 := p.hl2; have q3 := p.hw1; have q4 := p.hw2; have q5 := p.hm1; have q6 := p.hm2; have q7 := hf.1; have q8 := firstIs_le hn; have q9 := p.fr_le; have q0 := p.to_le; exact (p.tl_bd).2))), (List.forall_mem_cons.2 ⟨(Ev.ct_in rfl rfl (wrap_ok (by have q1 := p.hl1; have q2 := p.hl2; have q3 := p.hw1; have q4 := p.hw2; have q5 := p.hm1; have q6 := p.hm2; have q7 := hf.1; have q8 := firstIs_le hn; have q9 := p.fr_le; have q0 := p.to_le; exact (p.tw_bd).1) (by have q1 := p.hl1; have q2 := p.hl2; have q3 := p.hw1; have q4 := p.hw2; have q5 := p.hm1; have q6 := p.hm2; have q7 := hf.1; have q8 := firstIs_le hn; have q9 := p.fr_le; have q0 := p.to_le; exact (p.tw_bd).2))), (List.forall_mem_cons.2 ⟨(Ev.ct_in rfl rfl (wrap_ok (by have q5 := p.hm1; omega) (by have q6 := p.hm2; omega))), (List.forall_mem_nil _)⟩)⟩)⟩), gs := [Ev.star (Ev.oldX p.W ((fun _ => False)) :: [])], ops := [⟨[10, 31], [sy 2], none, 0, none, sy 15, none⟩, ⟨[4, 31, 1, 1, 0], [sy 2, sy 17, sy 20], none, 0, none, sy 22, none⟩], cls := [⟨9, [sy 2, .int .i64 60], 0, none, .bool true, none⟩, ⟨10, [sy 3, sy 16], 0, none, sy 17, none⟩, ⟨10, [sy 4, sy 18], 0, none, sy 19, none⟩, ⟨11, [sy 11, sy 12, sy 2], 0, none, .tuple #[sy 21, .bool false], none⟩, ⟨12, [sy 11, sy 12, sy 2], 0, none, .bool true, none⟩, ⟨12, [sy 11, sy 12, sy 22], 0, none, .bool true, none⟩, ⟨12, [sy 13, sy 12, sy 2], 0, none, .bool true, none⟩, ⟨12, [sy 11, sy 14, sy 2], 0, none, .bool true, none⟩, ⟨8, [], 0, none, .bool true, none⟩] }
theorem lwG_o (p : LawP) (hf : p.ss.length ≤ 60 ∧ ∀ s ∈ p.ss, s.zs.length ≤ 20) (n : Nat) (hn : firstIs p.b p.a p.ss n false) : @Ev.CalOK (lwG_k p hf n hn).sig Try.prog := Ev.Kn.ok (lwG_k p hf n hn) (fun q hq => by cases hq) (List.forall_mem_cons.2 ⟨(by exact Ev.ro_len (ci := 0) rfl rfl p.hs Try.underlying31 rfl rfl), (List.forall_mem_cons.2 ⟨(by obtain ⟨i, i1, i2, i3, i4⟩ := infoSamp; have q1 := p.hl1; have q2 := p.hl2; have q3 := p.hw1; have q4 := p.hw2; have q5 := p.hm1; have q6 := p.hm2; have q7 := hf.1; have q8 := firstIs_le hn; have q9 := p.fr_le; have q0 := p.to_le; exact Ev.ro_lohi (lo := (p.fr)) (hi := ((p.fr) + (p.tn))) p.hs Try.underlying31 i1 i2 rfl rfl rfl (by omega) (by omega) rfl), (List.forall_mem_nil _)⟩)⟩) (List.forall_mem_cons.2 ⟨(by have q1 := p.hl1; have q2 := p.hl2; have q3 := p.hw1; have q4 := p.hw2; have q5 := p.hm1; have q6 := p.hm2; have q7 := hf.1; have q8 := firstIs_le hn; have q9 := p.fr_le; have q0 := p.to_le; exact Ev.ro_callR (ci := 0) (args := [(p.sv), (.int .i64 60)]) (rv := (.bool true)) rfl rfl (fun w hb => few_at p (b := true) (by simpa using hf) hb) (fun ι => Ev.boolV') (Ev.args_cons (Ev.isSym rfl) (Ev.args_cons Ev.isInt Ev.args_nil))), (List.forall_mem_cons.2 ⟨(by have q1 := p.hl1; have q2 := p.hl2; have q3 := p.hw1; have q4 := p.hw2; have q5 := p.hm1; have q6 := p.hm2; have q7 := hf.1; have q8 := firstIs_le hn; have q9 := p.fr_le; have q0 := p.to_le; exact Ev.ro_callR (ci := 0) (args := [(.int .i64 (p.fr0)), (.int .i64 (((p.ss.length) + 1 : Nat) : Int))]) (rv := (.int .i64 ((p.fr : Nat) : Int))) rfl rfl (fun w hb => p.pick_fr hf.1 _) (fun ι => (Ev.symT rfl)) (Ev.args_cons (Ev.isSym rfl) (Ev.args_cons (Ev.isSym rfl) Ev.args_nil))), (List.forall_mem_cons.2 ⟨(by have q1 := p.hl1; have q2 := p.hl2; have q3 := p.hw1; have q4 := p.hw2; have q5 := p.hm1; have q6 := p.hm2; have q7 := hf.1; have q8 := firstIs_le hn; have q9 := p.fr_le; have q0 := p.to_le; exact Ev.ro_callR (ci := 0) (args := [(.int .i64 (p.to0)), (.int .i64 ((((p.ss.length) + 1 : Nat) : Int) - ((p.fr : Nat) : Int)))]) (rv := (.int .i64 ((p.tn : Nat) : Int))) rfl rfl (fun w hb => p.pick_to hf.1 _) (fun ι => (Ev.symT rfl)) (Ev.args_cons (Ev.isSym rfl) (Ev.args_cons (Ev.isSym rfl) Ev.args_nil))), (List.forall_mem_cons.2 ⟨(by have q1 := p.hl1; have q2 := p.hl2; have q3 := p.hw1; have q4 := p.hw2; have q5 := p.hm1; have q6 := p.hm2; have q7 := hf.1; have q8 := firstIs_le hn; have q9 := p.fr_le; have q0 := p.to_le; exact Ev.ro_callR (ci := 0) (args := [(.int .i64 (p.a)), (.int .i64 (p.b)), (p.sv)]) (rv := (.tuple #[(.int .i64 ((n : Nat) : Int)), (.bool false)])) rfl rfl (fun w hb => first_at (p.fir hf) hn hb) (fun ι => (Ev.rtup2' (Ev.symT rfl) Ev.boolV')) (Ev.args_cons (Ev.isSym rfl) (Ev.args_cons (Ev.isSym rfl) (Ev.args_cons (Ev.isSym rfl) Ev.args_nil)))), (List.forall_mem_cons.2 ⟨(by have q1 := p.hl1; have q2 := p.hl2; have q3 := p.hw1; have q4 := p.hw2; have q5 := p.hm1; have q6 := p.hm2; have q7 := hf.1; have q8 := firstIs_le hn; have q9 := p.fr_le; have q0 := p.to_le; exact Ev.ro_callR (ci := 0) (args := [(.int .i64 (p.a)), (.int .i64 (p.b)), (p.sv)]) (rv := (.bool true)) rfl rfl (fun w hb => fairA p hf hn hb) (fun ι => Ev.boolV') (Ev.args_cons (Ev.isSym rfl) (Ev.args_cons (Ev.isSym rfl) (Ev.args_cons (Ev.isSym rfl) Ev.args_nil)))), (List.forall_mem_cons.2 ⟨(by have q1 := p.hl1; have q2 := p.hl2; have q3 := p.hw1; have q4 := p.hw2; have q5 := p.hm1; have q6 := p.hm2; have q7 := hf.1; have q8 := firstIs_le hn; have q9 := p.fr_le; have q0 := p.to_le; exact Ev.ro_callR (ci := 0) (args := [(.int .i64 (p.a)), (.int .i64 (p.b)), (Ev.cutV 6 (p.sv) (p.fr) ((p.fr) + (p.tn)))]) (rv := (.bool true)) rfl rfl (fun w hb => fairB p hf hn hb) (fun ι => Ev.boolV') (Ev.args_cons (Ev.isSym rfl) (Ev.args_cons (Ev.isSym rfl) (Ev.args_cons (Ev.isSym rfl) Ev.args_nil)))), (List.forall_mem_cons.2 ⟨(by have q1 := p.hl1; have q2 := p.hl2; have q3 := p.hw1; have q4 := p.hw2; have q5 := p.hm1; have q6 := p.hm2; have q7 := hf.1; have q8 := firstIs_le hn; have q9 := p.fr_le; have q0 := p.to_le; exact Ev.ro_callR (ci := 0) (args := [(.int .i64 (p.a + p.mo)), (.int .i64 (p.b)), (p.sv)]) (rv := (.bool true)) rfl rfl (fun w hb => fairC p hf hn hb) (fun ι => Ev.boolV') (Ev.args_cons (Ev.isSym rfl) (Ev.args_cons (Ev.isSym rfl) (Ev.args_cons (Ev.isSym rfl) Ev.args_nil)))), (List.forall_mem_cons.2 ⟨(by have q1 := p.hl1; have q2 := p.hl2; have q3 := p.hw1; have q4 := p.hw2; have q5 := p.hm1; have q6 := p.hm2; have q7 := hf.1; have q8 := firstIs_le hn; have q9 := p.fr_le; have q0 := p.to_le; exact Ev.ro_callR (ci := 0) (args := [(.int .i64 (p.a)), (.int .i64 (p.b + p.mo)), (p.sv)]) (rv := (.bool true)) rfl rfl (fun w hb => fairD p hf hn hb) (fun ι => Ev.boolV') (Ev.args_cons (Ev.isSym rfl) (Ev.args_cons (Ev.isSym rfl) (Ev.args_cons (Ev.isSym rfl) Ev.args_nil)))), (List.forall_mem_cons.2 ⟨(by have q1 := p.hl1; have q2 := p.hl2; have q3 := p.hw1; have q4 := p.hw2; have q5 := p.hm1; have q6 := p.hm2; have q7 := hf.1; have q8 := firstIs_le hn; have q9 := p.fr_le; have q0 := p.to_le; exact Ev.ro_callR (ci := 0) (args := []) (rv := (.bool true)) rfl rfl (fun w hb => works_any _) (fun ι => Ev.boolV') Ev.args_nil), (List.forall_mem_nil _)⟩)⟩)⟩)⟩)⟩)⟩)⟩)⟩)⟩)
theorem lwG (p : LawP) (hf : p.ss.length ≤ 60 ∧ ∀ s ∈ p.ss, s.zs.length ≤ 20) (n : Nat) (hn : firstIs p.b p.a p.ss n false) : Ev.Pie Try.prog 4 [] 0 14 123 p.c [(0, (.int .u8 (p.l))), (1, (.int .u8 (p.w))), (2, (p.sv)), (3, (.int .i64 (p.fr0))), (4, (.int .i64 (p.to0))), (5, (.int .u8 (p.mo)))] [] .ret (fun κ : Ev.Ren => [(12, (.bool true))]) (fun κ : Ev.Ren => []) := (Ev.tri Try.codeOk mixed_ok (lwG_k p hf n hn) (lwG_o p hf n hn) (n := 200) (m := 100) (c := p.c) [] [] [] 0 0 [] [] rfl rfl [(0, sy 0), (1, sy 1), (2, sy 2), (3, sy 3), (4, sy 4), (5, sy 5)] [(12, .bool true)] .ret (by kernel_rfl) (fun gb => by kernel_rfl))
end Go.Proofs.Ytjcibnfaijdgnaa
