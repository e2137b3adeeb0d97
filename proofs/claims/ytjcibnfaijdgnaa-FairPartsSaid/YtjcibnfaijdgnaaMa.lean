/- slices.Index, slices.Contains, (*row).short: contracts. -/
import Derived.Test.YtjcibnfaijdgnaaFr1
import Derived.Test.YtjcibnfaijdgnaaHr
namespace Go.Proofs.Ytjcibnfaijdgnaa
open Go.RowKit
open Go.Ev (sy)
set_option linter.unusedVariables false
set_option linter.unusedSimpArgs false
structure IdxP where
  W : World
  X : Nat → Prop
  sv : Value
  zs : List Int
  x : Int
  hs : Ev.SlR 1 sv zs.length (zs.map (Value.int .i64)) W
  hX : Ev.OffX X sv
  hz : zs.length ≤ 1000000
abbrev IdxP.c (p : IdxP) : Ev.Ctx := ⟨p.W, p.X⟩
theorem wrap_ok {n : Int} (h1 : -9223372036854775808 ≤ n) (h2 : n ≤ 9223372036854775807) : IntKind.i64.wrap n = n := by
  unfold IntKind.wrap
  simp [IntKind.signed, IntKind.bits]
  omega
theorem wfI_of {i : Int} (h1 : -9223372036854775808 ≤ i) (h2 : i ≤ 9223372036854775807) : Ev.wfI i := by
  unfold Ev.wfI Lit.wf
  simp [IntKind.min, IntKind.max, IntKind.signed, IntKind.bits]
  omega

def ix_v (p : IdxP) : Nat → Value
  | 0 => p.sv
  | 1 => .int .i64 (p.x)
  | 2 => .int .i64 ((p.zs.length : Nat) : Int)
  | _ => .int .i64 0
theorem ix_l (p : IdxP) : ∀ j9, Ev.leafV (ix_v p j9) = true := by
  have q1 := p.hz; intro j9
  unfold ix_v
  split <;> first | rfl | assumption | exact p.hs.leaf | exact Ev.ptrR_leaf _ _
@[reducible] def ixA_k (p : IdxP) : Ev.Kn := { val := ix_v p, leaf := ix_l p, bs := [], us := [], cs := [], ks := [], hb := (List.forall_mem_nil _), hu := (List.forall_mem_nil _), hc := (List.forall_mem_nil _), gs := [Ev.star (Ev.oldX p.W p.X :: [])], ops := [⟨[10, 45], [sy 0], none, 0, none, sy 2, none⟩], cls := [] }
theorem ixA_o (p : IdxP) : @Ev.CalOK (ixA_k p).sig Try.prog := Ev.Kn.ok (ixA_k p) (fun q hq => by cases hq) (List.forall_mem_cons.2 ⟨(by exact Ev.ro_len (ci := 0) rfl rfl p.hs Try.underlying45 rfl rfl), (List.forall_mem_nil _)⟩) (List.forall_mem_nil _)
theorem ixA (p : IdxP) : Ev.Pie Try.prog 29 [] 0 2 19 p.c [(0, (p.sv)), (1, (.int .i64 (p.x)))] [] .normal (fun κ : Ev.Ren => [(0, (p.sv)), (1, (.int .i64 (p.x))), (7, (.int .i64 ((p.zs.length : Nat) : Int))), (8, (.int .i64 0))]) (fun κ : Ev.Ren => []) := (Ev.tri Try.codeOk mixed_ok (ixA_k p) (ixA_o p) (n := 200) (m := 100) (c := p.c) [] [] [] 0 0 [] [] rfl rfl [(0, sy 0), (1, sy 1)] [(0, sy 0), (1, sy 1), (7, sy 2), (8, .int .i64 0)] .normal (by kernel_rfl) (fun gb => by kernel_rfl))
@[reducible] def ixL_k (p : IdxP) : Ev.Kn := { val := ix_v p, leaf := ix_l p, bs := [], us := [], cs := [], ks := [], hb := (List.forall_mem_nil _), hu := (List.forall_mem_nil _), hc := (List.forall_mem_nil _), gs := [Ev.star (Ev.oldX p.W p.X :: [])], ops := [], cls := [] }
theorem ixL_o (p : IdxP) : @Ev.CalOK (ixL_k p).sig Try.prog := Ev.Kn.ok (ixL_k p) (fun q hq => by cases hq) (List.forall_mem_nil _) (List.forall_mem_nil _)
theorem ixL (p : IdxP) : Ev.PieE Try.prog 29 [] 3 19 p.c [] [] (fun κ : Ev.Ren => (.int .i64 (-1))) (fun κ : Ev.Ren => []) := (Ev.triE Try.codeOk mixed_ok (ixL_k p) (ixL_o p) (n := 200) (m := 100) (kk := 2) (c := p.c) [] [] [] 0 0 [] [] rfl rfl [] (.int .i64 (-1)) (by kernel_rfl) (fun gb => by kernel_rfl))
def iy_v (p : IdxP) (j : Nat) (hj : j < p.zs.length) : Nat → Value
  | 0 => p.sv
  | 1 => .int .i64 (p.x)
  | 2 => .int .i64 ((p.zs.length : Nat) : Int)
  | 3 => .int .i64 ((j : Nat) : Int)
  | 4 => Ev.ptrR (p.sv) ((j) * 1)
  | 5 => .int .i64 (p.zs.getD ((j)) 0)
  | 6 => .int .i64 (((j) + 1 : Nat) : Int)
  | _ => .int .i64 0
theorem iy_l (p : IdxP) (j : Nat) (hj : j < p.zs.length) : ∀ j9, Ev.leafV (iy_v p j hj j9) = true := by
  have q1 := p.hz; intro j9
  unfold iy_v
  split <;> first | rfl | assumption | exact p.hs.leaf | exact Ev.ptrR_leaf _ _
@[reducible] def iyS_k (p : IdxP) (j : Nat) (hj : j < p.zs.length) (h1 : ¬ (p.x) = (p.zs.getD ((j)) 0)) : Ev.Kn := { val := iy_v p j hj, leaf := iy_l p j hj, bs := [(.lss, sy 3, sy 2, .bool true), (.eql, sy 1, sy 5, .bool false), (.add, sy 3, .int .i64 1, sy 6)], us := [], cs := [], ks := [], hb := (List.forall_mem_cons.2 ⟨(by intro t ox oy; exact Ev.bt_lss (by have q1 := p.hz; first | (simp; done) | (simp; omega))), (List.forall_mem_cons.2 ⟨(by intro t ox oy; exact Ev.bt_eql (by have q1 := p.hz; first | (simpa using h1) | (simp; omega))), (List.forall_mem_cons.2 ⟨(by intro t ox oy; exact Ev.bt_add (by have q1 := p.hz; rw [wrap_ok (by omega) (by omega)]; omega)), (List.forall_mem_nil _)⟩)⟩)⟩), hu := (List.forall_mem_nil _), hc := (List.forall_mem_nil _), gs := [Ev.star (Ev.oldX p.W p.X :: [])], ops := [⟨[3, 45], [sy 0, sy 3], none, 0, none, sy 4, none⟩, ⟨[1, 3], [sy 4], none, 0, none, sy 5, none⟩], cls := [] }
theorem iyS_o (p : IdxP) (j : Nat) (hj : j < p.zs.length) (h1 : ¬ (p.x) = (p.zs.getD ((j)) 0)) : @Ev.CalOK (iyS_k p j hj h1).sig Try.prog := Ev.Kn.ok (iyS_k p j hj h1) (fun q hq => by cases hq) (List.forall_mem_cons.2 ⟨(by obtain ⟨i, i1, i2, i3, i4⟩ := infoInt; have q1 := p.hz; exact Ev.ro_index (ci := 0) (j := (j)) rfl rfl p.hs Try.underlying45 i1 i2 rfl rfl (by omega) rfl), (List.forall_mem_cons.2 ⟨(by have q1 := p.hz; exact Ev.ro_load (ci := 0) (m := (j) * 1) (x := .int .i64 (p.zs.getD ((j)) 0)) rfl rfl p.hs loadInt (by simp [List.getElem?_eq_getElem hj, List.getD_eq_getElem?_getD]) rfl rfl p.hX), (List.forall_mem_nil _)⟩)⟩) (List.forall_mem_nil _)
theorem iyS (p : IdxP) (j : Nat) (hj : j < p.zs.length) (h1 : ¬ (p.x) = (p.zs.getD ((j)) 0)) : Ev.Pie Try.prog 29 [4, 0] 0 4 19 p.c [(0, (p.sv)), (1, (.int .i64 (p.x))), (7, (.int .i64 ((p.zs.length : Nat) : Int))), (8, (.int .i64 ((j : Nat) : Int)))] [] .normal (fun κ : Ev.Ren => [(0, (p.sv)), (1, (.int .i64 (p.x))), (7, (.int .i64 ((p.zs.length : Nat) : Int))), (8, (.int .i64 (((j) + 1 : Nat) : Int)))]) (fun κ : Ev.Ren => []) := (Ev.tri Try.codeOk mixed_ok (iyS_k p j hj h1) (iyS_o p j hj h1) (n := 200) (m := 100) (c := p.c) [] [] [] 0 0 [] [] rfl rfl [(0, sy 0), (1, sy 1), (7, sy 2), (8, sy 3)] [(0, sy 0), (1, sy 1), (7, sy 2), (8, sy 6)] .normal (by kernel_rfl) (fun gb => by kernel_rfl))
@[reducible] def iyF_k (p : IdxP) (j : Nat) (hj : j < p.zs.length) (h1 : (p.x) = (p.zs.getD ((j)) 0)) : Ev.Kn := { val := iy_v p j hj, leaf := iy_l p j hj, bs := [(.lss, sy 3, sy 2, .bool true), (.eql, sy 1, sy 5, .bool true)], us := [], cs := [], ks := [], hb := (List.forall_mem_cons.2 ⟨(by intro t ox oy; exact Ev.bt_lss (by have q1 := p.hz; first | (simp; done) | (simp; omega))), (List.forall_mem_cons.2 ⟨(by intro t ox oy; exact Ev.bt_eql (by have q1 := p.hz; first | (simpa using h1) | (simp; omega))), (List.forall_mem_nil _)⟩)⟩), hu := (List.forall_mem_nil _), hc := (List.forall_mem_nil _), gs := [Ev.star (Ev.oldX p.W p.X :: [])], ops := [⟨[3, 45], [sy 0, sy 3], none, 0, none, sy 4, none⟩, ⟨[1, 3], [sy 4], none, 0, none, sy 5, none⟩], cls := [] }
theorem iyF_o (p : IdxP) (j : Nat) (hj : j < p.zs.length) (h1 : (p.x) = (p.zs.getD ((j)) 0)) : @Ev.CalOK (iyF_k p j hj h1).sig Try.prog := Ev.Kn.ok (iyF_k p j hj h1) (fun q hq => by cases hq) (List.forall_mem_cons.2 ⟨(by obtain ⟨i, i1, i2, i3, i4⟩ := infoInt; have q1 := p.hz; exact Ev.ro_index (ci := 0) (j := (j)) rfl rfl p.hs Try.underlying45 i1 i2 rfl rfl (by omega) rfl), (List.forall_mem_cons.2 ⟨(by have q1 := p.hz; exact Ev.ro_load (ci := 0) (m := (j) * 1) (x := .int .i64 (p.zs.getD ((j)) 0)) rfl rfl p.hs loadInt (by simp [List.getElem?_eq_getElem hj, List.getD_eq_getElem?_getD]) rfl rfl p.hX), (List.forall_mem_nil _)⟩)⟩) (List.forall_mem_nil _)
theorem iyF (p : IdxP) (j : Nat) (hj : j < p.zs.length) (h1 : (p.x) = (p.zs.getD ((j)) 0)) : Ev.Pie Try.prog 29 [4, 0] 0 4 19 p.c [(0, (p.sv)), (1, (.int .i64 (p.x))), (7, (.int .i64 ((p.zs.length : Nat) : Int))), (8, (.int .i64 ((j : Nat) : Int)))] [] .ret (fun κ : Ev.Ren => [(4, (.int .i64 ((j : Nat) : Int)))]) (fun κ : Ev.Ren => []) := (Ev.tri Try.codeOk mixed_ok (iyF_k p j hj h1) (iyF_o p j hj h1) (n := 200) (m := 100) (c := p.c) [] [] [] 0 0 [] [] rfl rfl [(0, sy 0), (1, sy 1), (7, sy 2), (8, sy 3)] [(4, sy 3)] .ret (by kernel_rfl) (fun gb => by kernel_rfl))
def iz_v (p : IdxP) : Nat → Value
  | 0 => p.sv
  | 1 => .int .i64 (p.x)
  | 2 => .int .i64 ((p.zs.length : Nat) : Int)
  | _ => .int .i64 0
theorem iz_l (p : IdxP) : ∀ j9, Ev.leafV (iz_v p j9) = true := by
  have q1 := p.hz; intro j9
  unfold iz_v
  split <;> first | rfl | assumption | exact p.hs.leaf | exact Ev.ptrR_leaf _ _
@[reducible] def izE_k (p : IdxP) : Ev.Kn := { val := iz_v p, leaf := iz_l p, bs := [(.lss, sy 2, sy 2, .bool false)], us := [], cs := [], ks := [], hb := (List.forall_mem_cons.2 ⟨(by intro t ox oy; exact Ev.bt_lss (by have q1 := p.hz; first | (simp; done) | (simp; omega))), (List.forall_mem_nil _)⟩), hu := (List.forall_mem_nil _), hc := (List.forall_mem_nil _), gs := [Ev.star (Ev.oldX p.W p.X :: [])], ops := [], cls := [] }
theorem izE_o (p : IdxP) : @Ev.CalOK (izE_k p).sig Try.prog := Ev.Kn.ok (izE_k p) (fun q hq => by cases hq) (List.forall_mem_nil _) (List.forall_mem_nil _)
theorem izE (p : IdxP) : Ev.Pie Try.prog 29 [4, 0] 0 4 19 p.c [(0, (p.sv)), (1, (.int .i64 (p.x))), (7, (.int .i64 ((p.zs.length : Nat) : Int))), (8, (.int .i64 ((p.zs.length : Nat) : Int)))] [] (.exit 0) (fun κ : Ev.Ren => []) (fun κ : Ev.Ren => []) := (Ev.tri Try.codeOk mixed_ok (izE_k p) (izE_o p) (n := 200) (m := 100) (c := p.c) [] [] [] 0 0 [] [] rfl rfl [(0, sy 0), (1, sy 1), (7, sy 2), (8, sy 2)] [] (.exit 0) (by kernel_rfl) (fun gb => by kernel_rfl))
end Go.Proofs.Ytjcibnfaijdgnaa

namespace Go.Proofs.Ytjcibnfaijdgnaa
open Go.RowKit
open Go.Ev (sy)
set_option linter.unusedVariables false
set_option linter.unusedSimpArgs false

def idxFrom : List Int → Int → Nat → Int
  | [], _, _ => -1
  | z :: l, x, k => if x = z then (k : Int) else idxFrom l x (k + 1)
theorem idxFrom_at : ∀ (zs : List Int) (x : Int) (k o : Nat), k < zs.length → x = zs.getD k 0 → (∀ j, j < k → ¬ x = zs.getD j 0) → idxFrom zs x o = ((o + k : Nat) : Int)
  | [], _, _, _, h, _, _ => absurd h (by simp)
  | z :: l, x, 0, o, h, e, _ => by
    have e' : x = z := by simpa using e
    unfold idxFrom
    rw [if_pos e']
    rfl
  | z :: l, x, k + 1, o, h, e, hn => by
    have h0 : ¬ x = z := by simpa using hn 0 (by omega)
    unfold idxFrom
    rw [if_neg h0, idxFrom_at l x k (o + 1) (by simpa using h) (by simpa using e) (fun j hj => by simpa using hn (j + 1) (by omega))]
    congr 1
    omega
theorem idxFrom_geq : ∀ (zs : List Int) (x : Int) (o : Nat), idxFrom zs x o ≥ 0 ↔ x ∈ zs
  | [], x, o => by simp [idxFrom]
  | z :: l, x, o => by
    unfold idxFrom
    by_cases h : x = z
    · rw [if_pos h]
      simp [h]
    · rw [if_neg h, idxFrom_geq l x (o + 1)]
      simp [h]
theorem idxFrom_none : ∀ (zs : List Int) (x : Int) (o : Nat), ¬ x ∈ zs → idxFrom zs x o = -1
  | [], _, _, _ => rfl
  | z :: l, x, o, h => by
    unfold idxFrom
    rw [if_neg (fun e => h (by simp [e])), idxFrom_none l x (o + 1) (fun e => h (by simp [e]))]
theorem not_mem_of {zs : List Int} {x : Int} (h : ∀ j, j < zs.length → ¬ x = zs.getD j 0) : ¬ x ∈ zs := by
  intro hx
  obtain ⟨j, hj, e⟩ := List.getElem_of_mem hx
  exact h j hj (by rw [List.getD_eq_getElem?_getD, List.getElem?_eq_getElem hj]; exact e.symm)
theorem index_ok (p : IdxP) (hX : ∀ j, ¬ p.X j) : Calls Try.prog 29 #[p.sv, .int .i64 p.x] p.W fun e w' => e = .returned (.int .i64 (idxFrom p.zs p.x 0)) ∧ Below p.W.heap.size p.W w' := by
  refine Ev.con_start (N := 19) (tm := [(0, p.sv), (1, .int .i64 p.x)]) (by kernel_rfl) (Ev.now_same (Ev.now_nil p.W) (fun j => ⟨fun h => h.elim, fun h => (hX j h).elim⟩)) (by simp) (by simp) (fun A h => ?_)
  refine ixA p A p.W _ h ?_
  intro κ A1 w1 h1
  refine Ev.in_block (id := 0) (by kernel_rfl) ?_
  refine Ev.loop_st (by kernel_rfl) (fun (k : Nat) A w => Ev.At p.c 19 [(0, p.sv), (1, .int .i64 p.x), (7, .int .i64 (p.zs.length : Int)), (8, .int .i64 (k : Int))] [] A w ∧ k ≤ p.zs.length ∧ ∀ j, j < k → ¬ p.x = p.zs.getD j 0) (fun k => p.zs.length - k) (x := 0) ⟨h1, Nat.zero_le _, fun j hj => absurd hj (Nat.not_lt_zero j)⟩ ?_
  rintro k A w ⟨h, hk, hno⟩
  by_cases hj : k < p.zs.length
  · by_cases hx : p.x = p.zs.getD k 0
    · refine iyF p k hj hx A w _ h ?_
      intro κ A1 w1 h1
      refine h1.ret (by kernel_rfl) (List.mem_singleton.2 rfl) (fun hh => ⟨?_, hh.below hX⟩)
      rw [idxFrom_at p.zs p.x k 0 hj hx hno, Nat.zero_add]
    · refine iyS p k hj hx A w _ h ?_
      intro κ A1 w1 h1
      exact Ev.wpL_nil (by kernel_rfl) ⟨k + 1, ⟨h1, by omega, fun j hj => by
        rcases Nat.lt_succ_iff_lt_or_eq.1 hj with hj | rfl
        · exact hno j hj
        · exact hx⟩, by omega⟩
  · obtain rfl : k = p.zs.length := by omega
    refine izE p A w _ h ?_
    intro κ A1 w1 h1
    refine ixL p A1 w1 _ (h1.to (fun q hq => by cases hq) id) ?_
    intro κ w2 h2
    refine ⟨?_, h2.below hX⟩
    rw [idxFrom_none p.zs p.x 0 (not_mem_of hno)]
theorem index_at (p : IdxP) {w : World} (ho : Ev.OldW p.W p.X w) : Calls Try.prog 29 [p.sv, .int .i64 p.x].toArray w fun e w' => e = .returned (.int .i64 (idxFrom p.zs p.x 0)) ∧ Below w.heap.size w w' :=
  index_ok ⟨w, fun _ => False, p.sv, p.zs, p.x, p.hs.old ho p.hX, Ev.offNone _, p.hz⟩ (fun _ h => h)
end Go.Proofs.Ytjcibnfaijdgnaa

namespace Go.Proofs.Ytjcibnfaijdgnaa
open Go.RowKit
open Go.Ev (sy)
set_option linter.unusedVariables false
set_option linter.unusedSimpArgs false

def co_v (p : IdxP) : Nat → Value
  | 0 => p.sv
  | 1 => .int .i64 (p.x)
  | 2 => .int .i64 (idxFrom p.zs p.x 0)
  | _ => .int .i64 0
theorem co_l (p : IdxP) : ∀ j9, Ev.leafV (co_v p j9) = true := by
  have q1 := p.hz; intro j9
  unfold co_v
  split <;> first | rfl | assumption | exact p.hs.leaf | exact Ev.ptrR_leaf _ _
@[reducible] def coY_k (p : IdxP) (h1 : (idxFrom p.zs p.x 0) ≥ 0) : Ev.Kn := { val := co_v p, leaf := co_l p, bs := [(.geq, sy 2, .int .i64 0, .bool true)], us := [], cs := [], ks := [], hb := (List.forall_mem_cons.2 ⟨(by intro t ox oy; exact Ev.bt_geq (by have q1 := p.hz; first | (simpa using h1) | (simp; omega))), (List.forall_mem_nil _)⟩), hu := (List.forall_mem_nil _), hc := (List.forall_mem_nil _), gs := [Ev.star (Ev.oldX p.W p.X :: [])], ops := [], cls := [⟨29, [sy 0, sy 1], 0, none, sy 2, none⟩] }
theorem coY_o (p : IdxP) (h1 : (idxFrom p.zs p.x 0) ≥ 0) : @Ev.CalOK (coY_k p h1).sig Try.prog := Ev.Kn.ok (coY_k p h1) (fun q hq => by cases hq) (List.forall_mem_nil _) (List.forall_mem_cons.2 ⟨(by exact Ev.ro_callR (ci := 0) rfl rfl (fun w hb => index_at p hb) (fun ι => Ev.symT rfl) (Ev.args_cons (Ev.isSym rfl) (Ev.args_cons (Ev.isSym rfl) Ev.args_nil))), (List.forall_mem_nil _)⟩)
theorem coY (p : IdxP) (h1 : (idxFrom p.zs p.x 0) ≥ 0) : Ev.PieE Try.prog 26 [] 0 9 p.c [(0, (p.sv)), (1, (.int .i64 (p.x)))] [] (fun κ : Ev.Ren => (.bool true)) (fun κ : Ev.Ren => []) := (Ev.triE Try.codeOk mixed_ok (coY_k p h1) (coY_o p h1) (n := 200) (m := 100) (kk := 3) (c := p.c) [] [] [] 0 0 [] [] rfl rfl [(0, sy 0), (1, sy 1)] (.bool true) (by kernel_rfl) (fun gb => by kernel_rfl))
@[reducible] def coN_k (p : IdxP) (h1 : ¬ (idxFrom p.zs p.x 0) ≥ 0) : Ev.Kn := { val := co_v p, leaf := co_l p, bs := [(.geq, sy 2, .int .i64 0, .bool false)], us := [], cs := [], ks := [], hb := (List.forall_mem_cons.2 ⟨(by intro t ox oy; exact Ev.bt_geq (by have q1 := p.hz; first | (simpa using h1) | (simp; omega))), (List.forall_mem_nil _)⟩), hu := (List.forall_mem_nil _), hc := (List.forall_mem_nil _), gs := [Ev.star (Ev.oldX p.W p.X :: [])], ops := [], cls := [⟨29, [sy 0, sy 1], 0, none, sy 2, none⟩] }
theorem coN_o (p : IdxP) (h1 : ¬ (idxFrom p.zs p.x 0) ≥ 0) : @Ev.CalOK (coN_k p h1).sig Try.prog := Ev.Kn.ok (coN_k p h1) (fun q hq => by cases hq) (List.forall_mem_nil _) (List.forall_mem_cons.2 ⟨(by exact Ev.ro_callR (ci := 0) rfl rfl (fun w hb => index_at p hb) (fun ι => Ev.symT rfl) (Ev.args_cons (Ev.isSym rfl) (Ev.args_cons (Ev.isSym rfl) Ev.args_nil))), (List.forall_mem_nil _)⟩)
theorem coN (p : IdxP) (h1 : ¬ (idxFrom p.zs p.x 0) ≥ 0) : Ev.PieE Try.prog 26 [] 0 9 p.c [(0, (p.sv)), (1, (.int .i64 (p.x)))] [] (fun κ : Ev.Ren => (.bool false)) (fun κ : Ev.Ren => []) := (Ev.triE Try.codeOk mixed_ok (coN_k p h1) (coN_o p h1) (n := 200) (m := 100) (kk := 3) (c := p.c) [] [] [] 0 0 [] [] rfl rfl [(0, sy 0), (1, sy 1)] (.bool false) (by kernel_rfl) (fun gb => by kernel_rfl))
end Go.Proofs.Ytjcibnfaijdgnaa

namespace Go.Proofs.Ytjcibnfaijdgnaa
open Go.RowKit
open Go.Ev (sy)
set_option linter.unusedVariables false
set_option linter.unusedSimpArgs false

theorem contains_ok (p : IdxP) (hX : ∀ j, ¬ p.X j) : Calls Try.prog 26 #[p.sv, .int .i64 p.x] p.W fun e w' => e = .returned (.bool (decide (p.x ∈ p.zs))) ∧ Below p.W.heap.size p.W w' := by
  refine Ev.con_start (N := 9) (tm := [(0, p.sv), (1, .int .i64 p.x)]) (by kernel_rfl) (Ev.now_same (Ev.now_nil p.W) (fun j => ⟨fun h => h.elim, fun h => (hX j h).elim⟩)) (by simp) (by simp) (fun A h => ?_)
  by_cases hx : p.x ∈ p.zs
  · refine coY p ((idxFrom_geq p.zs p.x 0).2 hx) A p.W _ h ?_
    intro κ w1 h1
    exact ⟨by simp [hx], h1.below hX⟩
  · refine coN p (fun h => hx ((idxFrom_geq p.zs p.x 0).1 h)) A p.W _ h ?_
    intro κ w1 h1
    exact ⟨by simp [hx], h1.below hX⟩
theorem contains_at (p : IdxP) {w : World} (ho : Ev.OldW p.W p.X w) : Calls Try.prog 26 [p.sv, .int .i64 p.x].toArray w fun e w' => e = .returned (.bool (decide (p.x ∈ p.zs))) ∧ Below w.heap.size w w' :=
  contains_ok ⟨w, fun _ => False, p.sv, p.zs, p.x, p.hs.old ho p.hX, Ev.offNone _, p.hz⟩ (fun _ h => h)
end Go.Proofs.Ytjcibnfaijdgnaa

namespace Go.Proofs.Ytjcibnfaijdgnaa
open Go.RowKit
open Go.Ev (sy)
set_option linter.unusedVariables false
set_option linter.unusedSimpArgs false
structure ShP where
  W : World
  X : Nat → Prop
  b4 : Nat
  ww : Int
  ll : Int
  mon : Int
  kind : Int
  am : Int
  ns : Int
  gg : Int
  al : Value
  act : Value
  sn : Value
  ls : Value
  br : Nat
  n : Nat
  f : Int → Option Int
  lal : Ev.leafV al = true
  lac : Ev.leafV act = true
  lsn : Ev.leafV sn = true
  lls : Ev.leafV ls = true
  hw : Ev.wfI gg
  hn : n + 2 < maxLen
  hv1 : 0 ≤ (f gg).getD 0
  hv2 : (f gg).getD 0 < 1000000
abbrev ShP.c (p : ShP) : Ev.Ctx := ⟨p.W, p.X⟩

def shNT_v (p : ShP) : Nat → Value
  | 0 => .int .i64 (p.kind)
  | 1 => .int .i64 (p.am)
  | 2 => .int .i64 (p.ns)
  | 3 => p.act
  | 4 => .int .i64 (p.gg)
  | 5 => .int .i64 (p.ww)
  | 6 => .int .i64 (p.ll)
  | 7 => p.al
  | 8 => .map (some p.br)
  | 9 => p.sn
  | 10 => p.ls
  | 11 => .int .i64 (p.mon)
  | _ => .int .i64 0
theorem shNT_l (p : ShP) : ∀ j9, Ev.leafV (shNT_v p j9) = true := by
  have q1 := p.hn; have q2 := p.hv1; have q3 := p.hv2; have q4 := p.hw; intro j9
  unfold shNT_v
  split <;> first | rfl | assumption | exact p.lal | exact p.lac | exact p.lsn | exact p.lls
@[reducible] def shNT_k (p : ShP) (h1 : (p.gg) = (-1)) : Ev.Kn := { val := shNT_v p, leaf := shNT_l p, bs := [(.eql, sy 4, .int .i64 (-1), .bool true)], us := [], cs := [], ks := [], hb := (List.forall_mem_cons.2 ⟨(by intro t ox oy; exact Ev.bt_eql (by have q1 := p.hn; have q2 := p.hv1; have q3 := p.hv2; have q4 := p.hw; first | (simpa using h1) | (simp; omega))), (List.forall_mem_nil _)⟩), hu := (List.forall_mem_nil _), hc := (List.forall_mem_nil _), gs := [Ev.star (Ev.oldX p.W p.X :: [Ev.mapA Try.prog 3 3 (p.br) (p.n) (p.f)])], ops := [], cls := [] }
theorem shNT_o (p : ShP) (h1 : (p.gg) = (-1)) : @Ev.CalOK (shNT_k p h1).sig Try.prog := Ev.Kn.ok (shNT_k p h1) (fun q hq => by cases hq) (List.forall_mem_nil _) (List.forall_mem_nil _)
theorem shNT (p : ShP) (h1 : (p.gg) = (-1)) : Ev.PieE Try.prog 27 [] 0 36 p.c [(0, (.pointer (some ⟨p.b4, 0, none⟩))), (1, (.agg #[(.int .i64 (p.kind)), (.int .i64 (p.am)), (.int .i64 (p.ns)), (p.act), (.int .i64 (p.gg)), (.bool true)]))] [Ev.blkA p.b4 [(.int .i64 (p.ww)), (.int .i64 (p.ll)), (p.al), (.map (some p.br)), (p.sn), (p.ls), (.int .i64 (p.mon))] 51, Ev.mapA Try.prog 3 3 (p.br) (p.n) (p.f)] (fun κ : Ev.Ren => (.bool true)) (fun κ : Ev.Ren => [Ev.blkA p.b4 [(.int .i64 (p.ww)), (.int .i64 (p.ll)), (p.al), (.map (some p.br)), (p.sn), (p.ls), (.int .i64 (p.mon))] 51, Ev.mapA Try.prog 3 3 (p.br) (p.n) (p.f)]) := (Ev.triE Try.codeOk mixed_ok (shNT_k p h1) (shNT_o p h1) (n := 200) (m := 100) (kk := 8) (c := p.c) [(4, p.b4)] [(4, [sy 5, sy 6, sy 7, sy 8, sy 9, sy 10, sy 11], 51)] [(4, [sy 5, sy 6, sy 7, sy 8, sy 9, sy 10, sy 11], 51)] 0 0 [Ev.mapA Try.prog 3 3 (p.br) (p.n) (p.f)] [Ev.mapA Try.prog 3 3 (p.br) (p.n) (p.f)] rfl rfl [(0, .pointer (some ⟨4, 0, none⟩)), (1, .agg #[sy 0, sy 1, sy 2, sy 3, sy 4, .bool true])] (.bool true) (by kernel_rfl) (fun gb => by kernel_rfl))
def shNF_v (p : ShP) : Nat → Value
  | 0 => .int .i64 (p.kind)
  | 1 => .int .i64 (p.am)
  | 2 => .int .i64 (p.ns)
  | 3 => p.act
  | 4 => .int .i64 (p.gg)
  | 5 => .int .i64 (p.ww)
  | 6 => .int .i64 (p.ll)
  | 7 => p.al
  | 8 => .map (some p.br)
  | 9 => p.sn
  | 10 => p.ls
  | 11 => .int .i64 (p.mon)
  | _ => .int .i64 0
theorem shNF_l (p : ShP) : ∀ j9, Ev.leafV (shNF_v p j9) = true := by
  have q1 := p.hn; have q2 := p.hv1; have q3 := p.hv2; have q4 := p.hw; intro j9
  unfold shNF_v
  split <;> first | rfl | assumption | exact p.lal | exact p.lac | exact p.lsn | exact p.lls
@[reducible] def shNF_k (p : ShP) (h1 : (p.gg) = (-1)) : Ev.Kn := { val := shNF_v p, leaf := shNF_l p, bs := [(.eql, sy 4, .int .i64 (-1), .bool true)], us := [], cs := [], ks := [], hb := (List.forall_mem_cons.2 ⟨(by intro t ox oy; exact Ev.bt_eql (by have q1 := p.hn; have q2 := p.hv1; have q3 := p.hv2; have q4 := p.hw; first | (simpa using h1) | (simp; omega))), (List.forall_mem_nil _)⟩), hu := (List.forall_mem_nil _), hc := (List.forall_mem_nil _), gs := [Ev.star (Ev.oldX p.W p.X :: [Ev.mapA Try.prog 3 3 (p.br) (p.n) (p.f)])], ops := [], cls := [] }
theorem shNF_o (p : ShP) (h1 : (p.gg) = (-1)) : @Ev.CalOK (shNF_k p h1).sig Try.prog := Ev.Kn.ok (shNF_k p h1) (fun q hq => by cases hq) (List.forall_mem_nil _) (List.forall_mem_nil _)
theorem shNF (p : ShP) (h1 : (p.gg) = (-1)) : Ev.PieE Try.prog 27 [] 0 36 p.c [(0, (.pointer (some ⟨p.b4, 0, none⟩))), (1, (.agg #[(.int .i64 (p.kind)), (.int .i64 (p.am)), (.int .i64 (p.ns)), (p.act), (.int .i64 (p.gg)), (.bool false)]))] [Ev.blkA p.b4 [(.int .i64 (p.ww)), (.int .i64 (p.ll)), (p.al), (.map (some p.br)), (p.sn), (p.ls), (.int .i64 (p.mon))] 51, Ev.mapA Try.prog 3 3 (p.br) (p.n) (p.f)] (fun κ : Ev.Ren => (.bool true)) (fun κ : Ev.Ren => [Ev.blkA p.b4 [(.int .i64 (p.ww)), (.int .i64 (p.ll)), (p.al), (.map (some p.br)), (p.sn), (p.ls), (.int .i64 (p.mon))] 51, Ev.mapA Try.prog 3 3 (p.br) (p.n) (p.f)]) := (Ev.triE Try.codeOk mixed_ok (shNF_k p h1) (shNF_o p h1) (n := 200) (m := 100) (kk := 8) (c := p.c) [(4, p.b4)] [(4, [sy 5, sy 6, sy 7, sy 8, sy 9, sy 10, sy 11], 51)] [(4, [sy 5, sy 6, sy 7, sy 8, sy 9, sy 10, sy 11], 51)] 0 0 [Ev.mapA Try.prog 3 3 (p.br) (p.n) (p.f)] [Ev.mapA Try.prog 3 3 (p.br) (p.n) (p.f)] rfl rfl [(0, .pointer (some ⟨4, 0, none⟩)), (1, .agg #[sy 0, sy 1, sy 2, sy 3, sy 4, .bool false])] (.bool true) (by kernel_rfl) (fun gb => by kernel_rfl))
def shTY_v (p : ShP) : Nat → Value
  | 0 => .int .i64 (p.kind)
  | 1 => .int .i64 (p.am)
  | 2 => .int .i64 (p.ns)
  | 3 => p.act
  | 4 => .int .i64 (p.gg)
  | 5 => .int .i64 (p.ww)
  | 6 => .int .i64 (p.ll)
  | 7 => p.al
  | 8 => .map (some p.br)
  | 9 => p.sn
  | 10 => p.ls
  | 11 => .int .i64 (p.mon)
  | 12 => .int .i64 ((p.f (p.gg)).getD 0)
  | 13 => .int .i64 (((p.f (p.gg)).getD 0) + 1)
  | 14 => .int .i64 (((Ev.upd (Ev.upd (p.f) (p.gg) (some (((p.f (p.gg)).getD 0) + 1))) (p.gg) (some 0)) (p.gg)).getD 0)
  | _ => .int .i64 0
theorem shTY_l (p : ShP) : ∀ j9, Ev.leafV (shTY_v p j9) = true := by
  have q1 := p.hn; have q2 := p.hv1; have q3 := p.hv2; have q4 := p.hw; intro j9
  unfold shTY_v
  split <;> first | rfl | assumption | exact p.lal | exact p.lac | exact p.lsn | exact p.lls
@[reducible] def shTY_k (p : ShP) (h1 : ¬ (p.gg) = (-1)) (h2 : (((Ev.upd (Ev.upd (p.f) (p.gg) (some (((p.f (p.gg)).getD 0) + 1))) (p.gg) (some 0)) (p.gg)).getD 0) ≤ (p.ll)) : Ev.Kn := { val := shTY_v p, leaf := shTY_l p, bs := [(.eql, sy 4, .int .i64 (-1), .bool false), (.add, sy 12, .int .i64 1, sy 13), (.leq, sy 14, sy 6, .bool true)], us := [], cs := [], ks := [], hb := (List.forall_mem_cons.2 ⟨(by intro t ox oy; exact Ev.bt_eql (by have q1 := p.hn; have q2 := p.hv1; have q3 := p.hv2; have q4 := p.hw; first | (simpa using h1) | (simp; omega))), (List.forall_mem_cons.2 ⟨(by intro t ox oy; exact Ev.bt_add (by have q1 := p.hn; have q2 := p.hv1; have q3 := p.hv2; have q4 := p.hw; exact wrap_ok (by omega) (by omega))), (List.forall_mem_cons.2 ⟨(by intro t ox oy; exact Ev.bt_leq (by have q1 := p.hn; have q2 := p.hv1; have q3 := p.hv2; have q4 := p.hw; first | (simpa using h2) | (simp; omega))), (List.forall_mem_nil _)⟩)⟩)⟩), hu := (List.forall_mem_nil _), hc := (List.forall_mem_nil _), gs := [Ev.star (Ev.oldX p.W p.X :: [Ev.mapA Try.prog 3 3 (p.br) (p.n) (p.f)]), Ev.star (Ev.oldX p.W p.X :: [Ev.mapA Try.prog 3 3 (p.br) (p.n + 1) (Ev.upd (p.f) (p.gg) (some (((p.f (p.gg)).getD 0) + 1)))]), Ev.star (Ev.oldX p.W p.X :: [Ev.mapA Try.prog 3 3 (p.br) (p.n + 1 + 1) (Ev.upd (Ev.upd (p.f) (p.gg) (some (((p.f (p.gg)).getD 0) + 1))) (p.gg) (some 0))])], ops := [⟨[5, 49, 0], [sy 8, sy 4], none, 0, none, sy 12, none⟩, ⟨[6, 49], [sy 8, sy 4, sy 13], none, 0, none, undef, some 1⟩, ⟨[6, 49], [sy 8, sy 4, .int .i64 0], none, 1, none, undef, some 2⟩, ⟨[5, 49, 0], [sy 8, sy 4], none, 2, none, sy 14, none⟩], cls := [] }
theorem shTY_o (p : ShP) (h1 : ¬ (p.gg) = (-1)) (h2 : (((Ev.upd (Ev.upd (p.f) (p.gg) (some (((p.f (p.gg)).getD 0) + 1))) (p.gg) (some 0)) (p.gg)).getD 0) ≤ (p.ll)) : @Ev.CalOK (shTY_k p h1 h2).sig Try.prog := Ev.Kn.ok (shTY_k p h1 h2) (fun q hq => by cases hq) (List.forall_mem_cons.2 ⟨(by have q1 := p.hn; have q2 := p.hv1; have q3 := p.hv2; have q4 := p.hw; exact Ev.map_look mapI (ci := 1) rfl rfl rfl rfl (by first | assumption | exact wfI_of (by omega) (by omega)) rfl), (List.forall_mem_cons.2 ⟨(by have q1 := p.hn; have q2 := p.hv1; have q3 := p.hv2; have q4 := p.hw; exact Ev.map_put mapI (ci := 1) (x := (((p.f (p.gg)).getD 0) + 1)) rfl rfl rfl rfl rfl (by first | assumption | exact wfI_of (by omega) (by omega)) (by omega) (fun ι y h => Ev.vsymK mapI h) (by first | assumption | exact wfI_of (by omega) (by omega))), (List.forall_mem_cons.2 ⟨(by have q1 := p.hn; have q2 := p.hv1; have q3 := p.hv2; have q4 := p.hw; exact Ev.map_put mapI (ci := 1) (x := 0) rfl rfl rfl rfl rfl (by first | assumption | exact wfI_of (by omega) (by omega)) (by omega) (fun ι y h => Ev.vintK mapI h) (by first | assumption | exact wfI_of (by omega) (by omega))), (List.forall_mem_cons.2 ⟨(by have q1 := p.hn; have q2 := p.hv1; have q3 := p.hv2; have q4 := p.hw; exact Ev.map_look mapI (ci := 1) rfl rfl rfl rfl (by first | assumption | exact wfI_of (by omega) (by omega)) rfl), (List.forall_mem_nil _)⟩)⟩)⟩)⟩) (List.forall_mem_nil _)
theorem shTY (p : ShP) (h1 : ¬ (p.gg) = (-1)) (h2 : (((Ev.upd (Ev.upd (p.f) (p.gg) (some (((p.f (p.gg)).getD 0) + 1))) (p.gg) (some 0)) (p.gg)).getD 0) ≤ (p.ll)) : Ev.PieE Try.prog 27 [] 0 36 p.c [(0, (.pointer (some ⟨p.b4, 0, none⟩))), (1, (.agg #[(.int .i64 (p.kind)), (.int .i64 (p.am)), (.int .i64 (p.ns)), (p.act), (.int .i64 (p.gg)), (.bool true)]))] [Ev.blkA p.b4 [(.int .i64 (p.ww)), (.int .i64 (p.ll)), (p.al), (.map (some p.br)), (p.sn), (p.ls), (.int .i64 (p.mon))] 51, Ev.mapA Try.prog 3 3 (p.br) (p.n) (p.f)] (fun κ : Ev.Ren => (.bool true)) (fun κ : Ev.Ren => [Ev.blkA p.b4 [(.int .i64 (p.ww)), (.int .i64 (p.ll)), (p.al), (.map (some p.br)), (p.sn), (p.ls), (.int .i64 (p.mon))] 51, Ev.mapA Try.prog 3 3 (p.br) (p.n + 1 + 1) (Ev.upd (Ev.upd (p.f) (p.gg) (some (((p.f (p.gg)).getD 0) + 1))) (p.gg) (some 0))]) := (Ev.triE Try.codeOk mixed_ok (shTY_k p h1 h2) (shTY_o p h1 h2) (n := 200) (m := 100) (kk := 8) (c := p.c) [(4, p.b4)] [(4, [sy 5, sy 6, sy 7, sy 8, sy 9, sy 10, sy 11], 51)] [(4, [sy 5, sy 6, sy 7, sy 8, sy 9, sy 10, sy 11], 51)] 0 2 [Ev.mapA Try.prog 3 3 (p.br) (p.n) (p.f)] [Ev.mapA Try.prog 3 3 (p.br) (p.n + 1 + 1) (Ev.upd (Ev.upd (p.f) (p.gg) (some (((p.f (p.gg)).getD 0) + 1))) (p.gg) (some 0))] rfl rfl [(0, .pointer (some ⟨4, 0, none⟩)), (1, .agg #[sy 0, sy 1, sy 2, sy 3, sy 4, .bool true])] (.bool true) (by kernel_rfl) (fun gb => by kernel_rfl))
def shTN_v (p : ShP) : Nat → Value
  | 0 => .int .i64 (p.kind)
  | 1 => .int .i64 (p.am)
  | 2 => .int .i64 (p.ns)
  | 3 => p.act
  | 4 => .int .i64 (p.gg)
  | 5 => .int .i64 (p.ww)
  | 6 => .int .i64 (p.ll)
  | 7 => p.al
  | 8 => .map (some p.br)
  | 9 => p.sn
  | 10 => p.ls
  | 11 => .int .i64 (p.mon)
  | 12 => .int .i64 ((p.f (p.gg)).getD 0)
  | 13 => .int .i64 (((p.f (p.gg)).getD 0) + 1)
  | 14 => .int .i64 (((Ev.upd (Ev.upd (p.f) (p.gg) (some (((p.f (p.gg)).getD 0) + 1))) (p.gg) (some 0)) (p.gg)).getD 0)
  | _ => .int .i64 0
theorem shTN_l (p : ShP) : ∀ j9, Ev.leafV (shTN_v p j9) = true := by
  have q1 := p.hn; have q2 := p.hv1; have q3 := p.hv2; have q4 := p.hw; intro j9
  unfold shTN_v
  split <;> first | rfl | assumption | exact p.lal | exact p.lac | exact p.lsn | exact p.lls
@[reducible] def shTN_k (p : ShP) (h1 : ¬ (p.gg) = (-1)) (h2 : ¬ (((Ev.upd (Ev.upd (p.f) (p.gg) (some (((p.f (p.gg)).getD 0) + 1))) (p.gg) (some 0)) (p.gg)).getD 0) ≤ (p.ll)) : Ev.Kn := { val := shTN_v p, leaf := shTN_l p, bs := [(.eql, sy 4, .int .i64 (-1), .bool false), (.add, sy 12, .int .i64 1, sy 13), (.leq, sy 14, sy 6, .bool false)], us := [], cs := [], ks := [], hb := (List.forall_mem_cons.2 ⟨(by intro t ox oy; exact Ev.bt_eql (by have q1 := p.hn; have q2 := p.hv1; have q3 := p.hv2; have q4 := p.hw; first | (simpa using h1) | (simp; omega))), (List.forall_mem_cons.2 ⟨(by intro t ox oy; exact Ev.bt_add (by have q1 := p.hn; have q2 := p.hv1; have q3 := p.hv2; have q4 := p.hw; exact wrap_ok (by omega) (by omega))), (List.forall_mem_cons.2 ⟨(by intro t ox oy; exact Ev.bt_leq (by have q1 := p.hn; have q2 := p.hv1; have q3 := p.hv2; have q4 := p.hw; first | (simpa using h2) | (simp; omega))), (List.forall_mem_nil _)⟩)⟩)⟩), hu := (List.forall_mem_nil _), hc := (List.forall_mem_nil _), gs := [Ev.star (Ev.oldX p.W p.X :: [Ev.mapA Try.prog 3 3 (p.br) (p.n) (p.f)]), Ev.star (Ev.oldX p.W p.X :: [Ev.mapA Try.prog 3 3 (p.br) (p.n + 1) (Ev.upd (p.f) (p.gg) (some (((p.f (p.gg)).getD 0) + 1)))]), Ev.star (Ev.oldX p.W p.X :: [Ev.mapA Try.prog 3 3 (p.br) (p.n + 1 + 1) (Ev.upd (Ev.upd (p.f) (p.gg) (some (((p.f (p.gg)).getD 0) + 1))) (p.gg) (some 0))])], ops := [⟨[5, 49, 0], [sy 8, sy 4], none, 0, none, sy 12, none⟩, ⟨[6, 49], [sy 8, sy 4, sy 13], none, 0, none, undef, some 1⟩, ⟨[6, 49], [sy 8, sy 4, .int .i64 0], none, 1, none, undef, some 2⟩, ⟨[5, 49, 0], [sy 8, sy 4], none, 2, none, sy 14, none⟩], cls := [] }
theorem shTN_o (p : ShP) (h1 : ¬ (p.gg) = (-1)) (h2 : ¬ (((Ev.upd (Ev.upd (p.f) (p.gg) (some (((p.f (p.gg)).getD 0) + 1))) (p.gg) (some 0)) (p.gg)).getD 0) ≤ (p.ll)) : @Ev.CalOK (shTN_k p h1 h2).sig Try.prog := Ev.Kn.ok (shTN_k p h1 h2) (fun q hq => by cases hq) (List.forall_mem_cons.2 ⟨(by have q1 := p.hn; have q2 := p.hv1; have q3 := p.hv2; have q4 := p.hw; exact Ev.map_look mapI (ci := 1) rfl rfl rfl rfl (by first | assumption | exact wfI_of (by omega) (by omega)) rfl), (List.forall_mem_cons.2 ⟨(by have q1 := p.hn; have q2 := p.hv1; have q3 := p.hv2; have q4 := p.hw; exact Ev.map_put mapI (ci := 1) (x := (((p.f (p.gg)).getD 0) + 1)) rfl rfl rfl rfl rfl (by first | assumption | exact wfI_of (by omega) (by omega)) (by omega) (fun ι y h => Ev.vsymK mapI h) (by first | assumption | exact wfI_of (by omega) (by omega))), (List.forall_mem_cons.2 ⟨(by have q1 := p.hn; have q2 := p.hv1; have q3 := p.hv2; have q4 := p.hw; exact Ev.map_put mapI (ci := 1) (x := 0) rfl rfl rfl rfl rfl (by first | assumption | exact wfI_of (by omega) (by omega)) (by omega) (fun ι y h => Ev.vintK mapI h) (by first | assumption | exact wfI_of (by omega) (by omega))), (List.forall_mem_cons.2 ⟨(by have q1 := p.hn; have q2 := p.hv1; have q3 := p.hv2; have q4 := p.hw; exact Ev.map_look mapI (ci := 1) rfl rfl rfl rfl (by first | assumption | exact wfI_of (by omega) (by omega)) rfl), (List.forall_mem_nil _)⟩)⟩)⟩)⟩) (List.forall_mem_nil _)
theorem shTN (p : ShP) (h1 : ¬ (p.gg) = (-1)) (h2 : ¬ (((Ev.upd (Ev.upd (p.f) (p.gg) (some (((p.f (p.gg)).getD 0) + 1))) (p.gg) (some 0)) (p.gg)).getD 0) ≤ (p.ll)) : Ev.PieE Try.prog 27 [] 0 36 p.c [(0, (.pointer (some ⟨p.b4, 0, none⟩))), (1, (.agg #[(.int .i64 (p.kind)), (.int .i64 (p.am)), (.int .i64 (p.ns)), (p.act), (.int .i64 (p.gg)), (.bool true)]))] [Ev.blkA p.b4 [(.int .i64 (p.ww)), (.int .i64 (p.ll)), (p.al), (.map (some p.br)), (p.sn), (p.ls), (.int .i64 (p.mon))] 51, Ev.mapA Try.prog 3 3 (p.br) (p.n) (p.f)] (fun κ : Ev.Ren => (.bool false)) (fun κ : Ev.Ren => [Ev.blkA p.b4 [(.int .i64 (p.ww)), (.int .i64 (p.ll)), (p.al), (.map (some p.br)), (p.sn), (p.ls), (.int .i64 (p.mon))] 51, Ev.mapA Try.prog 3 3 (p.br) (p.n + 1 + 1) (Ev.upd (Ev.upd (p.f) (p.gg) (some (((p.f (p.gg)).getD 0) + 1))) (p.gg) (some 0))]) := (Ev.triE Try.codeOk mixed_ok (shTN_k p h1 h2) (shTN_o p h1 h2) (n := 200) (m := 100) (kk := 8) (c := p.c) [(4, p.b4)] [(4, [sy 5, sy 6, sy 7, sy 8, sy 9, sy 10, sy 11], 51)] [(4, [sy 5, sy 6, sy 7, sy 8, sy 9, sy 10, sy 11], 51)] 0 2 [Ev.mapA Try.prog 3 3 (p.br) (p.n) (p.f)] [Ev.mapA Try.prog 3 3 (p.br) (p.n + 1 + 1) (Ev.upd (Ev.upd (p.f) (p.gg) (some (((p.f (p.gg)).getD 0) + 1))) (p.gg) (some 0))] rfl rfl [(0, .pointer (some ⟨4, 0, none⟩)), (1, .agg #[sy 0, sy 1, sy 2, sy 3, sy 4, .bool true])] (.bool false) (by kernel_rfl) (fun gb => by kernel_rfl))
def shFY_v (p : ShP) : Nat → Value
  | 0 => .int .i64 (p.kind)
  | 1 => .int .i64 (p.am)
  | 2 => .int .i64 (p.ns)
  | 3 => p.act
  | 4 => .int .i64 (p.gg)
  | 5 => .int .i64 (p.ww)
  | 6 => .int .i64 (p.ll)
  | 7 => p.al
  | 8 => .map (some p.br)
  | 9 => p.sn
  | 10 => p.ls
  | 11 => .int .i64 (p.mon)
  | 12 => .int .i64 ((p.f (p.gg)).getD 0)
  | 13 => .int .i64 (((p.f (p.gg)).getD 0) + 1)
  | 14 => .int .i64 (((Ev.upd (p.f) (p.gg) (some (((p.f (p.gg)).getD 0) + 1))) (p.gg)).getD 0)
  | _ => .int .i64 0
theorem shFY_l (p : ShP) : ∀ j9, Ev.leafV (shFY_v p j9) = true := by
  have q1 := p.hn; have q2 := p.hv1; have q3 := p.hv2; have q4 := p.hw; intro j9
  unfold shFY_v
  split <;> first | rfl | assumption | exact p.lal | exact p.lac | exact p.lsn | exact p.lls
@[reducible] def shFY_k (p : ShP) (h1 : ¬ (p.gg) = (-1)) (h2 : (((Ev.upd (p.f) (p.gg) (some (((p.f (p.gg)).getD 0) + 1))) (p.gg)).getD 0) ≤ (p.ll)) : Ev.Kn := { val := shFY_v p, leaf := shFY_l p, bs := [(.eql, sy 4, .int .i64 (-1), .bool false), (.add, sy 12, .int .i64 1, sy 13), (.leq, sy 14, sy 6, .bool true)], us := [], cs := [], ks := [], hb := (List.forall_mem_cons.2 ⟨(by intro t ox oy; exact Ev.bt_eql (by have q1 := p.hn; have q2 := p.hv1; have q3 := p.hv2; have q4 := p.hw; first | (simpa using h1) | (simp; omega))), (List.forall_mem_cons.2 ⟨(by intro t ox oy; exact Ev.bt_add (by have q1 := p.hn; have q2 := p.hv1; have q3 := p.hv2; have q4 := p.hw; exact wrap_ok (by omega) (by omega))), (List.forall_mem_cons.2 ⟨(by intro t ox oy; exact Ev.bt_leq (by have q1 := p.hn; have q2 := p.hv1; have q3 := p.hv2; have q4 := p.hw; first | (simpa using h2) | (simp; omega))), (List.forall_mem_nil _)⟩)⟩)⟩), hu := (List.forall_mem_nil _), hc := (List.forall_mem_nil _), gs := [Ev.star (Ev.oldX p.W p.X :: [Ev.mapA Try.prog 3 3 (p.br) (p.n) (p.f)]), Ev.star (Ev.oldX p.W p.X :: [Ev.mapA Try.prog 3 3 (p.br) (p.n + 1) (Ev.upd (p.f) (p.gg) (some (((p.f (p.gg)).getD 0) + 1)))])], ops := [⟨[5, 49, 0], [sy 8, sy 4], none, 0, none, sy 12, none⟩, ⟨[6, 49], [sy 8, sy 4, sy 13], none, 0, none, undef, some 1⟩, ⟨[5, 49, 0], [sy 8, sy 4], none, 1, none, sy 14, none⟩], cls := [] }
theorem shFY_o (p : ShP) (h1 : ¬ (p.gg) = (-1)) (h2 : (((Ev.upd (p.f) (p.gg) (some (((p.f (p.gg)).getD 0) + 1))) (p.gg)).getD 0) ≤ (p.ll)) : @Ev.CalOK (shFY_k p h1 h2).sig Try.prog := Ev.Kn.ok (shFY_k p h1 h2) (fun q hq => by cases hq) (List.forall_mem_cons.2 ⟨(by have q1 := p.hn; have q2 := p.hv1; have q3 := p.hv2; have q4 := p.hw; exact Ev.map_look mapI (ci := 1) rfl rfl rfl rfl (by first | assumption | exact wfI_of (by omega) (by omega)) rfl), (List.forall_mem_cons.2 ⟨(by have q1 := p.hn; have q2 := p.hv1; have q3 := p.hv2; have q4 := p.hw; exact Ev.map_put mapI (ci := 1) (x := (((p.f (p.gg)).getD 0) + 1)) rfl rfl rfl rfl rfl (by first | assumption | exact wfI_of (by omega) (by omega)) (by omega) (fun ι y h => Ev.vsymK mapI h) (by first | assumption | exact wfI_of (by omega) (by omega))), (List.forall_mem_cons.2 ⟨(by have q1 := p.hn; have q2 := p.hv1; have q3 := p.hv2; have q4 := p.hw; exact Ev.map_look mapI (ci := 1) rfl rfl rfl rfl (by first | assumption | exact wfI_of (by omega) (by omega)) rfl), (List.forall_mem_nil _)⟩)⟩)⟩) (List.forall_mem_nil _)
theorem shFY (p : ShP) (h1 : ¬ (p.gg) = (-1)) (h2 : (((Ev.upd (p.f) (p.gg) (some (((p.f (p.gg)).getD 0) + 1))) (p.gg)).getD 0) ≤ (p.ll)) : Ev.PieE Try.prog 27 [] 0 36 p.c [(0, (.pointer (some ⟨p.b4, 0, none⟩))), (1, (.agg #[(.int .i64 (p.kind)), (.int .i64 (p.am)), (.int .i64 (p.ns)), (p.act), (.int .i64 (p.gg)), (.bool false)]))] [Ev.blkA p.b4 [(.int .i64 (p.ww)), (.int .i64 (p.ll)), (p.al), (.map (some p.br)), (p.sn), (p.ls), (.int .i64 (p.mon))] 51, Ev.mapA Try.prog 3 3 (p.br) (p.n) (p.f)] (fun κ : Ev.Ren => (.bool true)) (fun κ : Ev.Ren => [Ev.blkA p.b4 [(.int .i64 (p.ww)), (.int .i64 (p.ll)), (p.al), (.map (some p.br)), (p.sn), (p.ls), (.int .i64 (p.mon))] 51, Ev.mapA Try.prog 3 3 (p.br) (p.n + 1) (Ev.upd (p.f) (p.gg) (some (((p.f (p.gg)).getD 0) + 1)))]) := (Ev.triE Try.codeOk mixed_ok (shFY_k p h1 h2) (shFY_o p h1 h2) (n := 200) (m := 100) (kk := 8) (c := p.c) [(4, p.b4)] [(4, [sy 5, sy 6, sy 7, sy 8, sy 9, sy 10, sy 11], 51)] [(4, [sy 5, sy 6, sy 7, sy 8, sy 9, sy 10, sy 11], 51)] 0 1 [Ev.mapA Try.prog 3 3 (p.br) (p.n) (p.f)] [Ev.mapA Try.prog 3 3 (p.br) (p.n + 1) (Ev.upd (p.f) (p.gg) (some (((p.f (p.gg)).getD 0) + 1)))] rfl rfl [(0, .pointer (some ⟨4, 0, none⟩)), (1, .agg #[sy 0, sy 1, sy 2, sy 3, sy 4, .bool false])] (.bool true) (by kernel_rfl) (fun gb => by kernel_rfl))
def shFN_v (p : ShP) : Nat → Value
  | 0 => .int .i64 (p.kind)
  | 1 => .int .i64 (p.am)
  | 2 => .int .i64 (p.ns)
  | 3 => p.act
  | 4 => .int .i64 (p.gg)
  | 5 => .int .i64 (p.ww)
  | 6 => .int .i64 (p.ll)
  | 7 => p.al
  | 8 => .map (some p.br)
  | 9 => p.sn
  | 10 => p.ls
  | 11 => .int .i64 (p.mon)
  | 12 => .int .i64 ((p.f (p.gg)).getD 0)
  | 13 => .int .i64 (((p.f (p.gg)).getD 0) + 1)
  | 14 => .int .i64 (((Ev.upd (p.f) (p.gg) (some (((p.f (p.gg)).getD 0) + 1))) (p.gg)).getD 0)
  | _ => .int .i64 0
theorem shFN_l (p : ShP) : ∀ j9, Ev.leafV (shFN_v p j9) = true := by
  have q1 := p.hn; have q2 := p.hv1; have q3 := p.hv2; have q4 := p.hw; intro j9
  unfold shFN_v
  split <;> first | rfl | assumption | exact p.lal | exact p.lac | exact p.lsn | exact p.lls
@[reducible] def shFN_k (p : ShP) (h1 : ¬ (p.gg) = (-1)) (h2 : ¬ (((Ev.upd (p.f) (p.gg) (some (((p.f (p.gg)).getD 0) + 1))) (p.gg)).getD 0) ≤ (p.ll)) : Ev.Kn := { val := shFN_v p, leaf := shFN_l p, bs := [(.eql, sy 4, .int .i64 (-1), .bool false), (.add, sy 12, .int .i64 1, sy 13), (.leq, sy 14, sy 6, .bool false)], us := [], cs := [], ks := [], hb := (List.forall_mem_cons.2 ⟨(by intro t ox oy; exact Ev.bt_eql (by have q1 := p.hn; have q2 := p.hv1; have q3 := p.hv2; have q4 := p.hw; first | (simpa using h1) | (simp; omega))), (List.forall_mem_cons.2 ⟨(by intro t ox oy; exact Ev.bt_add (by have q1 := p.hn; have q2 := p.hv1; have q3 := p.hv2; have q4 := p.hw; exact wrap_ok (by omega) (by omega))), (List.forall_mem_cons.2 ⟨(by intro t ox oy; exact Ev.bt_leq (by have q1 := p.hn; have q2 := p.hv1; have q3 := p.hv2; have q4 := p.hw; first | (simpa using h2) | (simp; omega))), (List.forall_mem_nil _)⟩)⟩)⟩), hu := (List.forall_mem_nil _), hc := (List.forall_mem_nil _), gs := [Ev.star (Ev.oldX p.W p.X :: [Ev.mapA Try.prog 3 3 (p.br) (p.n) (p.f)]), Ev.star (Ev.oldX p.W p.X :: [Ev.mapA Try.prog 3 3 (p.br) (p.n + 1) (Ev.upd (p.f) (p.gg) (some (((p.f (p.gg)).getD 0) + 1)))])], ops := [⟨[5, 49, 0], [sy 8, sy 4], none, 0, none, sy 12, none⟩, ⟨[6, 49], [sy 8, sy 4, sy 13], none, 0, none, undef, some 1⟩, ⟨[5, 49, 0], [sy 8, sy 4], none, 1, none, sy 14, none⟩], cls := [] }
theorem shFN_o (p : ShP) (h1 : ¬ (p.gg) = (-1)) (h2 : ¬ (((Ev.upd (p.f) (p.gg) (some (((p.f (p.gg)).getD 0) + 1))) (p.gg)).getD 0) ≤ (p.ll)) : @Ev.CalOK (shFN_k p h1 h2).sig Try.prog := Ev.Kn.ok (shFN_k p h1 h2) (fun q hq => by cases hq) (List.forall_mem_cons.2 ⟨(by have q1 := p.hn; have q2 := p.hv1; have q3 := p.hv2; have q4 := p.hw; exact Ev.map_look mapI (ci := 1) rfl rfl rfl rfl (by first | assumption | exact wfI_of (by omega) (by omega)) rfl), (List.forall_mem_cons.2 ⟨(by have q1 := p.hn; have q2 := p.hv1; have q3 := p.hv2; have q4 := p.hw; exact Ev.map_put mapI (ci := 1) (x := (((p.f (p.gg)).getD 0) + 1)) rfl rfl rfl rfl rfl (by first | assumption | exact wfI_of (by omega) (by omega)) (by omega) (fun ι y h => Ev.vsymK mapI h) (by first | assumption | exact wfI_of (by omega) (by omega))), (List.forall_mem_cons.2 ⟨(by have q1 := p.hn; have q2 := p.hv1; have q3 := p.hv2; have q4 := p.hw; exact Ev.map_look mapI (ci := 1) rfl rfl rfl rfl (by first | assumption | exact wfI_of (by omega) (by omega)) rfl), (List.forall_mem_nil _)⟩)⟩)⟩) (List.forall_mem_nil _)
theorem shFN (p : ShP) (h1 : ¬ (p.gg) = (-1)) (h2 : ¬ (((Ev.upd (p.f) (p.gg) (some (((p.f (p.gg)).getD 0) + 1))) (p.gg)).getD 0) ≤ (p.ll)) : Ev.PieE Try.prog 27 [] 0 36 p.c [(0, (.pointer (some ⟨p.b4, 0, none⟩))), (1, (.agg #[(.int .i64 (p.kind)), (.int .i64 (p.am)), (.int .i64 (p.ns)), (p.act), (.int .i64 (p.gg)), (.bool false)]))] [Ev.blkA p.b4 [(.int .i64 (p.ww)), (.int .i64 (p.ll)), (p.al), (.map (some p.br)), (p.sn), (p.ls), (.int .i64 (p.mon))] 51, Ev.mapA Try.prog 3 3 (p.br) (p.n) (p.f)] (fun κ : Ev.Ren => (.bool false)) (fun κ : Ev.Ren => [Ev.blkA p.b4 [(.int .i64 (p.ww)), (.int .i64 (p.ll)), (p.al), (.map (some p.br)), (p.sn), (p.ls), (.int .i64 (p.mon))] 51, Ev.mapA Try.prog 3 3 (p.br) (p.n + 1) (Ev.upd (p.f) (p.gg) (some (((p.f (p.gg)).getD 0) + 1)))]) := (Ev.triE Try.codeOk mixed_ok (shFN_k p h1 h2) (shFN_o p h1 h2) (n := 200) (m := 100) (kk := 8) (c := p.c) [(4, p.b4)] [(4, [sy 5, sy 6, sy 7, sy 8, sy 9, sy 10, sy 11], 51)] [(4, [sy 5, sy 6, sy 7, sy 8, sy 9, sy 10, sy 11], 51)] 0 1 [Ev.mapA Try.prog 3 3 (p.br) (p.n) (p.f)] [Ev.mapA Try.prog 3 3 (p.br) (p.n + 1) (Ev.upd (p.f) (p.gg) (some (((p.f (p.gg)).getD 0) + 1)))] rfl rfl [(0, .pointer (some ⟨4, 0, none⟩)), (1, .agg #[sy 0, sy 1, sy 2, sy 3, sy 4, .bool false])] (.bool false) (by kernel_rfl) (fun gb => by kernel_rfl))
end Go.Proofs.Ytjcibnfaijdgnaa

namespace Go.Proofs.Ytjcibnfaijdgnaa
open Go.RowKit
open Go.Ev (sy)
set_option linter.unusedVariables false
set_option linter.unusedSimpArgs false

/-- What a sample's action makes of the runs. -/
def runsOf (f : Int → Option Int) (g : Int) (safe : Bool) : Int → Option Int :=
  if g = -1 then f else Ev.upd f g (some (if safe then 0 else (f g).getD 0 + 1))
def shortB (f : Int → Option Int) (l g : Int) (safe : Bool) : Bool :=
  decide (g = -1) || decide ((if safe then 0 else (f g).getD 0 + 1) ≤ l)
theorem upd_upd (f : Int → Option Int) (i : Int) (x y : Option Int) : Ev.upd (Ev.upd f i x) i y = Ev.upd f i y := by
  funext j
  unfold Ev.upd
  split <;> rfl
theorem upd_get (f : Int → Option Int) (i x : Int) : (Ev.upd f i (some x) i).getD 0 = x := by simp [Ev.upd]
abbrev ShP.blk (p : ShP) : Ev.Asr := Ev.blkA p.b4 [.int .i64 p.ww, .int .i64 p.ll, p.al, .map (some p.br), p.sn, p.ls, .int .i64 p.mon] 51
abbrev ShP.mp (p : ShP) (n : Nat) (f : Int → Option Int) : Ev.Asr := Ev.mapA Try.prog 3 3 p.br n f
theorem short_up (p : ShP) {n : Nat} {f : Int → Option Int} {w : World} (h : Ev.Hold p.c [p.blk, p.mp n f] w) (hn : n ≤ p.n + 2) {f' : Int → Option Int} (hf : f = f') : Ev.Hold p.c [p.blk, p.mp (p.n + 2) f'] w := by
  subst hf
  exact ((h.sel [1, 0] (by kernel_rfl)).mapN hn).sel [1, 0] (by kernel_rfl)
theorem short_ok (p : ShP) (safe : Bool) (hn : Ev.Now [p.blk, p.mp p.n p.f] p.X p.W) :
    Calls Try.prog 27 #[.pointer (some ⟨p.b4, 0, none⟩), .agg #[.int .i64 p.kind, .int .i64 p.am, .int .i64 p.ns, p.act, .int .i64 p.gg, .bool safe]] p.W fun e w' => e = .returned (.bool (shortB p.f p.ll p.gg safe)) ∧ Ev.Hold p.c [p.blk, p.mp (p.n + 2) (runsOf p.f p.gg safe)] w' := by
  refine Ev.con_start (N := 36) (tm := [(0, .pointer (some ⟨p.b4, 0, none⟩)), (1, .agg #[.int .i64 p.kind, .int .i64 p.am, .int .i64 p.ns, p.act, .int .i64 p.gg, .bool safe])]) (by kernel_rfl) hn (by simp) (by simp) (fun A h => ?_)
  by_cases hc : p.gg = -1
  · cases safe with
    | true =>
      refine shNT p hc A p.W _ h ?_
      intro κ w1 h1
      exact ⟨by simp [shortB, hc], short_up p h1 (by omega) (by rw [runsOf, if_pos hc])⟩
    | false =>
      refine shNF p hc A p.W _ h ?_
      intro κ w1 h1
      exact ⟨by simp [shortB, hc], short_up p h1 (by omega) (by rw [runsOf, if_pos hc])⟩
  · cases safe with
    | true =>
      by_cases hl : (Ev.upd (Ev.upd p.f p.gg (some ((p.f p.gg).getD 0 + 1))) p.gg (some 0) p.gg).getD 0 ≤ p.ll
      · refine shTY p hc hl A p.W _ h ?_
        intro κ w1 h1
        rw [upd_get] at hl
        exact ⟨by simp [shortB, hc, hl], short_up p h1 (by omega) (by rw [runsOf, if_neg hc, upd_upd]; rfl)⟩
      · refine shTN p hc hl A p.W _ h ?_
        intro κ w1 h1
        rw [upd_get] at hl
        exact ⟨by simp [shortB, hc, hl], short_up p h1 (by omega) (by rw [runsOf, if_neg hc, upd_upd]; rfl)⟩
    | false =>
      by_cases hl : (Ev.upd p.f p.gg (some ((p.f p.gg).getD 0 + 1)) p.gg).getD 0 ≤ p.ll
      · refine shFY p hc hl A p.W _ h ?_
        intro κ w1 h1
        rw [upd_get] at hl
        exact ⟨by simp [shortB, hc, hl], short_up p h1 (by omega) (by rw [runsOf, if_neg hc]; rfl)⟩
      · refine shFN p hc hl A p.W _ h ?_
        intro κ w1 h1
        rw [upd_get] at hl
        exact ⟨by simp [shortB, hc, hl], short_up p h1 (by omega) (by rw [runsOf, if_neg hc]; rfl)⟩
end Go.Proofs.Ytjcibnfaijdgnaa
