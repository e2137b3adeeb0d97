/- fair.First: its contract; fair rows in plain words. -/
import Derived.Test.YtjcibnfaijdgnaaMc
import Derived.Test.YtjcibnfaijdgnaaHr
namespace Go.Proofs.Ytjcibnfaijdgnaa
open Go.RowKit
open Go.Ev (sy)
set_option linter.unusedVariables false
set_option linter.unusedSimpArgs false

structure Smp where
  kind : Int
  am : Int
  ns : Int
  act : Value
  zs : List Int
  gg : Int
  safe : Bool
def Smp.cells (s : Smp) : List Value := [.int .i64 s.kind, .int .i64 s.am, .int .i64 s.ns, s.act, .int .i64 s.gg, .bool s.safe]
structure Smp.Ok (s : Smp) (W : World) : Prop where
  hs : Ev.SlR 1 s.act s.zs.length (s.zs.map (Value.int .i64)) W
  hz : s.zs.length ≤ 1000
  wam : Ev.wfI s.am
  wgg : Ev.wfI s.gg
  wzs : ∀ z ∈ s.zs, Ev.wfI z
/-- What was seen of a row. -/
structure RowS where
  runs : Int → Option Int
  since : Int → Option Int
  last : Int → Option Int
  mon : Int
  n : Nat
  nsf : Nat → Int
def row0 : RowS := ⟨fun _ => none, fun _ => none, fun _ => none, -1, 0, fun _ => 0⟩
def stepS (r : RowS) (s : Smp) : RowS := ⟨runsOf r.runs s.gg s.safe, sinceA r.since s.zs (r.n : Int), lastA r.last s.kind s.am (r.n : Int), monA r.mon s.kind (r.n : Int), r.n + 1, snoc r.nsf r.n s.ns⟩
def okS (w l : Int) (r : RowS) (s : Smp) : Prop :=
  shortB r.runs l s.gg s.safe = true ∧ (((r.n + 1 : Nat) : Int) < w ∨ winP (stepS r s).since (stepS r s).last (stepS r s).mon (stepS r s).nsf (r.n + 1 - w.toNat) (r.n + 1))
def rowAt (ss : List Smp) (k : Nat) : RowS := (ss.take k).foldl stepS row0
def okAt (w l : Int) (ss : List Smp) (k : Nat) : Prop := ∃ s, ss[k]? = some s ∧ okS w l (rowAt ss k) s
theorem rowAt_succ {ss : List Smp} {k : Nat} {s : Smp} (h : ss[k]? = some s) : rowAt ss (k + 1) = stepS (rowAt ss k) s := by
  obtain ⟨hk, rfl⟩ := List.getElem?_eq_some_iff.1 h
  unfold rowAt
  rw [List.take_succ_eq_append_getElem hk, List.foldl_append]
  rfl
theorem rowAt_n {ss : List Smp} : ∀ {k : Nat}, k ≤ ss.length → (rowAt ss k).n = k
  | 0, _ => rfl
  | k + 1, h => by
    rw [rowAt_succ (List.getElem?_eq_getElem h)]
    show (rowAt ss k).n + 1 = k + 1
    rw [rowAt_n (by omega)]
theorem rowAt_runs {ss : List Smp} : ∀ {k : Nat}, k ≤ ss.length → ∀ g, 0 ≤ ((rowAt ss k).runs g).getD 0 ∧ ((rowAt ss k).runs g).getD 0 ≤ (k : Int)
  | 0, _, g => ⟨by show (0 : Int) ≤ 0; omega, by show (0 : Int) ≤ 0; omega⟩
  | k + 1, h, g => by
    rw [rowAt_succ (List.getElem?_eq_getElem h)]
    show 0 ≤ (runsOf (rowAt ss k).runs _ _ g).getD 0 ∧ (runsOf (rowAt ss k).runs _ _ g).getD 0 ≤ ((k + 1 : Nat) : Int)
    have h1 := rowAt_runs (ss := ss) (k := k) (by omega) g
    unfold runsOf
    split
    · omega
    · unfold Ev.upd
      split
      · rename_i e
        subst e
        rw [Option.getD_some]
        cases ss[k].safe with
        | true => exact ⟨Int.le_refl _, by simp; omega⟩
        | false => exact ⟨by simp; omega, by simp; omega⟩
      · omega
theorem cells_len (ss : List Smp) : (ss.flatMap Smp.cells).length = ss.length * 6 := by
  induction ss with
  | nil => rfl
  | cons s ss ih => rw [List.flatMap_cons, List.length_append, ih, List.length_cons]; simp [Smp.cells]; omega
theorem cells_drop : ∀ {ss : List Smp} {j : Nat} {s : Smp}, ss[j]? = some s → ∃ tl, (ss.flatMap Smp.cells).drop (j * 6) = s.cells ++ tl
  | [], j, s, h => by cases h
  | x :: ss, 0, s, h => by cases h; exact ⟨_, by rw [Nat.zero_mul]; rfl⟩
  | x :: ss, j + 1, s, h => by
    obtain ⟨tl, e⟩ := cells_drop (ss := ss) (j := j) (s := s) (by simpa using h)
    refine ⟨tl, ?_⟩
    rw [← e, List.flatMap_cons, Nat.add_mul, Nat.one_mul, Nat.add_comm, ← List.drop_drop]
    rfl
theorem smp_at {ss : List Smp} {j : Nat} {s : Smp} {b : Bool} (h : ss[j]? = some s) (hs : s.safe = b) : [.int .i64 s.kind, .int .i64 s.am, .int .i64 s.ns, s.act, .int .i64 s.gg, .bool b] = ((ss.flatMap Smp.cells).drop (j * 6)).take 6 := by
  obtain ⟨tl, e⟩ := cells_drop h
  rw [e, ← hs]
  rfl
theorem xs_ns {ss : List Smp} : ∀ {k : Nat}, k ≤ ss.length → ∀ j, j < k → ((ss.take k).flatMap Smp.cells)[j * 6 + 2]? = some (.int .i64 ((rowAt ss k).nsf j))
  | 0, _, j, h => absurd h (by omega)
  | k + 1, hk, j, h => by
    have e := List.getElem?_eq_getElem hk
    rw [rowAt_succ e, List.take_succ_eq_append_getElem hk, List.flatMap_append]
    have hl : ((ss.take k).flatMap Smp.cells).length = k * 6 := by rw [cells_len, List.length_take, Nat.min_eq_left (by omega)]
    show _ = some (Value.int .i64 (snoc (rowAt ss k).nsf (rowAt ss k).n _ j))
    rw [rowAt_n (by omega)]
    unfold snoc
    by_cases ej : j = k
    · subst ej
      rw [if_pos rfl, List.getElem?_append_right (by omega), hl, show j * 6 + 2 - j * 6 = 2 by omega]
      rfl
    · rw [if_neg ej, List.getElem?_append_left (by omega)]
      exact xs_ns (by omega) j (by omega)

/-- The row's parts. -/
def rowPs (ww ll : Int) (b4 br nr bs ns bl nl : Nat) (r : RowS) (xs : List Value) (al : Value) : List Ev.Asr :=
  [Ev.blkA b4 [.int .i64 ww, .int .i64 ll, al, .map (some br), .map (some bs), .map (some bl), .int .i64 r.mon] 51, Ev.mapA Try.prog 3 3 br nr r.runs, Ev.mapA Try.prog 3 3 bs ns r.since, Ev.mapA Try.prog 3 3 bl nl r.last, Ev.slA 47 6 al r.n xs]
theorem rowPs_code {ww ll : Int} {b4 br nr bs ns bl nl : Nat} {r : RowS} {xs : List Value} {al : Value} {c : Ev.Ctx} {w : World} (h : Ev.Hold c (rowPs ww ll b4 br nr bs ns bl nl r xs al) w) : ∃ cd, Ev.dec cd = al := by
  obtain ⟨f, hf⟩ := (h.sel [4] (by kernel_rfl)).first
  exact Ev.SlV.code hf
theorem add_is {w : World} {F : Nat → Prop} {ww ll : Int} {b4 br nr bs ns bl nl : Nat} {r : RowS} {xs : List Value} {al : Value} {s : Smp} {safe b : Bool} (hsafe : s.safe = safe) (hs : s.Ok w) (hoff : Ev.OffX F s.act) (hn : r.n ≤ 1000) (hnr : nr + 2 < maxLen) (hns : ns + 1000 < maxLen) (hnl : nl + 1 < maxLen) (lal : Ev.leafV al = true) (hw1 : 1 ≤ ww) (hw2 : ww ≤ 1000000)
    (hv : ∀ g, 0 ≤ (r.runs g).getD 0 ∧ (r.runs g).getD 0 ≤ 1000) (hnsf : ∀ j, j < r.n → xs[j * 6 + 2]? = some (.int .i64 (r.nsf j))) (hb : b = true ↔ okS ww ll r s)
    (hN : Ev.Now (rowPs ww ll b4 br nr bs ns bl nl r xs al) F w) :
    Calls Try.prog 21 #[.pointer (some ⟨b4, 0, none⟩), .agg #[.int .i64 s.kind, .int .i64 s.am, .int .i64 s.ns, s.act, .int .i64 s.gg, .bool safe]] w fun e w' => ∃ v cd, Ev.dec cd = v ∧ e = .returned (.bool b) ∧ Ev.Hold ⟨w, F⟩ (rowPs ww ll b4 br (nr + 2) bs (ns + 1000) bl (nl + 1) (stepS r s) (xs ++ s.cells) v) w' := by
  have hv1 := hv s.gg
  refine (add_ok ⟨w, F, b4, ww, ll, r.mon, al, br, nr, r.runs, bs, ns, r.since, bl, nl, r.last, r.n, xs, r.nsf, s.kind, s.am, s.ns, s.gg, s.act, s.zs, hs.hs, hoff, hs.hz, hn, hnr, hns, hnl, hs.wam, hs.wgg, hs.wzs, lal, hw1, hw2, hv1.1, by omega, hnsf⟩ safe hN).mono ?_
  rintro e w' ⟨b', rfl, hb', al2, _, hh⟩
  subst hsafe
  have hh' : Ev.Hold ⟨w, F⟩ (rowPs ww ll b4 br (nr + 2) bs (ns + 1000) bl (nl + 1) (stepS r s) (xs ++ s.cells) al2) w' := hh
  obtain ⟨cd, hcd⟩ := rowPs_code hh'
  exact ⟨al2, cd, hcd, by rw [show b' = b from Bool.eq_iff_iff.2 (hb'.trans hb.symm)], hh'⟩
end Go.Proofs.Ytjcibnfaijdgnaa

namespace Go.Proofs.Ytjcibnfaijdgnaa
open Go.RowKit
open Go.Ev (sy)
set_option linter.unusedVariables false
set_option linter.unusedSimpArgs false
structure FirP where
  W : World
  ll : Int
  ww : Int
  sv : Value
  ss : List Smp
  hs : Ev.SlR 6 sv ss.length (ss.flatMap Smp.cells) W
  hl : 1 ≤ ll
  hw : 1 ≤ ww
  hw2 : ww ≤ 1000000
  hn : ss.length ≤ 1000
  hok : ∀ s ∈ ss, s.Ok W
abbrev FirP.c (p : FirP) : Ev.Ctx := ⟨p.W, fun _ => False⟩
structure AddOk (p : FirP) (r : RowS) (nr ns nl : Nat) (xs : List Value) (al : Value) : Prop where
  hn : r.n ≤ 1000
  hnr : nr + 2 < maxLen
  hns : ns + 1000 < maxLen
  hnl : nl + 1 < maxLen
  lal : Ev.leafV al = true
  hv : ∀ g, 0 ≤ (r.runs g).getD 0 ∧ (r.runs g).getD 0 ≤ 1000
  hnsf : ∀ j, j < r.n → xs[j * 6 + 2]? = some (.int .i64 (r.nsf j))
theorem Smp.Ok.at {s : Smp} {W w : World} (h : s.Ok W) (ho : Ev.OldW W (fun _ => False) w) : s.Ok w := ⟨h.hs.old ho (Ev.offNone _), h.hz, h.wam, h.wgg, h.wzs⟩
theorem hF_off {sz n : Nat} {v : Value} {xs : List Value} {W : World} {F : Nat → Prop} (h : Ev.SlR sz v n xs W) (hF : ∀ j, F j → False ∨ W.heap.size ≤ j) : Ev.OffX F v :=
  h.offX (Ev.offNone _) (fun j hj _ hf => by
    rcases hF j hf with h | h
    · exact h
    · omega)

def fa_v (p : FirP) : Nat → Value
  | 0 => .int .i64 (p.ll)
  | 1 => .int .i64 (p.ww)
  | 2 => p.sv
  | 3 => .int .i64 ((p.ss.length : Nat) : Int)
  | _ => .int .i64 0
theorem fa_l (p : FirP) : ∀ j9, Ev.leafV (fa_v p j9) = true := by
  have q1 := p.hl; have q2 := p.hw; have q3 := p.hn; intro j9
  unfold fa_v
  split <;> first | rfl | assumption | exact p.hs.leaf | exact Ev.ptrR_leaf _ _
@[reducible] def faA_k (p : FirP) : Ev.Kn := { val := fa_v p, leaf := fa_l p, bs := [(.lss, sy 0, .int .i64 1, .bool false), (.lss, sy 1, .int .i64 1, .bool false)], us := [], cs := [], ks := [], hb := (List.forall_mem_cons.2 ⟨(by intro t ox oy; exact Ev.bt_lss (by have q1 := p.hl; have q2 := p.hw; have q3 := p.hn; first | (simp; done) | (simp; omega))), (List.forall_mem_cons.2 ⟨(by intro t ox oy; exact Ev.bt_lss (by have q1 := p.hl; have q2 := p.hw; have q3 := p.hn; first | (simp; done) | (simp; omega))), (List.forall_mem_nil _)⟩)⟩), hu := (List.forall_mem_nil _), hc := (List.forall_mem_nil _), gs := [Ev.star (Ev.oldX p.W ((fun _ => False)) :: [])], ops := [], cls := [] }
theorem faA_o (p : FirP) : @Ev.CalOK (faA_k p).sig Try.prog := Ev.Kn.ok (faA_k p) (fun q hq => by cases hq) (List.forall_mem_nil _) (List.forall_mem_nil _)
theorem faA (p : FirP) : Ev.Pie Try.prog 11 [] 0 3 39 p.c [(0, (.int .i64 (p.ll))), (1, (.int .i64 (p.ww))), (2, (p.sv))] [] .normal (fun κ : Ev.Ren => [(0, (.int .i64 (p.ll))), (1, (.int .i64 (p.ww))), (2, (p.sv))]) (fun κ : Ev.Ren => []) := (Ev.tri Try.codeOk mixed_ok (faA_k p) (faA_o p) (n := 200) (m := 100) (c := p.c) [] [] [] 0 0 [] [] rfl rfl [(0, sy 0), (1, sy 1), (2, sy 2)] [(0, sy 0), (1, sy 1), (2, sy 2)] .normal (by kernel_rfl) (fun gb => by kernel_rfl))
@[reducible] def faB_k (p : FirP) : Ev.Kn := { val := fa_v p, leaf := fa_l p, bs := [], us := [], cs := [], ks := [], hb := (List.forall_mem_nil _), hu := (List.forall_mem_nil _), hc := (List.forall_mem_nil _), gs := [Ev.star (Ev.oldX p.W ((fun _ => False)) :: []), Ev.star (Ev.oldX p.W ((fun _ => False)) :: [Ev.atD 403 (fun v => Ev.mapV Try.prog 3 3 v 0 (fun _ => none))]), Ev.star (Ev.oldX p.W ((fun _ => False)) :: [Ev.atD 403 (fun v => Ev.mapV Try.prog 3 3 v 0 (fun _ => none)), Ev.atD 407 (fun v => Ev.mapV Try.prog 3 3 v 0 (fun _ => none))]), Ev.star (Ev.oldX p.W ((fun _ => False)) :: [Ev.atD 403 (fun v => Ev.mapV Try.prog 3 3 v 0 (fun _ => none)), Ev.atD 407 (fun v => Ev.mapV Try.prog 3 3 v 0 (fun _ => none)), Ev.atD 411 (fun v => Ev.mapV Try.prog 3 3 v 0 (fun _ => none))])], ops := [⟨[18, 49], [], none, 0, some 403, .complex .f32 403 0, some 1⟩, ⟨[18, 49], [], none, 1, some 407, .complex .f32 407 0, some 2⟩, ⟨[18, 49], [], none, 2, some 411, .complex .f32 411 0, some 3⟩, ⟨[10, 31], [sy 2], none, 3, none, sy 3, none⟩], cls := [] }
theorem faB_o (p : FirP) : @Ev.CalOK (faB_k p).sig Try.prog := Ev.Kn.ok (faB_k p) (fun q hq => by cases hq) (List.forall_mem_cons.2 ⟨(by exact Ev.mk_map rfl rfl), (List.forall_mem_cons.2 ⟨(by exact Ev.mk_map rfl rfl), (List.forall_mem_cons.2 ⟨(by exact Ev.mk_map rfl rfl), (List.forall_mem_cons.2 ⟨(by exact Ev.ro_len (ci := 0) rfl rfl p.hs Try.underlying31 rfl rfl), (List.forall_mem_nil _)⟩)⟩)⟩)⟩) (List.forall_mem_nil _)
theorem faB (p : FirP) : Ev.Pie Try.prog 11 [] 3 2 39 p.c [(0, (.int .i64 (p.ll))), (1, (.int .i64 (p.ww))), (2, (p.sv))] [] .normal (fun κ : Ev.Ren => [(2, (p.sv)), (8, (.pointer (some ⟨((κ 412).getD 0), 0, none⟩))), (24, (p.sv)), (25, (.int .i64 ((p.ss.length : Nat) : Int))), (26, (.int .i64 0))]) (fun κ : Ev.Ren => [Ev.blkA (((κ 412).getD 0)) [(.int .i64 (p.ww)), (.int .i64 (p.ll)), (.slice none 0 0), (Ev.dec ((κ 403).getD 0)), (Ev.dec ((κ 407).getD 0)), (Ev.dec ((κ 411).getD 0)), (.int .i64 (-1))] 51, Ev.mapV Try.prog 3 3 ((Ev.dec ((κ 403).getD 0))) 0 (fun _ => none), Ev.mapV Try.prog 3 3 ((Ev.dec ((κ 407).getD 0))) 0 (fun _ => none), Ev.mapV Try.prog 3 3 ((Ev.dec ((κ 411).getD 0))) 0 (fun _ => none)]) := (Ev.tri Try.codeOk mixed_ok (faB_k p) (faB_o p) (n := 200) (m := 100) (c := p.c) [] [] [(412, [sy 1, sy 0, .slice none 0 0, .complex .f32 403 0, .complex .f32 407 0, .complex .f32 411 0, .int .i64 (-1)], 51)] 0 3 [] [Ev.atD 403 (fun v => Ev.mapV Try.prog 3 3 v 0 (fun _ => none)), Ev.atD 407 (fun v => Ev.mapV Try.prog 3 3 v 0 (fun _ => none)), Ev.atD 411 (fun v => Ev.mapV Try.prog 3 3 v 0 (fun _ => none))] rfl rfl [(0, sy 0), (1, sy 1), (2, sy 2)] [(2, sy 2), (8, .pointer (some ⟨412, 0, none⟩)), (24, sy 2), (25, sy 3), (26, .int .i64 0)] .normal (by kernel_rfl) (fun gb => by kernel_rfl)).conv (fun κ w => ⟨(fun _ h => h), (fun _ h => Ev.undy (fun _ _ _ _ _ h => h) h), (fun _ h => Ev.undy (fun _ _ _ _ _ h => h) h), (fun _ h => Ev.undy (fun _ _ _ _ _ h => h) h), trivial⟩)
@[reducible] def faZ_k (p : FirP) : Ev.Kn := { val := fa_v p, leaf := fa_l p, bs := [], us := [], cs := [], ks := [], hb := (List.forall_mem_nil _), hu := (List.forall_mem_nil _), hc := (List.forall_mem_nil _), gs := [Ev.star (Ev.oldX p.W ((fun _ => False)) :: [])], ops := [⟨[10, 31], [sy 2], none, 0, none, sy 3, none⟩], cls := [] }
theorem faZ_o (p : FirP) : @Ev.CalOK (faZ_k p).sig Try.prog := Ev.Kn.ok (faZ_k p) (fun q hq => by cases hq) (List.forall_mem_cons.2 ⟨(by exact Ev.ro_len (ci := 0) rfl rfl p.hs Try.underlying31 rfl rfl), (List.forall_mem_nil _)⟩) (List.forall_mem_nil _)
theorem faZ (p : FirP) : Ev.Pie Try.prog 11 [] 6 2 39 p.c [(2, (p.sv))] [] .ret (fun κ : Ev.Ren => [(6, (.int .i64 ((p.ss.length : Nat) : Int))), (7, (.bool false))]) (fun κ : Ev.Ren => []) := (Ev.tri Try.codeOk mixed_ok (faZ_k p) (faZ_o p) (n := 200) (m := 100) (c := p.c) [] [] [] 0 0 [] [] rfl rfl [(2, sy 2)] [(6, sy 3), (7, .bool false)] .ret (by kernel_rfl) (fun gb => by kernel_rfl))
def fe_v (p : FirP) (b4 br nr bs ns bl nl : Nat) (r : RowS) (xs : List Value) (al : Value) (j : Nat) : Nat → Value
  | 0 => p.sv
  | 1 => .pointer (some ⟨b4, 0, none⟩)
  | 2 => .int .i64 ((p.ss.length : Nat) : Int)
  | _ => .int .i64 0
theorem fe_l (p : FirP) (b4 br nr bs ns bl nl : Nat) (r : RowS) (xs : List Value) (al : Value) (j : Nat) : ∀ j9, Ev.leafV (fe_v p b4 br nr bs ns bl nl r xs al j j9) = true := by
  have q1 := p.hl; have q2 := p.hw; have q3 := p.hn; intro j9
  unfold fe_v
  split <;> first | rfl | assumption | exact p.hs.leaf | exact Ev.ptrR_leaf _ _
@[reducible] def feE_k (p : FirP) (b4 br nr bs ns bl nl : Nat) (r : RowS) (xs : List Value) (al : Value) (j : Nat) : Ev.Kn := { val := fe_v p b4 br nr bs ns bl nl r xs al j, leaf := fe_l p b4 br nr bs ns bl nl r xs al j, bs := [(.lss, sy 2, sy 2, .bool false)], us := [], cs := [], ks := [], hb := (List.forall_mem_cons.2 ⟨(by intro t ox oy; exact Ev.bt_lss (by have q1 := p.hl; have q2 := p.hw; have q3 := p.hn; first | (simp; done) | (simp; omega))), (List.forall_mem_nil _)⟩), hu := (List.forall_mem_nil _), hc := (List.forall_mem_nil _), gs := [Ev.star (Ev.oldX p.W ((fun _ => False)) :: [Ev.blkA b4 [.int .i64 p.ww, .int .i64 p.ll, al, .map (some br), .map (some bs), .map (some bl), .int .i64 r.mon] 51, Ev.mapA Try.prog 3 3 br nr r.runs, Ev.mapA Try.prog 3 3 bs ns r.since, Ev.mapA Try.prog 3 3 bl nl r.last, Ev.slA 47 6 al r.n xs])], ops := [], cls := [] }
theorem feE_o (p : FirP) (b4 br nr bs ns bl nl : Nat) (r : RowS) (xs : List Value) (al : Value) (j : Nat) : @Ev.CalOK (feE_k p b4 br nr bs ns bl nl r xs al j).sig Try.prog := Ev.Kn.ok (feE_k p b4 br nr bs ns bl nl r xs al j) (fun q hq => by cases hq) (List.forall_mem_nil _) (List.forall_mem_nil _)
theorem feE (p : FirP) (b4 br nr bs ns bl nl : Nat) (r : RowS) (xs : List Value) (al : Value) (j : Nat) : Ev.Pie Try.prog 11 [10, 0] 0 2 39 p.c [(2, (p.sv)), (8, (.pointer (some ⟨b4, 0, none⟩))), (24, (p.sv)), (25, (.int .i64 ((p.ss.length : Nat) : Int))), (26, (.int .i64 ((p.ss.length : Nat) : Int)))] [Ev.blkA b4 [.int .i64 p.ww, .int .i64 p.ll, al, .map (some br), .map (some bs), .map (some bl), .int .i64 r.mon] 51, Ev.mapA Try.prog 3 3 br nr r.runs, Ev.mapA Try.prog 3 3 bs ns r.since, Ev.mapA Try.prog 3 3 bl nl r.last, Ev.slA 47 6 al r.n xs] (.exit 0) (fun κ : Ev.Ren => [(2, (p.sv))]) (fun κ : Ev.Ren => [Ev.blkA b4 [.int .i64 p.ww, .int .i64 p.ll, al, .map (some br), .map (some bs), .map (some bl), .int .i64 r.mon] 51, Ev.mapA Try.prog 3 3 br nr r.runs, Ev.mapA Try.prog 3 3 bs ns r.since, Ev.mapA Try.prog 3 3 bl nl r.last, Ev.slA 47 6 al r.n xs]) := (Ev.tri Try.codeOk mixed_ok (feE_k p b4 br nr bs ns bl nl r xs al j) (feE_o p b4 br nr bs ns bl nl r xs al j) (n := 200) (m := 100) (c := p.c) [] [] [] 0 0 [Ev.blkA b4 [.int .i64 p.ww, .int .i64 p.ll, al, .map (some br), .map (some bs), .map (some bl), .int .i64 r.mon] 51, Ev.mapA Try.prog 3 3 br nr r.runs, Ev.mapA Try.prog 3 3 bs ns r.since, Ev.mapA Try.prog 3 3 bl nl r.last, Ev.slA 47 6 al r.n xs] [Ev.blkA b4 [.int .i64 p.ww, .int .i64 p.ll, al, .map (some br), .map (some bs), .map (some bl), .int .i64 r.mon] 51, Ev.mapA Try.prog 3 3 br nr r.runs, Ev.mapA Try.prog 3 3 bs ns r.since, Ev.mapA Try.prog 3 3 bl nl r.last, Ev.slA 47 6 al r.n xs] rfl rfl [(2, sy 0), (8, sy 1), (24, sy 0), (25, sy 2), (26, sy 2)] [(2, sy 0)] (.exit 0) (by kernel_rfl) (fun gb => by kernel_rfl))
def fbt_v (p : FirP) (b4 br nr bs ns bl nl : Nat) (r : RowS) (xs : List Value) (al : Value) (j : Nat) (s : Smp) (hj : p.ss[j]? = some s) (hsafe : s.safe = true) (hA : AddOk p r nr ns nl xs al) : Nat → Value
  | 0 => .int .i64 (s.kind)
  | 1 => .int .i64 (s.am)
  | 2 => .int .i64 (s.ns)
  | 3 => s.act
  | 4 => .int .i64 (s.gg)
  | 5 => p.sv
  | 6 => .pointer (some ⟨b4, 0, none⟩)
  | 7 => .int .i64 ((p.ss.length : Nat) : Int)
  | 8 => .int .i64 ((j : Nat) : Int)
  | 9 => Ev.ptrR (p.sv) ((j) * 6)
  | 10 => .int .i64 (((j) + 1 : Nat) : Int)
  | _ => .int .i64 0
theorem fbt_l (p : FirP) (b4 br nr bs ns bl nl : Nat) (r : RowS) (xs : List Value) (al : Value) (j : Nat) (s : Smp) (hj : p.ss[j]? = some s) (hsafe : s.safe = true) (hA : AddOk p r nr ns nl xs al) : ∀ j9, Ev.leafV (fbt_v p b4 br nr bs ns bl nl r xs al j s hj hsafe hA j9) = true := by
  have q1 := p.hl; have q2 := p.hw; have q3 := p.hn; have q4 := (List.getElem?_eq_some_iff.1 hj).1; intro j9
  unfold fbt_v
  split <;> first | rfl | assumption | exact p.hs.leaf | exact Ev.ptrR_leaf _ _ | exact (p.hok s (List.mem_of_getElem? hj)).hs.leaf
@[reducible] def fbtY_k (p : FirP) (b4 br nr bs ns bl nl : Nat) (r : RowS) (xs : List Value) (al : Value) (j : Nat) (s : Smp) (hj : p.ss[j]? = some s) (hsafe : s.safe = true) (hA : AddOk p r nr ns nl xs al) (h1 : okS p.ww p.ll r s) : Ev.Kn := { val := fbt_v p b4 br nr bs ns bl nl r xs al j s hj hsafe hA, leaf := fbt_l p b4 br nr bs ns bl nl r xs al j s hj hsafe hA, bs := [(.lss, sy 8, sy 7, .bool true), (.add, sy 8, .int .i64 1, sy 10)], us := [], cs := [], ks := [], hb := (List.forall_mem_cons.2 ⟨(by intro t ox oy; exact Ev.bt_lss (by have q1 := p.hl; have q2 := p.hw; have q3 := p.hn; have q4 := (List.getElem?_eq_some_iff.1 hj).1; first | (simp; done) | (simp; omega))), (List.forall_mem_cons.2 ⟨(by intro t ox oy; exact Ev.bt_add (by have q1 := p.hl; have q2 := p.hw; have q3 := p.hn; have q4 := (List.getElem?_eq_some_iff.1 hj).1; rw [wrap_ok (by omega) (by omega)]; omega)), (List.forall_mem_nil _)⟩)⟩), hu := (List.forall_mem_nil _), hc := (List.forall_mem_nil _), gs := [Ev.star (Ev.oldX p.W ((fun _ => False)) :: [Ev.blkA b4 [.int .i64 p.ww, .int .i64 p.ll, al, .map (some br), .map (some bs), .map (some bl), .int .i64 r.mon] 51, Ev.mapA Try.prog 3 3 br nr r.runs, Ev.mapA Try.prog 3 3 bs ns r.since, Ev.mapA Try.prog 3 3 bl nl r.last, Ev.slA 47 6 al r.n xs]), Ev.star (Ev.oldX p.W ((fun _ => False)) :: [Ev.atD 407 (fun v => Ev.blkA b4 [.int .i64 p.ww, .int .i64 p.ll, v, .map (some br), .map (some bs), .map (some bl), .int .i64 (stepS r s).mon] 51), Ev.atD 407 (fun v => Ev.mapA Try.prog 3 3 br (nr + 2) (stepS r s).runs), Ev.atD 407 (fun v => Ev.mapA Try.prog 3 3 bs (ns + 1000) (stepS r s).since), Ev.atD 407 (fun v => Ev.mapA Try.prog 3 3 bl (nl + 1) (stepS r s).last), Ev.atD 407 (fun v => Ev.slA 47 6 v (stepS r s).n (xs ++ s.cells))])], ops := [⟨[3, 31], [sy 5, sy 8], none, 0, none, sy 9, none⟩, ⟨[1, 47], [sy 9], none, 0, none, .agg #[sy 0, sy 1, sy 2, sy 3, sy 4, .bool true], none⟩], cls := [⟨21, [sy 6, .agg #[sy 0, sy 1, sy 2, sy 3, sy 4, .bool true]], 0, some 407, .bool true, some 1⟩] }
theorem fbtY_o (p : FirP) (b4 br nr bs ns bl nl : Nat) (r : RowS) (xs : List Value) (al : Value) (j : Nat) (s : Smp) (hj : p.ss[j]? = some s) (hsafe : s.safe = true) (hA : AddOk p r nr ns nl xs al) (h1 : okS p.ww p.ll r s) : @Ev.CalOK (fbtY_k p b4 br nr bs ns bl nl r xs al j s hj hsafe hA h1).sig Try.prog := Ev.Kn.ok (fbtY_k p b4 br nr bs ns bl nl r xs al j s hj hsafe hA h1) (fun q hq => by cases hq) (List.forall_mem_cons.2 ⟨(by obtain ⟨i, i1, i2, i3, i4⟩ := infoSamp; have q1 := p.hl; have q2 := p.hw; have q3 := p.hn; have q4 := (List.getElem?_eq_some_iff.1 hj).1; exact Ev.ro_index (ci := 0) (j := (j)) rfl rfl p.hs Try.underlying31 i1 i2 rfl rfl (by omega) rfl), (List.forall_mem_cons.2 ⟨(by have q1 := p.hl; have q2 := p.hw; have q3 := p.hn; have q4 := (List.getElem?_eq_some_iff.1 hj).1; exact Ev.ro_agg (ci := 0) (j := (j)) rfl rfl p.hs loadSamp (by omega) (smp_at hj hsafe) rfl (fun ι => (Ev.lrelCons (Ev.symT rfl) (Ev.lrelCons (Ev.symT rfl) (Ev.lrelCons (Ev.symT rfl) (Ev.lrelCons (Ev.symT rfl) (Ev.lrelCons (Ev.symT rfl) (Ev.lrelCons Ev.boolV' Ev.lrelNil))))))) (Ev.offNone _)), (List.forall_mem_nil _)⟩)⟩) (List.forall_mem_cons.2 ⟨(by have q1 := p.hl; have q2 := p.hw; have q3 := p.hn; have q4 := (List.getElem?_eq_some_iff.1 hj).1; exact Ev.gc_dynL (c := p.c) (lp := rowPs p.ww p.ll b4 br nr bs ns bl nl r xs al) (args := [(.pointer (some ⟨b4, 0, none⟩)), (.agg #[(.int .i64 (s.kind)), (.int .i64 (s.am)), (.int .i64 (s.ns)), (s.act), (.int .i64 (s.gg)), (.bool true)])]) (ret := fun _ => .bool true) [fun v => Ev.blkA b4 [.int .i64 p.ww, .int .i64 p.ll, v, .map (some br), .map (some bs), .map (some bl), .int .i64 (stepS r s).mon] 51, fun v => Ev.mapA Try.prog 3 3 br (nr + 2) (stepS r s).runs, fun v => Ev.mapA Try.prog 3 3 bs (ns + 1000) (stepS r s).since, fun v => Ev.mapA Try.prog 3 3 bl (nl + 1) (stepS r s).last, fun v => Ev.slA 47 6 v (stepS r s).n (xs ++ s.cells)] [0, 1, 2, 3, 4] [] rfl rfl rfl rfl ⟨fun _ _ _ _ h => h, fun _ _ _ _ h => h, fun _ _ _ _ h => h, fun _ _ _ _ h => h, fun _ _ _ _ h => h, trivial⟩ (Ev.args_cons (Ev.isSym rfl) (Ev.args_cons (Ev.isAgg (Ev.args_cons (Ev.isSym rfl) (Ev.args_cons (Ev.isSym rfl) (Ev.args_cons (Ev.isSym rfl) (Ev.args_cons (Ev.isSym rfl) (Ev.args_cons (Ev.isSym rfl) (Ev.args_cons Ev.isBool Ev.args_nil))))))) Ev.args_nil)) (fun ι cd hcd => Ev.boolV') (fun w F ho hn hF => add_is hsafe ((p.hok s (List.mem_of_getElem? hj)).at ho) (hF_off (p.hok s (List.mem_of_getElem? hj)).hs hF) hA.hn hA.hnr hA.hns hA.hnl hA.lal p.hw p.hw2 hA.hv hA.hnsf (b := true) (by simpa using h1) hn)), (List.forall_mem_nil _)⟩)
theorem fbtY (p : FirP) (b4 br nr bs ns bl nl : Nat) (r : RowS) (xs : List Value) (al : Value) (j : Nat) (s : Smp) (hj : p.ss[j]? = some s) (hsafe : s.safe = true) (hA : AddOk p r nr ns nl xs al) (h1 : okS p.ww p.ll r s) : Ev.Pie Try.prog 11 [10, 0] 0 4 39 p.c [(2, (p.sv)), (8, (.pointer (some ⟨b4, 0, none⟩))), (24, (p.sv)), (25, (.int .i64 ((p.ss.length : Nat) : Int))), (26, (.int .i64 ((j : Nat) : Int)))] [Ev.blkA b4 [.int .i64 p.ww, .int .i64 p.ll, al, .map (some br), .map (some bs), .map (some bl), .int .i64 r.mon] 51, Ev.mapA Try.prog 3 3 br nr r.runs, Ev.mapA Try.prog 3 3 bs ns r.since, Ev.mapA Try.prog 3 3 bl nl r.last, Ev.slA 47 6 al r.n xs] .normal (fun κ : Ev.Ren => [(2, (p.sv)), (8, (.pointer (some ⟨b4, 0, none⟩))), (24, (p.sv)), (25, (.int .i64 ((p.ss.length : Nat) : Int))), (26, (.int .i64 (((j) + 1 : Nat) : Int)))]) (fun κ : Ev.Ren => [Ev.blkA b4 [.int .i64 p.ww, .int .i64 p.ll, (Ev.dec ((κ 407).getD 0)), .map (some br), .map (some bs), .map (some bl), .int .i64 (stepS r s).mon] 51, Ev.mapA Try.prog 3 3 br (nr + 2) (stepS r s).runs, Ev.mapA Try.prog 3 3 bs (ns + 1000) (stepS r s).since, Ev.mapA Try.prog 3 3 bl (nl + 1) (stepS r s).last, Ev.slA 47 6 (Ev.dec ((κ 407).getD 0)) (stepS r s).n (xs ++ s.cells)]) := (Ev.tri Try.codeOk mixed_ok (fbtY_k p b4 br nr bs ns bl nl r xs al j s hj hsafe hA h1) (fbtY_o p b4 br nr bs ns bl nl r xs al j s hj hsafe hA h1) (n := 200) (m := 100) (c := p.c) [] [] [] 0 1 [Ev.blkA b4 [.int .i64 p.ww, .int .i64 p.ll, al, .map (some br), .map (some bs), .map (some bl), .int .i64 r.mon] 51, Ev.mapA Try.prog 3 3 br nr r.runs, Ev.mapA Try.prog 3 3 bs ns r.since, Ev.mapA Try.prog 3 3 bl nl r.last, Ev.slA 47 6 al r.n xs] [Ev.atD 407 (fun v => Ev.blkA b4 [.int .i64 p.ww, .int .i64 p.ll, v, .map (some br), .map (some bs), .map (some bl), .int .i64 (stepS r s).mon] 51), Ev.atD 407 (fun v => Ev.mapA Try.prog 3 3 br (nr + 2) (stepS r s).runs), Ev.atD 407 (fun v => Ev.mapA Try.prog 3 3 bs (ns + 1000) (stepS r s).since), Ev.atD 407 (fun v => Ev.mapA Try.prog 3 3 bl (nl + 1) (stepS r s).last), Ev.atD 407 (fun v => Ev.slA 47 6 v (stepS r s).n (xs ++ s.cells))] rfl rfl [(2, sy 5), (8, sy 6), (24, sy 5), (25, sy 7), (26, sy 8)] [(2, sy 5), (8, sy 6), (24, sy 5), (25, sy 7), (26, sy 10)] .normal (by kernel_rfl) (fun gb => by kernel_rfl)).conv (fun κ w => ⟨(fun _ h => Ev.undy (fun _ _ _ _ _ h => h) h), (fun _ h => Ev.undy (fun _ _ _ _ _ h => h) h), (fun _ h => Ev.undy (fun _ _ _ _ _ h => h) h), (fun _ h => Ev.undy (fun _ _ _ _ _ h => h) h), (fun _ h => Ev.undy (fun _ _ _ _ _ h => h) h), trivial⟩)
@[reducible] def fbtN_k (p : FirP) (b4 br nr bs ns bl nl : Nat) (r : RowS) (xs : List Value) (al : Value) (j : Nat) (s : Smp) (hj : p.ss[j]? = some s) (hsafe : s.safe = true) (hA : AddOk p r nr ns nl xs al) (h1 : ¬ okS p.ww p.ll r s) : Ev.Kn := { val := fbt_v p b4 br nr bs ns bl nl r xs al j s hj hsafe hA, leaf := fbt_l p b4 br nr bs ns bl nl r xs al j s hj hsafe hA, bs := [(.lss, sy 8, sy 7, .bool true)], us := [], cs := [], ks := [], hb := (List.forall_mem_cons.2 ⟨(by intro t ox oy; exact Ev.bt_lss (by have q1 := p.hl; have q2 := p.hw; have q3 := p.hn; have q4 := (List.getElem?_eq_some_iff.1 hj).1; first | (simp; done) | (simp; omega))), (List.forall_mem_nil _)⟩), hu := (List.forall_mem_nil _), hc := (List.forall_mem_nil _), gs := [Ev.star (Ev.oldX p.W ((fun _ => False)) :: [Ev.blkA b4 [.int .i64 p.ww, .int .i64 p.ll, al, .map (some br), .map (some bs), .map (some bl), .int .i64 r.mon] 51, Ev.mapA Try.prog 3 3 br nr r.runs, Ev.mapA Try.prog 3 3 bs ns r.since, Ev.mapA Try.prog 3 3 bl nl r.last, Ev.slA 47 6 al r.n xs]), Ev.star (Ev.oldX p.W ((fun _ => False)) :: [Ev.atD 407 (fun v => Ev.blkA b4 [.int .i64 p.ww, .int .i64 p.ll, v, .map (some br), .map (some bs), .map (some bl), .int .i64 (stepS r s).mon] 51), Ev.atD 407 (fun v => Ev.mapA Try.prog 3 3 br (nr + 2) (stepS r s).runs), Ev.atD 407 (fun v => Ev.mapA Try.prog 3 3 bs (ns + 1000) (stepS r s).since), Ev.atD 407 (fun v => Ev.mapA Try.prog 3 3 bl (nl + 1) (stepS r s).last), Ev.atD 407 (fun v => Ev.slA 47 6 v (stepS r s).n (xs ++ s.cells))])], ops := [⟨[3, 31], [sy 5, sy 8], none, 0, none, sy 9, none⟩, ⟨[1, 47], [sy 9], none, 0, none, .agg #[sy 0, sy 1, sy 2, sy 3, sy 4, .bool true], none⟩], cls := [⟨21, [sy 6, .agg #[sy 0, sy 1, sy 2, sy 3, sy 4, .bool true]], 0, some 407, .bool false, some 1⟩] }
theorem fbtN_o (p : FirP) (b4 br nr bs ns bl nl : Nat) (r : RowS) (xs : List Value) (al : Value) (j : Nat) (s : Smp) (hj : p.ss[j]? = some s) (hsafe : s.safe = true) (hA : AddOk p r nr ns nl xs al) (h1 : ¬ okS p.ww p.ll r s) : @Ev.CalOK (fbtN_k p b4 br nr bs ns bl nl r xs al j s hj hsafe hA h1).sig Try.prog := Ev.Kn.ok (fbtN_k p b4 br nr bs ns bl nl r xs al j s hj hsafe hA h1) (fun q hq => by cases hq) (List.forall_mem_cons.2 ⟨(by obtain ⟨i, i1, i2, i3, i4⟩ := infoSamp; have q1 := p.hl; have q2 := p.hw; have q3 := p.hn; have q4 := (List.getElem?_eq_some_iff.1 hj).1; exact Ev.ro_index (ci := 0) (j := (j)) rfl rfl p.hs Try.underlying31 i1 i2 rfl rfl (by omega) rfl), (List.forall_mem_cons.2 ⟨(by have q1 := p.hl; have q2 := p.hw; have q3 := p.hn; have q4 := (List.getElem?_eq_some_iff.1 hj).1; exact Ev.ro_agg (ci := 0) (j := (j)) rfl rfl p.hs loadSamp (by omega) (smp_at hj hsafe) rfl (fun ι => (Ev.lrelCons (Ev.symT rfl) (Ev.lrelCons (Ev.symT rfl) (Ev.lrelCons (Ev.symT rfl) (Ev.lrelCons (Ev.symT rfl) (Ev.lrelCons (Ev.symT rfl) (Ev.lrelCons Ev.boolV' Ev.lrelNil))))))) (Ev.offNone _)), (List.forall_mem_nil _)⟩)⟩) (List.forall_mem_cons.2 ⟨(by have q1 := p.hl; have q2 := p.hw; have q3 := p.hn; have q4 := (List.getElem?_eq_some_iff.1 hj).1; exact Ev.gc_dynL (c := p.c) (lp := rowPs p.ww p.ll b4 br nr bs ns bl nl r xs al) (args := [(.pointer (some ⟨b4, 0, none⟩)), (.agg #[(.int .i64 (s.kind)), (.int .i64 (s.am)), (.int .i64 (s.ns)), (s.act), (.int .i64 (s.gg)), (.bool true)])]) (ret := fun _ => .bool false) [fun v => Ev.blkA b4 [.int .i64 p.ww, .int .i64 p.ll, v, .map (some br), .map (some bs), .map (some bl), .int .i64 (stepS r s).mon] 51, fun v => Ev.mapA Try.prog 3 3 br (nr + 2) (stepS r s).runs, fun v => Ev.mapA Try.prog 3 3 bs (ns + 1000) (stepS r s).since, fun v => Ev.mapA Try.prog 3 3 bl (nl + 1) (stepS r s).last, fun v => Ev.slA 47 6 v (stepS r s).n (xs ++ s.cells)] [0, 1, 2, 3, 4] [] rfl rfl rfl rfl ⟨fun _ _ _ _ h => h, fun _ _ _ _ h => h, fun _ _ _ _ h => h, fun _ _ _ _ h => h, fun _ _ _ _ h => h, trivial⟩ (Ev.args_cons (Ev.isSym rfl) (Ev.args_cons (Ev.isAgg (Ev.args_cons (Ev.isSym rfl) (Ev.args_cons (Ev.isSym rfl) (Ev.args_cons (Ev.isSym rfl) (Ev.args_cons (Ev.isSym rfl) (Ev.args_cons (Ev.isSym rfl) (Ev.args_cons Ev.isBool Ev.args_nil))))))) Ev.args_nil)) (fun ι cd hcd => Ev.boolV') (fun w F ho hn hF => add_is hsafe ((p.hok s (List.mem_of_getElem? hj)).at ho) (hF_off (p.hok s (List.mem_of_getElem? hj)).hs hF) hA.hn hA.hnr hA.hns hA.hnl hA.lal p.hw p.hw2 hA.hv hA.hnsf (b := false) (by simpa using h1) hn)), (List.forall_mem_nil _)⟩)
theorem fbtN (p : FirP) (b4 br nr bs ns bl nl : Nat) (r : RowS) (xs : List Value) (al : Value) (j : Nat) (s : Smp) (hj : p.ss[j]? = some s) (hsafe : s.safe = true) (hA : AddOk p r nr ns nl xs al) (h1 : ¬ okS p.ww p.ll r s) : Ev.Pie Try.prog 11 [10, 0] 0 4 39 p.c [(2, (p.sv)), (8, (.pointer (some ⟨b4, 0, none⟩))), (24, (p.sv)), (25, (.int .i64 ((p.ss.length : Nat) : Int))), (26, (.int .i64 ((j : Nat) : Int)))] [Ev.blkA b4 [.int .i64 p.ww, .int .i64 p.ll, al, .map (some br), .map (some bs), .map (some bl), .int .i64 r.mon] 51, Ev.mapA Try.prog 3 3 br nr r.runs, Ev.mapA Try.prog 3 3 bs ns r.since, Ev.mapA Try.prog 3 3 bl nl r.last, Ev.slA 47 6 al r.n xs] .ret (fun κ : Ev.Ren => [(6, (.int .i64 ((j : Nat) : Int))), (7, (.bool true))]) (fun κ : Ev.Ren => [Ev.blkA b4 [.int .i64 p.ww, .int .i64 p.ll, (Ev.dec ((κ 407).getD 0)), .map (some br), .map (some bs), .map (some bl), .int .i64 (stepS r s).mon] 51, Ev.mapA Try.prog 3 3 br (nr + 2) (stepS r s).runs, Ev.mapA Try.prog 3 3 bs (ns + 1000) (stepS r s).since, Ev.mapA Try.prog 3 3 bl (nl + 1) (stepS r s).last, Ev.slA 47 6 (Ev.dec ((κ 407).getD 0)) (stepS r s).n (xs ++ s.cells)]) := (Ev.tri Try.codeOk mixed_ok (fbtN_k p b4 br nr bs ns bl nl r xs al j s hj hsafe hA h1) (fbtN_o p b4 br nr bs ns bl nl r xs al j s hj hsafe hA h1) (n := 200) (m := 100) (c := p.c) [] [] [] 0 1 [Ev.blkA b4 [.int .i64 p.ww, .int .i64 p.ll, al, .map (some br), .map (some bs), .map (some bl), .int .i64 r.mon] 51, Ev.mapA Try.prog 3 3 br nr r.runs, Ev.mapA Try.prog 3 3 bs ns r.since, Ev.mapA Try.prog 3 3 bl nl r.last, Ev.slA 47 6 al r.n xs] [Ev.atD 407 (fun v => Ev.blkA b4 [.int .i64 p.ww, .int .i64 p.ll, v, .map (some br), .map (some bs), .map (some bl), .int .i64 (stepS r s).mon] 51), Ev.atD 407 (fun v => Ev.mapA Try.prog 3 3 br (nr + 2) (stepS r s).runs), Ev.atD 407 (fun v => Ev.mapA Try.prog 3 3 bs (ns + 1000) (stepS r s).since), Ev.atD 407 (fun v => Ev.mapA Try.prog 3 3 bl (nl + 1) (stepS r s).last), Ev.atD 407 (fun v => Ev.slA 47 6 v (stepS r s).n (xs ++ s.cells))] rfl rfl [(2, sy 5), (8, sy 6), (24, sy 5), (25, sy 7), (26, sy 8)] [(6, sy 8), (7, .bool true)] .ret (by kernel_rfl) (fun gb => by kernel_rfl)).conv (fun κ w => ⟨(fun _ h => Ev.undy (fun _ _ _ _ _ h => h) h), (fun _ h => Ev.undy (fun _ _ _ _ _ h => h) h), (fun _ h => Ev.undy (fun _ _ _ _ _ h => h) h), (fun _ h => Ev.undy (fun _ _ _ _ _ h => h) h), (fun _ h => Ev.undy (fun _ _ _ _ _ h => h) h), trivial⟩)
def fbf_v (p : FirP) (b4 br nr bs ns bl nl : Nat) (r : RowS) (xs : List Value) (al : Value) (j : Nat) (s : Smp) (hj : p.ss[j]? = some s) (hsafe : s.safe = false) (hA : AddOk p r nr ns nl xs al) : Nat → Value
  | 0 => .int .i64 (s.kind)
  | 1 => .int .i64 (s.am)
  | 2 => .int .i64 (s.ns)
  | 3 => s.act
  | 4 => .int .i64 (s.gg)
  | 5 => p.sv
  | 6 => .pointer (some ⟨b4, 0, none⟩)
  | 7 => .int .i64 ((p.ss.length : Nat) : Int)
  | 8 => .int .i64 ((j : Nat) : Int)
  | 9 => Ev.ptrR (p.sv) ((j) * 6)
  | 10 => .int .i64 (((j) + 1 : Nat) : Int)
  | _ => .int .i64 0
theorem fbf_l (p : FirP) (b4 br nr bs ns bl nl : Nat) (r : RowS) (xs : List Value) (al : Value) (j : Nat) (s : Smp) (hj : p.ss[j]? = some s) (hsafe : s.safe = false) (hA : AddOk p r nr ns nl xs al) : ∀ j9, Ev.leafV (fbf_v p b4 br nr bs ns bl nl r xs al j s hj hsafe hA j9) = true := by
  have q1 := p.hl; have q2 := p.hw; have q3 := p.hn; have q4 := (List.getElem?_eq_some_iff.1 hj).1; intro j9
  unfold fbf_v
  split <;> first | rfl | assumption | exact p.hs.leaf | exact Ev.ptrR_leaf _ _ | exact (p.hok s (List.mem_of_getElem? hj)).hs.leaf
@[reducible] def fbfY_k (p : FirP) (b4 br nr bs ns bl nl : Nat) (r : RowS) (xs : List Value) (al : Value) (j : Nat) (s : Smp) (hj : p.ss[j]? = some s) (hsafe : s.safe = false) (hA : AddOk p r nr ns nl xs al) (h1 : okS p.ww p.ll r s) : Ev.Kn := { val := fbf_v p b4 br nr bs ns bl nl r xs al j s hj hsafe hA, leaf := fbf_l p b4 br nr bs ns bl nl r xs al j s hj hsafe hA, bs := [(.lss, sy 8, sy 7, .bool true), (.add, sy 8, .int .i64 1, sy 10)], us := [], cs := [], ks := [], hb := (List.forall_mem_cons.2 ⟨(by intro t ox oy; exact Ev.bt_lss (by have q1 := p.hl; have q2 := p.hw; have q3 := p.hn; have q4 := (List.getElem?_eq_some_iff.1 hj).1; first | (simp; done) | (simp; omega))), (List.forall_mem_cons.2 ⟨(by intro t ox oy; exact Ev.bt_add (by have q1 := p.hl; have q2 := p.hw; have q3 := p.hn; have q4 := (List.getElem?_eq_some_iff.1 hj).1; rw [wrap_ok (by omega) (by omega)]; omega)), (List.forall_mem_nil _)⟩)⟩), hu := (List.forall_mem_nil _), hc := (List.forall_mem_nil _), gs := [Ev.star (Ev.oldX p.W ((fun _ => False)) :: [Ev.blkA b4 [.int .i64 p.ww, .int .i64 p.ll, al, .map (some br), .map (some bs), .map (some bl), .int .i64 r.mon] 51, Ev.mapA Try.prog 3 3 br nr r.runs, Ev.mapA Try.prog 3 3 bs ns r.since, Ev.mapA Try.prog 3 3 bl nl r.last, Ev.slA 47 6 al r.n xs]), Ev.star (Ev.oldX p.W ((fun _ => False)) :: [Ev.atD 407 (fun v => Ev.blkA b4 [.int .i64 p.ww, .int .i64 p.ll, v, .map (some br), .map (some bs), .map (some bl), .int .i64 (stepS r s).mon] 51), Ev.atD 407 (fun v => Ev.mapA Try.prog 3 3 br (nr + 2) (stepS r s).runs), Ev.atD 407 (fun v => Ev.mapA Try.prog 3 3 bs (ns + 1000) (stepS r s).since), Ev.atD 407 (fun v => Ev.mapA Try.prog 3 3 bl (nl + 1) (stepS r s).last), Ev.atD 407 (fun v => Ev.slA 47 6 v (stepS r s).n (xs ++ s.cells))])], ops := [⟨[3, 31], [sy 5, sy 8], none, 0, none, sy 9, none⟩, ⟨[1, 47], [sy 9], none, 0, none, .agg #[sy 0, sy 1, sy 2, sy 3, sy 4, .bool false], none⟩], cls := [⟨21, [sy 6, .agg #[sy 0, sy 1, sy 2, sy 3, sy 4, .bool false]], 0, some 407, .bool true, some 1⟩] }
theorem fbfY_o (p : FirP) (b4 br nr bs ns bl nl : Nat) (r : RowS) (xs : List Value) (al : Value) (j : Nat) (s : Smp) (hj : p.ss[j]? = some s) (hsafe : s.safe = false) (hA : AddOk p r nr ns nl xs al) (h1 : okS p.ww p.ll r s) : @Ev.CalOK (fbfY_k p b4 br nr bs ns bl nl r xs al j s hj hsafe hA h1).sig Try.prog := Ev.Kn.ok (fbfY_k p b4 br nr bs ns bl nl r xs al j s hj hsafe hA h1) (fun q hq => by cases hq) (List.forall_mem_cons.2 ⟨(by obtain ⟨i, i1, i2, i3, i4⟩ := infoSamp; have q1 := p.hl; have q2 := p.hw; have q3 := p.hn; have q4 := (List.getElem?_eq_some_iff.1 hj).1; exact Ev.ro_index (ci := 0) (j := (j)) rfl rfl p.hs Try.underlying31 i1 i2 rfl rfl (by omega) rfl), (List.forall_mem_cons.2 ⟨(by have q1 := p.hl; have q2 := p.hw; have q3 := p.hn; have q4 := (List.getElem?_eq_some_iff.1 hj).1; exact Ev.ro_agg (ci := 0) (j := (j)) rfl rfl p.hs loadSamp (by omega) (smp_at hj hsafe) rfl (fun ι => (Ev.lrelCons (Ev.symT rfl) (Ev.lrelCons (Ev.symT rfl) (Ev.lrelCons (Ev.symT rfl) (Ev.lrelCons (Ev.symT rfl) (Ev.lrelCons (Ev.symT rfl) (Ev.lrelCons Ev.boolV' Ev.lrelNil))))))) (Ev.offNone _)), (List.forall_mem_nil _)⟩)⟩) (List.forall_mem_cons.2 ⟨(by have q1 := p.hl; have q2 := p.hw; have q3 := p.hn; have q4 := (List.getElem?_eq_some_iff.1 hj).1; exact Ev.gc_dynL (c := p.c) (lp := rowPs p.ww p.ll b4 br nr bs ns bl nl r xs al) (args := [(.pointer (some ⟨b4, 0, none⟩)), (.agg #[(.int .i64 (s.kind)), (.int .i64 (s.am)), (.int .i64 (s.ns)), (s.act), (.int .i64 (s.gg)), (.bool false)])]) (ret := fun _ => .bool true) [fun v => Ev.blkA b4 [.int .i64 p.ww, .int .i64 p.ll, v, .map (some br), .map (some bs), .map (some bl), .int .i64 (stepS r s).mon] 51, fun v => Ev.mapA Try.prog 3 3 br (nr + 2) (stepS r s).runs, fun v => Ev.mapA Try.prog 3 3 bs (ns + 1000) (stepS r s).since, fun v => Ev.mapA Try.prog 3 3 bl (nl + 1) (stepS r s).last, fun v => Ev.slA 47 6 v (stepS r s).n (xs ++ s.cells)] [0, 1, 2, 3, 4] [] rfl rfl rfl rfl ⟨fun _ _ _ _ h => h, fun _ _ _ _ h => h, fun _ _ _ _ h => h, fun _ _ _ _ h => h, fun _ _ _ _ h => h, trivial⟩ (Ev.args_cons (Ev.isSym rfl) (Ev.args_cons (Ev.isAgg (Ev.args_cons (Ev.isSym rfl) (Ev.args_cons (Ev.isSym rfl) (Ev.args_cons (Ev.isSym rfl) (Ev.args_cons (Ev.isSym rfl) (Ev.args_cons (Ev.isSym rfl) (Ev.args_cons Ev.isBool Ev.args_nil))))))) Ev.args_nil)) (fun ι cd hcd => Ev.boolV') (fun w F ho hn hF => add_is hsafe ((p.hok s (List.mem_of_getElem? hj)).at ho) (hF_off (p.hok s (List.mem_of_getElem? hj)).hs hF) hA.hn hA.hnr hA.hns hA.hnl hA.lal p.hw p.hw2 hA.hv hA.hnsf (b := true) (by simpa using h1) hn)), (List.forall_mem_nil _)⟩)
theorem fbfY (p : FirP) (b4 br nr bs ns bl nl : Nat) (r : RowS) (xs : List Value) (al : Value) (j : Nat) (s : Smp) (hj : p.ss[j]? = some s) (hsafe : s.safe = false) (hA : AddOk p r nr ns nl xs al) (h1 : okS p.ww p.ll r s) : Ev.Pie Try.prog 11 [10, 0] 0 4 39 p.c [(2, (p.sv)), (8, (.pointer (some ⟨b4, 0, none⟩))), (24, (p.sv)), (25, (.int .i64 ((p.ss.length : Nat) : Int))), (26, (.int .i64 ((j : Nat) : Int)))] [Ev.blkA b4 [.int .i64 p.ww, .int .i64 p.ll, al, .map (some br), .map (some bs), .map (some bl), .int .i64 r.mon] 51, Ev.mapA Try.prog 3 3 br nr r.runs, Ev.mapA Try.prog 3 3 bs ns r.since, Ev.mapA Try.prog 3 3 bl nl r.last, Ev.slA 47 6 al r.n xs] .normal (fun κ : Ev.Ren => [(2, (p.sv)), (8, (.pointer (some ⟨b4, 0, none⟩))), (24, (p.sv)), (25, (.int .i64 ((p.ss.length : Nat) : Int))), (26, (.int .i64 (((j) + 1 : Nat) : Int)))]) (fun κ : Ev.Ren => [Ev.blkA b4 [.int .i64 p.ww, .int .i64 p.ll, (Ev.dec ((κ 407).getD 0)), .map (some br), .map (some bs), .map (some bl), .int .i64 (stepS r s).mon] 51, Ev.mapA Try.prog 3 3 br (nr + 2) (stepS r s).runs, Ev.mapA Try.prog 3 3 bs (ns + 1000) (stepS r s).since, Ev.mapA Try.prog 3 3 bl (nl + 1) (stepS r s).last, Ev.slA 47 6 (Ev.dec ((κ 407).getD 0)) (stepS r s).n (xs ++ s.cells)]) := (Ev.tri Try.codeOk mixed_ok (fbfY_k p b4 br nr bs ns bl nl r xs al j s hj hsafe hA h1) (fbfY_o p b4 br nr bs ns bl nl r xs al j s hj hsafe hA h1) (n := 200) (m := 100) (c := p.c) [] [] [] 0 1 [Ev.blkA b4 [.int .i64 p.ww, .int .i64 p.ll, al, .map (some br), .map (some bs), .map (some bl), .int .i64 r.mon] 51, Ev.mapA Try.prog 3 3 br nr r.runs, Ev.mapA Try.prog 3 3 bs ns r.since, Ev.mapA Try.prog 3 3 bl nl r.last, Ev.slA 47 6 al r.n xs] [Ev.atD 407 (fun v => Ev.blkA b4 [.int .i64 p.ww, .int .i64 p.ll, v, .map (some br), .map (some bs), .map (some bl), .int .i64 (stepS r s).mon] 51), Ev.atD 407 (fun v => Ev.mapA Try.prog 3 3 br (nr + 2) (stepS r s).runs), Ev.atD 407 (fun v => Ev.mapA Try.prog 3 3 bs (ns + 1000) (stepS r s).since), Ev.atD 407 (fun v => Ev.mapA Try.prog 3 3 bl (nl + 1) (stepS r s).last), Ev.atD 407 (fun v => Ev.slA 47 6 v (stepS r s).n (xs ++ s.cells))] rfl rfl [(2, sy 5), (8, sy 6), (24, sy 5), (25, sy 7), (26, sy 8)] [(2, sy 5), (8, sy 6), (24, sy 5), (25, sy 7), (26, sy 10)] .normal (by kernel_rfl) (fun gb => by kernel_rfl)).conv (fun κ w => ⟨(fun _ h => Ev.undy (fun _ _ _ _ _ h => h) h), (fun _ h => Ev.undy (fun _ _ _ _ _ h => h) h), (fun _ h => Ev.undy (fun _ _ _ _ _ h => h) h), (fun _ h => Ev.undy (fun _ _ _ _ _ h => h) h), (fun _ h => Ev.undy (fun _ _ _ _ _ h => h) h), trivial⟩)
@[reducible] def fbfN_k (p : FirP) (b4 br nr bs ns bl nl : Nat) (r : RowS) (xs : List Value) (al : Value) (j : Nat) (s : Smp) (hj : p.ss[j]? = some s) (hsafe : s.safe = false) (hA : AddOk p r nr ns nl xs al) (h1 : ¬ okS p.ww p.ll r s) : Ev.Kn := { val := fbf_v p b4 br nr bs ns bl nl r xs al j s hj hsafe hA, leaf := fbf_l p b4 br nr bs ns bl nl r xs al j s hj hsafe hA, bs := [(.lss, sy 8, sy 7, .bool true)], us := [], cs := [], ks := [], hb := (List.forall_mem_cons.2 ⟨(by intro t ox oy; exact Ev.bt_lss (by have q1 := p.hl; have q2 := p.hw; have q3 := p.hn; have q4 := (List.getElem?_eq_some_iff.1 hj).1; first | (simp; done) | (simp; omega))), (List.forall_mem_nil _)⟩), hu := (List.forall_mem_nil _), hc := (List.forall_mem_nil _), gs := [Ev.star (Ev.oldX p.W ((fun _ => False)) :: [Ev.blkA b4 [.int .i64 p.ww, .int .i64 p.ll, al, .map (some br), .map (some bs), .map (some bl), .int .i64 r.mon] 51, Ev.mapA Try.prog 3 3 br nr r.runs, Ev.mapA Try.prog 3 3 bs ns r.since, Ev.mapA Try.prog 3 3 bl nl r.last, Ev.slA 47 6 al r.n xs]), Ev.star (Ev.oldX p.W ((fun _ => False)) :: [Ev.atD 407 (fun v => Ev.blkA b4 [.int .i64 p.ww, .int .i64 p.ll, v, .map (some br), .map (some bs), .map (some bl), .int .i64 (stepS r s).mon] 51), Ev.atD 407 (fun v => Ev.mapA Try.prog 3 3 br (nr + 2) (stepS r s).runs), Ev.atD 407 (fun v => Ev.mapA Try.prog 3 3 bs (ns + 1000) (stepS r s).since), Ev.atD 407 (fun v => Ev.mapA Try.prog 3 3 bl (nl + 1) (stepS r s).last), Ev.atD 407 (fun v => Ev.slA 47 6 v (stepS r s).n (xs ++ s.cells))])], ops := [⟨[3, 31], [sy 5, sy 8], none, 0, none, sy 9, none⟩, ⟨[1, 47], [sy 9], none, 0, none, .agg #[sy 0, sy 1, sy 2, sy 3, sy 4, .bool false], none⟩], cls := [⟨21, [sy 6, .agg #[sy 0, sy 1, sy 2, sy 3, sy 4, .bool false]], 0, some 407, .bool false, some 1⟩] }
theorem fbfN_o (p : FirP) (b4 br nr bs ns bl nl : Nat) (r : RowS) (xs : List Value) (al : Value) (j : Nat) (s : Smp) (hj : p.ss[j]? = some s) (hsafe : s.safe = false) (hA : AddOk p r nr ns nl xs al) (h1 : ¬ okS p.ww p.ll r s) : @Ev.CalOK (fbfN_k p b4 br nr bs ns bl nl r xs al j s hj hsafe hA h1).sig Try.prog := Ev.Kn.ok (fbfN_k p b4 br nr bs ns bl nl r xs al j s hj hsafe hA h1) (fun q hq => by cases hq) (List.forall_mem_cons.2 ⟨(by obtain ⟨i, i1, i2, i3, i4⟩ := infoSamp; have q1 := p.hl; have q2 := p.hw; have q3 := p.hn; have q4 := (List.getElem?_eq_some_iff.1 hj).1; exact Ev.ro_index (ci := 0) (j := (j)) rfl rfl p.hs Try.underlying31 i1 i2 rfl rfl (by omega) rfl), (List.forall_mem_cons.2 ⟨(by have q1 := p.hl; have q2 := p.hw; have q3 := p.hn; have q4 := (List.getElem?_eq_some_iff.1 hj).1; exact Ev.ro_agg (ci := 0) (j := (j)) rfl rfl p.hs loadSamp (by omega) (smp_at hj hsafe) rfl (fun ι => (Ev.lrelCons (Ev.symT rfl) (Ev.lrelCons (Ev.symT rfl) (Ev.lrelCons (Ev.symT rfl) (Ev.lrelCons (Ev.symT rfl) (Ev.lrelCons (Ev.symT rfl) (Ev.lrelCons Ev.boolV' Ev.lrelNil))))))) (Ev.offNone _)), (List.forall_mem_nil _)⟩)⟩) (List.forall_mem_cons.2 ⟨(by have q1 := p.hl; have q2 := p.hw; have q3 := p.hn; have q4 := (List.getElem?_eq_some_iff.1 hj).1; exact Ev.gc_dynL (c := p.c) (lp := rowPs p.ww p.ll b4 br nr bs ns bl nl r xs al) (args := [(.pointer (some ⟨b4, 0, none⟩)), (.agg #[(.int .i64 (s.kind)), (.int .i64 (s.am)), (.int .i64 (s.ns)), (s.act), (.int .i64 (s.gg)), (.bool false)])]) (ret := fun _ => .bool false) [fun v => Ev.blkA b4 [.int .i64 p.ww, .int .i64 p.ll, v, .map (some br), .map (some bs), .map (some bl), .int .i64 (stepS r s).mon] 51, fun v => Ev.mapA Try.prog 3 3 br (nr + 2) (stepS r s).runs, fun v => Ev.mapA Try.prog 3 3 bs (ns + 1000) (stepS r s).since, fun v => Ev.mapA Try.prog 3 3 bl (nl + 1) (stepS r s).last, fun v => Ev.slA 47 6 v (stepS r s).n (xs ++ s.cells)] [0, 1, 2, 3, 4] [] rfl rfl rfl rfl ⟨fun _ _ _ _ h => h, fun _ _ _ _ h => h, fun _ _ _ _ h => h, fun _ _ _ _ h => h, fun _ _ _ _ h => h, trivial⟩ (Ev.args_cons (Ev.isSym rfl) (Ev.args_cons (Ev.isAgg (Ev.args_cons (Ev.isSym rfl) (Ev.args_cons (Ev.isSym rfl) (Ev.args_cons (Ev.isSym rfl) (Ev.args_cons (Ev.isSym rfl) (Ev.args_cons (Ev.isSym rfl) (Ev.args_cons Ev.isBool Ev.args_nil))))))) Ev.args_nil)) (fun ι cd hcd => Ev.boolV') (fun w F ho hn hF => add_is hsafe ((p.hok s (List.mem_of_getElem? hj)).at ho) (hF_off (p.hok s (List.mem_of_getElem? hj)).hs hF) hA.hn hA.hnr hA.hns hA.hnl hA.lal p.hw p.hw2 hA.hv hA.hnsf (b := false) (by simpa using h1) hn)), (List.forall_mem_nil _)⟩)
theorem fbfN (p : FirP) (b4 br nr bs ns bl nl : Nat) (r : RowS) (xs : List Value) (al : Value) (j : Nat) (s : Smp) (hj : p.ss[j]? = some s) (hsafe : s.safe = false) (hA : AddOk p r nr ns nl xs al) (h1 : ¬ okS p.ww p.ll r s) : Ev.Pie Try.prog 11 [10, 0] 0 4 39 p.c [(2, (p.sv)), (8, (.pointer (some ⟨b4, 0, none⟩))), (24, (p.sv)), (25, (.int .i64 ((p.ss.length : Nat) : Int))), (26, (.int .i64 ((j : Nat) : Int)))] [Ev.blkA b4 [.int .i64 p.ww, .int .i64 p.ll, al, .map (some br), .map (some bs), .map (some bl), .int .i64 r.mon] 51, Ev.mapA Try.prog 3 3 br nr r.runs, Ev.mapA Try.prog 3 3 bs ns r.since, Ev.mapA Try.prog 3 3 bl nl r.last, Ev.slA 47 6 al r.n xs] .ret (fun κ : Ev.Ren => [(6, (.int .i64 ((j : Nat) : Int))), (7, (.bool true))]) (fun κ : Ev.Ren => [Ev.blkA b4 [.int .i64 p.ww, .int .i64 p.ll, (Ev.dec ((κ 407).getD 0)), .map (some br), .map (some bs), .map (some bl), .int .i64 (stepS r s).mon] 51, Ev.mapA Try.prog 3 3 br (nr + 2) (stepS r s).runs, Ev.mapA Try.prog 3 3 bs (ns + 1000) (stepS r s).since, Ev.mapA Try.prog 3 3 bl (nl + 1) (stepS r s).last, Ev.slA 47 6 (Ev.dec ((κ 407).getD 0)) (stepS r s).n (xs ++ s.cells)]) := (Ev.tri Try.codeOk mixed_ok (fbfN_k p b4 br nr bs ns bl nl r xs al j s hj hsafe hA h1) (fbfN_o p b4 br nr bs ns bl nl r xs al j s hj hsafe hA h1) (n := 200) (m := 100) (c := p.c) [] [] [] 0 1 [Ev.blkA b4 [.int .i64 p.ww, .int .i64 p.ll, al, .map (some br), .map (some bs), .map (some bl), .int .i64 r.mon] 51, Ev.mapA Try.prog 3 3 br nr r.runs, Ev.mapA Try.prog 3 3 bs ns r.since, Ev.mapA Try.prog 3 3 bl nl r.last, Ev.slA 47 6 al r.n xs] [Ev.atD 407 (fun v => Ev.blkA b4 [.int .i64 p.ww, .int .i64 p.ll, v, .map (some br), .map (some bs), .map (some bl), .int .i64 (stepS r s).mon] 51), Ev.atD 407 (fun v => Ev.mapA Try.prog 3 3 br (nr + 2) (stepS r s).runs), Ev.atD 407 (fun v => Ev.mapA Try.prog 3 3 bs (ns + 1000) (stepS r s).since), Ev.atD 407 (fun v => Ev.mapA Try.prog 3 3 bl (nl + 1) (stepS r s).last), Ev.atD 407 (fun v => Ev.slA 47 6 v (stepS r s).n (xs ++ s.cells))] rfl rfl [(2, sy 5), (8, sy 6), (24, sy 5), (25, sy 7), (26, sy 8)] [(6, sy 8), (7, .bool true)] .ret (by kernel_rfl) (fun gb => by kernel_rfl)).conv (fun κ w => ⟨(fun _ h => Ev.undy (fun _ _ _ _ _ h => h) h), (fun _ h => Ev.undy (fun _ _ _ _ _ h => h) h), (fun _ h => Ev.undy (fun _ _ _ _ _ h => h) h), (fun _ h => Ev.undy (fun _ _ _ _ _ h => h) h), (fun _ h => Ev.undy (fun _ _ _ _ _ h => h) h), trivial⟩)
end Go.Proofs.Ytjcibnfaijdgnaa

namespace Go.Proofs.Ytjcibnfaijdgnaa
open Go.RowKit
open Go.Ev (sy)
set_option linter.unusedVariables false
set_option linter.unusedSimpArgs false

/-- The first sample with which a row is not fair. -/
def firstIs (w l : Int) (ss : List Smp) (n : Nat) (b : Bool) : Prop :=
  (∀ i, i < n → okAt w l ss i) ∧ ((b = true ∧ n < ss.length ∧ ¬ okAt w l ss n) ∨ (b = false ∧ n = ss.length))
def FirP.R (p : FirP) (e : Ending) (w' : World) : Prop := ∃ n b, e = .returned (.tuple #[.int .i64 (n : Nat), .bool b]) ∧ firstIs p.ww p.ll p.ss n b ∧ Below p.W.heap.size p.W w'
theorem first_ok (p : FirP) : Calls Try.prog 11 #[.int .i64 p.ll, .int .i64 p.ww, p.sv] p.W p.R := by
  have q1 := p.hn
  refine Ev.con_start (N := 39) (tm := [(0, .int .i64 p.ll), (1, .int .i64 p.ww), (2, p.sv)]) (by kernel_rfl) (Ev.now_nil p.W) (by simp) (by simp) (fun A h => ?_)
  refine faA p A p.W _ h ?_
  intro κ A1 w1 h1
  refine faB p A1 w1 _ h1 ?_
  intro κ A2 w2 h2
  obtain ⟨hsz, hdf, htm, hh⟩ := h2
  obtain ⟨br, e1, hh⟩ := (hh.sel [1, 0, 2, 3] (by kernel_rfl)).mapV
  obtain ⟨bs, e2, hh⟩ := (hh.sel [2, 0, 1, 3] (by kernel_rfl)).mapV
  obtain ⟨bl, e3, hh⟩ := (hh.sel [3, 0, 1, 2] (by kernel_rfl)).mapV
  have hh := hh.nilSl (e := 47) (sz := 6)
  obtain ⟨b4, hb4⟩ : ∃ b, b = (κ 412).getD 0 := ⟨_, rfl⟩
  have htm' : Ev.Tm [(2, p.sv), (8, .pointer (some ⟨b4, 0, none⟩)), (24, p.sv), (25, .int .i64 (p.ss.length : Int)), (26, .int .i64 0)] A2 := by rw [hb4]; exact htm
  refine Ev.in_block (id := 0) (by kernel_rfl) ?_
  refine Ev.loop_st (by kernel_rfl) (fun (j : Nat) A w => ∃ al, Ev.leafV al = true ∧ j ≤ p.ss.length ∧ (∀ i, i < j → okAt p.ww p.ll p.ss i) ∧ Ev.At p.c 39 [(2, p.sv), (8, .pointer (some ⟨b4, 0, none⟩)), (24, p.sv), (25, .int .i64 (p.ss.length : Int)), (26, .int .i64 (j : Int))] (rowPs p.ww p.ll b4 br (2 * j) bs (1000 * j) bl j (rowAt p.ss j) ((p.ss.take j).flatMap Smp.cells) al) A w) (fun j => p.ss.length - j) (x := 0) ⟨.slice none 0 0, rfl, Nat.zero_le _, fun i hi => absurd hi (Nat.not_lt_zero i), hsz, hdf, htm', ?_⟩ ?_
  · have hh' := hh.sel [4, 3, 2, 1, 0] (by kernel_rfl)
    have e : ∀ v : Value, ∀ b, v = .map (some b) → v = .map (some b) := fun _ _ h => h
    simp only [e1, e2, e3] at hh'
    rw [hb4]
    exact hh'
  clear hh htm htm' hsz hdf h1 h hb4 A
  rintro j A w ⟨al, lal, hj, hok, h⟩
  by_cases hlt : j < p.ss.length
  · have hs : p.ss[j]? = some p.ss[j] := List.getElem?_eq_getElem hlt
    have hn := rowAt_n (ss := p.ss) (k := j) hj
    have hA : AddOk p (rowAt p.ss j) (2 * j) (1000 * j) j ((p.ss.take j).flatMap Smp.cells) al := by
      refine ⟨by omega, by unfold maxLen; omega, by unfold maxLen; omega, by unfold maxLen; omega, lal, fun g => ?_, fun i hi => xs_ns hj i (by omega)⟩
      have := rowAt_runs (ss := p.ss) hj g
      omega
    have fin : ∀ A1 w1 (l : List Ev.Asr), ¬ okS p.ww p.ll (rowAt p.ss j) p.ss[j] → Ev.At p.c 39 [(6, .int .i64 (j : Int)), (7, .bool true)] l A1 w1 → bodyPostM Fence.wide 0 Try.prog (Ev.fnOf Try.prog 11) p.R .ret A1 w1 := by
      intro A1 w1 l hno h1
      refine h1.ret2 (i := 6) (j := 7) (v := .int .i64 (j : Int)) (x := .bool true) (by kernel_rfl) (by simp) (by simp) (fun hh => ⟨j, true, rfl, ⟨hok, .inl ⟨rfl, hlt, fun ⟨s, e1, e2⟩ => ?_⟩⟩, hh.below (fun _ h => h)⟩)
      rw [hs] at e1
      cases e1
      exact hno e2
    have go : ∀ (v : Value) A1 w1, Ev.leafV v = true → okS p.ww p.ll (rowAt p.ss j) p.ss[j] → Ev.At p.c 39 [(2, p.sv), (8, .pointer (some ⟨b4, 0, none⟩)), (24, p.sv), (25, .int .i64 (p.ss.length : Int)), (26, .int .i64 ((j + 1 : Nat) : Int))] (rowPs p.ww p.ll b4 br (2 * j + 2) bs (1000 * j + 1000) bl (j + 1) (stepS (rowAt p.ss j) p.ss[j]) ((p.ss.take j).flatMap Smp.cells ++ p.ss[j].cells) v) A1 w1 →
        ∃ y, (∃ al, Ev.leafV al = true ∧ y ≤ p.ss.length ∧ (∀ i, i < y → okAt p.ww p.ll p.ss i) ∧ Ev.At p.c 39 [(2, p.sv), (8, .pointer (some ⟨b4, 0, none⟩)), (24, p.sv), (25, .int .i64 (p.ss.length : Int)), (26, .int .i64 (y : Int))] (rowPs p.ww p.ll b4 br (2 * y) bs (1000 * y) bl y (rowAt p.ss y) ((p.ss.take y).flatMap Smp.cells) al) A1 w1) ∧ p.ss.length - y < p.ss.length - j := by
      intro v A1 w1 lv hyes h1
      refine ⟨j + 1, ⟨v, lv, hlt, fun i hi => ?_, ?_⟩, by omega⟩
      · rcases Nat.lt_succ_iff_lt_or_eq.1 hi with hi | rfl
        · exact hok i hi
        · exact ⟨_, hs, hyes⟩
      · rw [rowAt_succ hs, List.take_succ_eq_append_getElem hlt, List.flatMap_append]
        simp only [List.flatMap_cons, List.flatMap_nil, List.append_nil]
        exact h1
    by_cases hyes : okS p.ww p.ll (rowAt p.ss j) p.ss[j]
    · cases hsafe : p.ss[j].safe with
      | true =>
        refine fbtY p b4 br (2 * j) bs (1000 * j) bl j (rowAt p.ss j) ((p.ss.take j).flatMap Smp.cells) al j p.ss[j] hs hsafe hA hyes A w _ h ?_
        intro κ A1 w1 h1
        exact Ev.wpL_nil (by kernel_rfl) (go _ A1 w1 (Ev.dec_leaf _) hyes h1)
      | false =>
        refine fbfY p b4 br (2 * j) bs (1000 * j) bl j (rowAt p.ss j) ((p.ss.take j).flatMap Smp.cells) al j p.ss[j] hs hsafe hA hyes A w _ h ?_
        intro κ A1 w1 h1
        exact Ev.wpL_nil (by kernel_rfl) (go _ A1 w1 (Ev.dec_leaf _) hyes h1)
    · cases hsafe : p.ss[j].safe with
      | true =>
        refine fbtN p b4 br (2 * j) bs (1000 * j) bl j (rowAt p.ss j) ((p.ss.take j).flatMap Smp.cells) al j p.ss[j] hs hsafe hA hyes A w _ h ?_
        intro κ A1 w1 h1
        exact fin A1 w1 _ hyes h1
      | false =>
        refine fbfN p b4 br (2 * j) bs (1000 * j) bl j (rowAt p.ss j) ((p.ss.take j).flatMap Smp.cells) al j p.ss[j] hs hsafe hA hyes A w _ h ?_
        intro κ A1 w1 h1
        exact fin A1 w1 _ hyes h1
  · obtain rfl : j = p.ss.length := by omega
    refine feE p b4 br (2 * p.ss.length) bs (1000 * p.ss.length) bl p.ss.length (rowAt p.ss p.ss.length) ((p.ss.take p.ss.length).flatMap Smp.cells) al p.ss.length A w _ h ?_
    intro κ A1 w1 h1
    refine faZ p A1 w1 _ (h1.to (fun q hq => hq) (fun hh => hh.sel [] (by kernel_rfl))) ?_
    intro κ A2 w2 h2
    exact h2.ret2 (i := 6) (j := 7) (v := .int .i64 (p.ss.length : Int)) (x := .bool false) (by kernel_rfl) (by simp) (by simp) (fun hh => ⟨p.ss.length, false, rfl, ⟨hok, .inr ⟨rfl, rfl⟩⟩, hh.below (fun _ h => h)⟩)
end Go.Proofs.Ytjcibnfaijdgnaa

namespace Go.Proofs.Ytjcibnfaijdgnaa
open Go.RowKit
set_option linter.unusedVariables false
set_option linter.unusedSimpArgs false

/-! ### The clock -/
theorem wrapU_ok {n : Int} (h1 : 0 ≤ n) (h2 : n < 18446744073709551616) : IntKind.u64.wrap n = n := by
  unfold IntKind.wrap
  simp [IntKind.signed, IntKind.bits]
  omega
theorem wrapU_bd (n : Int) : 0 ≤ IntKind.u64.wrap n ∧ IntKind.u64.wrap n < 18446744073709551616 := by
  unfold IntKind.wrap
  simp [IntKind.signed, IntKind.bits]
  omega
def gAdd (ns : Int) : Int := min (IntKind.u64.wrap (max 0 ns)) 4611686018427387904
theorem gAdd_bd (ns : Int) : 0 ≤ gAdd ns ∧ gAdd ns ≤ 4611686018427387904 := by
  unfold gAdd
  have := wrapU_bd (max 0 ns)
  omega
theorem gStep_eq {g : Int} (ns : Int) (h1 : 0 ≤ g) (h2 : g ≤ 4611686018427387904) : gStep g ns = min (g + gAdd ns) 4611686018427387904 := by
  have hq := gAdd_bd ns
  unfold gStep
  rw [show min (IntKind.u64.wrap (max 0 ns)) 4611686018427387904 = gAdd ns from rfl]
  rw [wrapU_ok (n := 0 + min g 4611686018427387904) (by omega) (by omega), wrapU_ok (by omega) (by omega)]
  omega
theorem clk_bd (nsf : Nat → Int) (fn : Nat) : ∀ j, 0 ≤ clk nsf fn j ∧ clk nsf fn j ≤ 4611686018427387904
  | 0 => ⟨Int.le_refl _, by show (0 : Int) ≤ _; omega⟩
  | j + 1 => by
    have ih := clk_bd nsf fn j
    have hq := gAdd_bd (nsf (fn + j))
    show 0 ≤ gStep (clk nsf fn j) (nsf (fn + j)) ∧ gStep (clk nsf fn j) (nsf (fn + j)) ≤ _
    rw [gStep_eq _ ih.1 ih.2]
    omega
theorem clk_shift (nsf : Nat → Int) (fn d : Nat) : ∀ j, clk nsf (fn + d) j ≤ clk nsf fn (d + j)
  | 0 => (clk_bd nsf fn d).1
  | j + 1 => by
    have ih := clk_shift nsf fn d j
    have b1 := clk_bd nsf (fn + d) j
    have b2 := clk_bd nsf fn (d + j)
    show gStep (clk nsf (fn + d) j) (nsf (fn + d + j)) ≤ gStep (clk nsf fn (d + j)) (nsf (fn + (d + j)))
    rw [gStep_eq _ b1.1 b1.2, gStep_eq _ b2.1 b2.2, Nat.add_assoc]
    omega
theorem clk_congr {nsf nsf' : Nat → Int} {a a' : Nat} : ∀ {k : Nat}, (∀ j, j < k → nsf (a + j) = nsf' (a' + j)) → clk nsf a k = clk nsf' a' k
  | 0, _ => rfl
  | k + 1, h => by
    show gStep (clk nsf a k) (nsf (a + k)) = gStep (clk nsf' a' k) (nsf' (a' + k))
    rw [clk_congr (fun j hj => h j (by omega)), h k (by omega)]

/-! ### Greater L, greater W -/
theorem okS_l {w l l' : Int} {r : RowS} {s : Smp} (hl : l ≤ l') (h : okS w l r s) : okS w l' r s := by
  refine ⟨?_, h.2⟩
  have h1 := h.1
  unfold shortB at h1 ⊢
  simp only [Bool.or_eq_true, decide_eq_true_eq] at h1 ⊢
  omega
theorem okAt_l {w l l' : Int} {ss : List Smp} {k : Nat} (hl : l ≤ l') (h : okAt w l ss k) : okAt w l' ss k := by
  obtain ⟨s, h1, h2⟩ := h
  exact ⟨s, h1, okS_l hl h2⟩
theorem winP_w {f lf : Int → Option Int} {mon : Int} {nsf : Nat → Int} {fn d m : Nat} (hm : fn + d ≤ m) (h : winP f lf mon nsf (fn + d) m) : winP f lf mon nsf fn m := by
  obtain ⟨h1, h2, j, h3, h4⟩ := h
  refine ⟨by omega, fun i hi hs hbad => h2 i hi hs ⟨by omega, ?_⟩, d + j, by omega, Int.le_trans h4 (clk_shift nsf fn d j)⟩
  exact hbad.2.imp id (fun h => by omega)
theorem okS_w {w w' l : Int} {r : RowS} {s : Smp} (h1 : 1 ≤ w) (hw : w ≤ w') (h : okS w l r s) : okS w' l r s := by
  refine ⟨h.1, ?_⟩
  by_cases hlt : ((r.n + 1 : Nat) : Int) < w'
  · exact .inl hlt
  · rcases h.2 with h2 | h2
    · omega
    · refine .inr (winP_w (d := (r.n + 1 - w.toNat) - (r.n + 1 - w'.toNat)) (by omega) ?_)
      rw [show r.n + 1 - w'.toNat + ((r.n + 1 - w.toNat) - (r.n + 1 - w'.toNat)) = r.n + 1 - w.toNat by omega]
      exact h2
theorem okAt_w {w w' l : Int} {ss : List Smp} {k : Nat} (h1 : 1 ≤ w) (hw : w ≤ w') (h : okAt w l ss k) : okAt w' l ss k := by
  obtain ⟨s, e, h2⟩ := h
  exact ⟨s, e, okS_w h1 hw h2⟩

/-! ### The first ones -/
theorem rowAt_take {ss : List Smp} {m k : Nat} (h : k ≤ m) : rowAt (ss.take m) k = rowAt ss k := by
  unfold rowAt
  rw [List.take_take, Nat.min_eq_left h]
theorem okAt_take {w l : Int} {ss : List Smp} {m k : Nat} (h : k < m) : okAt w l (ss.take m) k ↔ okAt w l ss k := by
  unfold okAt
  rw [List.getElem?_take, if_pos h, rowAt_take (Nat.le_of_lt h)]

/-! ### The last ones -/
structure Sub (a : Nat) (r r' : RowS) : Prop where
  n : r.n = a + r'.n
  runs : ∀ g, (r'.runs g).getD 0 ≤ (r.runs g).getD 0
  since : ∀ i, (r'.since i = none ∧ (r.since i = none ∨ r'.n = 0)) ∨ ∃ x, r.since i = some x ∧ r'.since i = some (max x (a : Int) - a)
  le : ∀ i x, r.since i = some x → x ≤ (r.n : Int)
  last : ∀ i x, r.last i = some x → (a : Int) ≤ x → r'.last i = some (x - a)
  mon : (a : Int) ≤ r.mon → r'.mon = r.mon - a
  nsf : ∀ j, j < r'.n → r'.nsf j = r.nsf (a + j)
theorem since_le {ss : List Smp} : ∀ {k : Nat}, k ≤ ss.length → ∀ i x, (rowAt ss k).since i = some x → x ≤ ((rowAt ss k).n : Int)
  | 0, _, i, x, h => by cases h
  | k + 1, hk, i, x, h => by
    rw [rowAt_succ (List.getElem?_eq_getElem hk)] at h ⊢
    have ih := since_le (ss := ss) (k := k) (by omega) i
    have h' : sinceA (rowAt ss k).since _ ((rowAt ss k).n : Int) i = some x := h
    unfold sinceA at h'
    split at h'
    · cases hs : (rowAt ss k).since i with
      | none =>
        rw [hs] at h'
        have : ((rowAt ss k).n : Int) = x := Option.some.inj h'
        show x ≤ (((rowAt ss k).n + 1 : Nat) : Int)
        omega
      | some y =>
        rw [hs] at h'
        have e : y = x := Option.some.inj h'
        have := ih y hs
        show x ≤ (((rowAt ss k).n + 1 : Nat) : Int)
        omega
    · cases h'
theorem sub_start {ss : List Smp} {a : Nat} (ha : a ≤ ss.length) : Sub a (rowAt ss a) row0 :=
  ⟨(rowAt_n ha).trans (by simp [row0]), fun g => (rowAt_runs ha g).1, fun i => .inl ⟨rfl, .inr rfl⟩, since_le ha, fun i x h hx => by
    -- nothing that a first one could have done is behind it
    exact absurd (last_lt ha i x h) (by omega), fun h => absurd (mon_lt (ss := ss) ha) (by omega), fun j hj => absurd hj (Nat.not_lt_zero j)⟩
where
  last_lt {ss : List Smp} : ∀ {k : Nat}, k ≤ ss.length → ∀ i x, (rowAt ss k).last i = some x → x < (k : Int)
    | 0, _, i, x, h => by cases h
    | k + 1, hk, i, x, h => by
      rw [rowAt_succ (List.getElem?_eq_getElem hk)] at h
      have ih := last_lt (ss := ss) (k := k) (by omega) i
      have hn := rowAt_n (ss := ss) (k := k) (by omega)
      have h' : lastA (rowAt ss k).last _ _ ((rowAt ss k).n : Int) i = some x := h
      unfold lastA at h'
      split at h'
      · unfold Ev.upd at h'
        split at h'
        · have := Option.some.inj h'
          omega
        · have := ih x h'
          omega
      · have := ih x h'
        omega
  mon_lt {ss : List Smp} : ∀ {k : Nat}, k ≤ ss.length → (rowAt ss k).mon < (k : Int)
    | 0, _ => by show (-1 : Int) < 0; omega
    | k + 1, hk => by
      rw [rowAt_succ (List.getElem?_eq_getElem hk)]
      have ih := mon_lt (ss := ss) (k := k) (by omega)
      have hn := rowAt_n (ss := ss) (k := k) (by omega)
      show monA (rowAt ss k).mon _ ((rowAt ss k).n : Int) < _
      unfold monA
      split
      · omega
      · split <;> omega
theorem sub_step {a : Nat} {r r' : RowS} {s : Smp} (h : Sub a r r') : Sub a (stepS r s) (stepS r' s) := by
  have hn := h.n
  refine ⟨by show r.n + 1 = a + (r'.n + 1); omega, fun g => ?_, fun i => ?_, fun i x hx => ?_, fun i x hx hax => ?_, fun hm => ?_, fun j hj => ?_⟩
  · show (runsOf r'.runs s.gg s.safe g).getD 0 ≤ (runsOf r.runs s.gg s.safe g).getD 0
    unfold runsOf
    have h1 := h.runs g
    have h2 := h.runs s.gg
    split
    · exact h1
    · unfold Ev.upd
      split
      · rw [Option.getD_some, Option.getD_some]
        cases s.safe with
        | true => exact Int.le_refl _
        | false => show (r'.runs s.gg).getD 0 + 1 ≤ (r.runs s.gg).getD 0 + 1; omega
      · exact h1
  · show (sinceA r'.since s.zs (r'.n : Int) i = none ∧ _) ∨ ∃ x, sinceA r.since s.zs (r.n : Int) i = some x ∧ sinceA r'.since s.zs (r'.n : Int) i = some (max x (a : Int) - a)
    unfold sinceA
    by_cases hz : i ∈ s.zs
    · rw [if_pos hz, if_pos hz]
      refine .inr ⟨_, rfl, ?_⟩
      rcases h.since i with ⟨e1, e2⟩ | ⟨x, e1, e2⟩
      · rw [e1]
        rcases e2 with e2 | e2
        · rw [e2]
          show some (r'.n : Int) = some (max (r.n : Int) a - a)
          congr 1
          omega
        · cases hs : r.since i with
          | none =>
            show some (r'.n : Int) = some (max (r.n : Int) a - a)
            congr 1
            omega
          | some y =>
            have := h.le i y hs
            show some (r'.n : Int) = some (max y (a : Int) - a)
            congr 1
            omega
      · rw [e1, e2]
        rfl
    · rw [if_neg hz, if_neg hz]
      exact .inl ⟨rfl, .inl (if_neg hz)⟩
  · have h' : sinceA r.since s.zs (r.n : Int) i = some x := hx
    show x ≤ ((r.n + 1 : Nat) : Int)
    unfold sinceA at h'
    split at h'
    · have e := Option.some.inj h'
      cases hs : r.since i with
      | none => rw [hs] at e; have e' : (r.n : Int) = x := e; omega
      | some y => rw [hs] at e; have e' : y = x := e; have := h.le i y hs; omega
    · cases h'
  · show lastA r'.last s.kind s.am (r'.n : Int) i = some (x - a)
    have h' : lastA r.last s.kind s.am (r.n : Int) i = some x := hx
    unfold lastA at h' ⊢
    split at h'
    · rename_i hk
      rw [if_pos hk]
      unfold Ev.upd at h' ⊢
      split at h'
      · rename_i e
        rw [if_pos e]
        have := Option.some.inj h'
        congr 1
        omega
      · rename_i e
        rw [if_neg e]
        exact h.last i x h' hax
    · rename_i hk
      rw [if_neg hk]
      exact h.last i x h' hax
  · show monA r'.mon s.kind (r'.n : Int) = monA r.mon s.kind (r.n : Int) - a
    have hm' : (a : Int) ≤ monA r.mon s.kind (r.n : Int) := hm
    unfold monA at hm' ⊢
    split at hm'
    · rename_i hk
      rw [if_pos hk, if_pos hk]
      exact h.mon hm'
    · rename_i hk
      rw [if_neg hk, if_neg hk]
      split at hm'
      · rename_i hk2
        rw [if_pos hk2, if_pos hk2]
        omega
      · rename_i hk2
        rw [if_neg hk2, if_neg hk2]
        exact h.mon hm'
  · show snoc r'.nsf r'.n s.ns j = snoc r.nsf r.n s.ns (a + j)
    have hj' : j < r'.n + 1 := hj
    unfold snoc
    by_cases e : j = r'.n
    · rw [if_pos e, if_pos (by omega)]
    · rw [if_neg e, if_neg (by omega)]
      exact h.nsf j (by omega)
theorem sub_ok {a : Nat} {r r' : RowS} {s : Smp} {w l : Int} (hw : 1 ≤ w) (h : Sub a r r') (ho : okS w l r s) : okS w l r' s := by
  have hs := sub_step (s := s) h
  have hn := h.n
  refine ⟨?_, ?_⟩
  · have h1 := ho.1
    have h2 := h.runs s.gg
    unfold shortB at h1 ⊢
    simp only [Bool.or_eq_true, decide_eq_true_eq] at h1 ⊢
    rcases h1 with h1 | h1
    · exact .inl h1
    · refine .inr ?_
      cases hsf : s.safe with
      | true => rw [hsf] at h1; exact h1
      | false =>
        rw [hsf] at h1
        have h1' : (r.runs s.gg).getD 0 + 1 ≤ l := h1
        show (r'.runs s.gg).getD 0 + 1 ≤ l
        omega
  · by_cases hlt : ((r'.n + 1 : Nat) : Int) < w
    · exact .inl hlt
    · rcases ho.2 with h2 | h2
      · omega
      · refine .inr ?_
        obtain ⟨k1, k2, j, k3, k4⟩ := h2
        have hfr : r.n + 1 - w.toNat = a + (r'.n + 1 - w.toNat) := by omega
        rw [hfr] at k1 k2 k3 k4
        refine ⟨?_, fun i hi hsm hbad => ?_, j, by omega, ?_⟩
        · have := hs.mon (by omega)
          omega
        · rcases hs.since i with ⟨e1, _⟩ | ⟨x, e1, e2⟩
          · rw [e1] at hsm; cases hsm
          · rw [e2] at hbad
            have hb1 : max x (a : Int) - a ≤ ((r'.n + 1 - w.toNat : Nat) : Int) := hbad.1
            refine k2 i hi (by rw [e1]; rfl) ⟨by rw [e1]; show x ≤ _; omega, ?_⟩
            cases hl : (stepS r s).last i with
            | none => exact .inl rfl
            | some y =>
              refine .inr ?_
              show y < _
              apply Classical.byContradiction
              intro hge
              have e3 := hs.last i y hl (by omega)
              rw [e3] at hbad
              rcases hbad.2 with h' | h'
              · cases h'
              · have h'' : y - (a : Int) < ((r'.n + 1 - w.toNat : Nat) : Int) := h'
                omega
        · rw [← clk_congr (nsf := (stepS r s).nsf) (a := a + (r'.n + 1 - w.toNat)) (fun i hi => ?_)]
          · exact k4
          · rw [hs.nsf _ (by show _ < r'.n + 1; omega), Nat.add_assoc]
theorem okAt_drop {w l : Int} {ss : List Smp} {a : Nat} (hw : 1 ≤ w) (ha : a ≤ ss.length) (h : ∀ i, i < ss.length → okAt w l ss i) : ∀ k, k < (ss.drop a).length → okAt w l (ss.drop a) k := by
  have key : ∀ k, k ≤ (ss.drop a).length → Sub a (rowAt ss (a + k)) (rowAt (ss.drop a) k) := by
    intro k
    induction k with
    | zero => exact fun _ => sub_start ha
    | succ k ih =>
      intro hk
      have hk' : k < (ss.drop a).length := hk
      have e1 : (ss.drop a)[k]? = some (ss.drop a)[k] := List.getElem?_eq_getElem hk'
      have e2 : ss[a + k]? = some (ss.drop a)[k] := by rw [← e1, List.getElem?_drop]
      rw [rowAt_succ e1, show a + (k + 1) = a + k + 1 by omega, rowAt_succ e2]
      exact sub_step (ih (by omega))
  intro k hk
  have e1 : (ss.drop a)[k]? = some (ss.drop a)[k] := List.getElem?_eq_getElem hk
  have e2 : ss[a + k]? = some (ss.drop a)[k] := by rw [← e1, List.getElem?_drop]
  obtain ⟨s, h1, h2⟩ := h (a + k) (by rw [List.length_drop] at hk; omega)
  rw [e2] at h1
  cases h1
  exact ⟨_, e1, sub_ok hw (key k (Nat.le_of_lt hk)) h2⟩
/-- Is a row fair? -/
def fairP (w l : Int) (ss : List Smp) : Prop := ∀ i, i < ss.length → okAt w l ss i
theorem fair_l {w l l' : Int} {ss : List Smp} (hl : l ≤ l') (h : fairP w l ss) : fairP w l' ss := fun i hi => okAt_l hl (h i hi)
theorem fair_w {w w' l : Int} {ss : List Smp} (h1 : 1 ≤ w) (hw : w ≤ w') (h : fairP w l ss) : fairP w' l ss := fun i hi => okAt_w h1 hw (h i hi)
theorem fair_take {w l : Int} {ss : List Smp} {m : Nat} (h : ∀ i, i < m → okAt w l ss i) : fairP w l (ss.take m) := fun i hi => by
  have : i < m := by rw [List.length_take] at hi; omega
  exact (okAt_take this).2 (h i this)
theorem fair_part {w l : Int} {ss : List Smp} {a m : Nat} (hw : 1 ≤ w) (ha : a ≤ ss.length) (h : fairP w l ss) : fairP w l ((ss.drop a).take m) := fun i hi => by
  rw [List.length_take] at hi
  exact (okAt_take (by omega)).2 (okAt_drop hw ha h i (by omega))
theorem not_fair_take {w l : Int} {ss : List Smp} {n : Nat} (hn : n < ss.length) (h : ¬ okAt w l ss n) : ¬ fairP w l (ss.take (n + 1)) := fun hf =>
  h ((okAt_take (Nat.lt_succ_self n)).1 (hf n (by rw [List.length_take]; omega)))
end Go.Proofs.Ytjcibnfaijdgnaa
