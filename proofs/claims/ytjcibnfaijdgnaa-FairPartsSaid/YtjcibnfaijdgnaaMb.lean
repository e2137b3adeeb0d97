/- (*row).window: its contract. -/
import Derived.Test.YtjcibnfaijdgnaaMa
import Derived.Test.YtjcibnfaijdgnaaHr
namespace Go.Proofs.Ytjcibnfaijdgnaa
open Go.RowKit
open Go.Ev (sy)
set_option linter.unusedVariables false
set_option linter.unusedSimpArgs false
structure WinP where
  W : World
  X : Nat → Prop
  b4 : Nat
  ww : Int
  ll : Int
  mon : Int
  fn : Nat
  al : Value
  rn : Value
  bs : Nat
  bl : Nat
  ns : Nat
  nl : Nat
  f : Int → Option Int
  lf : Int → Option Int
  m : Nat
  xs : List Value
  nsf : Nat → Int
  lrn : Ev.leafV rn = true
  hs : Ev.SlR 6 al m xs W
  hX : Ev.OffX X al
  hm : m ≤ 1000000
  hfm : fn ≤ m
  hns : ∀ j, j < m → xs[j * 6 + 2]? = some (.int .i64 (nsf j))
abbrev WinP.c (p : WinP) : Ev.Ctx := ⟨p.W, p.X⟩
theorem WinP.lal (p : WinP) : Ev.leafV p.al = true := p.hs.leaf
theorem ptrV_leaf (r : Nat) : Ev.leafV (Ev.ptrV r) = true := rfl
theorem fieldNs (b o : Nat) (w : World) : (Instr.fieldAt 47 (.pointer (some ⟨b, o, none⟩)) 2).run Try.prog w = .ok (.pointer (some ⟨b, o + 2, none⟩)) w := by
  obtain ⟨i, i1, i2, i3⟩ : ∃ i, Try.prog.info? 2 = some i ∧ i.size = 1 ∧ i.zero = some (.int .i64 0) := by
    obtain ⟨i, h1, h2, h3, _⟩ := info_z (P := Try.prog) (t := 2) (z := .int .i64 0) (n := 1) (b := 8) (by kernel_rfl)
    exact ⟨i, h1, h2, h3⟩
  simp [Instr.fieldAt, run_underlying Try.underlying47, Instr.sureAddr, fieldPlace, sizeOf, typeInfo, i1, i2, Ev.addMk]

def wi_v (p : WinP) : Nat → Value
  | 0 => .int .i64 ((p.fn : Nat) : Int)
  | 1 => .int .i64 (p.ww)
  | 2 => .int .i64 (p.ll)
  | 3 => p.al
  | 4 => p.rn
  | 5 => .map (some p.bs)
  | 6 => .map (some p.bl)
  | 7 => .int .i64 (p.mon)
  | 8 => .int .i64 ((p.m : Nat) : Int)
  | 9 => .int .i64 (((p.m : Nat) : Int) - ((p.fn : Nat) : Int))
  | _ => .int .i64 0
theorem wi_l (p : WinP) : ∀ j9, Ev.leafV (wi_v p j9) = true := by
  have q1 := p.hm; have q2 := p.hfm; intro j9
  unfold wi_v
  split <;> first | rfl | assumption | exact p.lal | exact p.lrn | exact p.hs.leaf | exact Ev.ptrR_leaf _ _
@[reducible] def wiA_k (p : WinP) : Ev.Kn := { val := wi_v p, leaf := wi_l p, bs := [], us := [], cs := [], ks := [], hb := (List.forall_mem_nil _), hu := (List.forall_mem_nil _), hc := (List.forall_mem_nil _), gs := [Ev.star (Ev.oldX p.W p.X :: [Ev.mapA Try.prog 3 3 (p.bs) (p.ns) (p.f), Ev.mapA Try.prog 3 3 (p.bl) (p.nl) (p.lf)])], ops := [], cls := [] }
theorem wiA_o (p : WinP) : @Ev.CalOK (wiA_k p).sig Try.prog := Ev.Kn.ok (wiA_k p) (fun q hq => by cases hq) (List.forall_mem_nil _) (List.forall_mem_nil _)
theorem wiA (p : WinP) : Ev.Pie Try.prog 28 [] 0 1 78 p.c [(0, (.pointer (some ⟨p.b4, 0, none⟩))), (1, (.int .i64 ((p.fn : Nat) : Int)))] [Ev.blkA p.b4 [(.int .i64 (p.ww)), (.int .i64 (p.ll)), (p.al), (p.rn), (.map (some p.bs)), (.map (some p.bl)), (.int .i64 (p.mon))] 51, Ev.mapA Try.prog 3 3 (p.bs) (p.ns) (p.f), Ev.mapA Try.prog 3 3 (p.bl) (p.nl) (p.lf)] .normal (fun κ : Ev.Ren => [(0, (.pointer (some ⟨p.b4, 0, none⟩))), (1, (.int .i64 ((p.fn : Nat) : Int)))]) (fun κ : Ev.Ren => [Ev.blkA p.b4 [(.int .i64 (p.ww)), (.int .i64 (p.ll)), (p.al), (p.rn), (.map (some p.bs)), (.map (some p.bl)), (.int .i64 (p.mon))] 51, Ev.mapA Try.prog 3 3 (p.bs) (p.ns) (p.f), Ev.mapA Try.prog 3 3 (p.bl) (p.nl) (p.lf)]) := (Ev.tri Try.codeOk mixed_ok (wiA_k p) (wiA_o p) (n := 200) (m := 100) (c := p.c) [(4, p.b4)] [(4, [sy 1, sy 2, sy 3, sy 4, sy 5, sy 6, sy 7], 51)] [(4, [sy 1, sy 2, sy 3, sy 4, sy 5, sy 6, sy 7], 51)] 0 0 [Ev.mapA Try.prog 3 3 (p.bs) (p.ns) (p.f), Ev.mapA Try.prog 3 3 (p.bl) (p.nl) (p.lf)] [Ev.mapA Try.prog 3 3 (p.bs) (p.ns) (p.f), Ev.mapA Try.prog 3 3 (p.bl) (p.nl) (p.lf)] rfl rfl [(0, .pointer (some ⟨4, 0, none⟩)), (1, sy 0)] [(0, .pointer (some ⟨4, 0, none⟩)), (1, sy 0)] .normal (by kernel_rfl) (fun gb => by kernel_rfl))
@[reducible] def wiM_k (p : WinP) (h1 : (p.mon) < ((p.fn : Nat) : Int)) : Ev.Kn := { val := wi_v p, leaf := wi_l p, bs := [(.lss, sy 7, sy 0, .bool true)], us := [], cs := [], ks := [], hb := (List.forall_mem_cons.2 ⟨(by intro t ox oy; exact Ev.bt_lss (by have q1 := p.hm; have q2 := p.hfm; first | (simpa using h1) | (simp; omega))), (List.forall_mem_nil _)⟩), hu := (List.forall_mem_nil _), hc := (List.forall_mem_nil _), gs := [Ev.star (Ev.oldX p.W p.X :: [Ev.mapA Try.prog 3 3 (p.bs) (p.ns) (p.f), Ev.mapA Try.prog 3 3 (p.bl) (p.nl) (p.lf)])], ops := [], cls := [] }
theorem wiM_o (p : WinP) (h1 : (p.mon) < ((p.fn : Nat) : Int)) : @Ev.CalOK (wiM_k p h1).sig Try.prog := Ev.Kn.ok (wiM_k p h1) (fun q hq => by cases hq) (List.forall_mem_nil _) (List.forall_mem_nil _)
theorem wiM (p : WinP) (h1 : (p.mon) < ((p.fn : Nat) : Int)) : Ev.Pie Try.prog 28 [2] 0 2 78 p.c [(0, (.pointer (some ⟨p.b4, 0, none⟩))), (1, (.int .i64 ((p.fn : Nat) : Int)))] [Ev.blkA p.b4 [(.int .i64 (p.ww)), (.int .i64 (p.ll)), (p.al), (p.rn), (.map (some p.bs)), (.map (some p.bl)), (.int .i64 (p.mon))] 51, Ev.mapA Try.prog 3 3 (p.bs) (p.ns) (p.f), Ev.mapA Try.prog 3 3 (p.bl) (p.nl) (p.lf)] .ret (fun κ : Ev.Ren => [(4, (.bool false))]) (fun κ : Ev.Ren => [Ev.blkA p.b4 [(.int .i64 (p.ww)), (.int .i64 (p.ll)), (p.al), (p.rn), (.map (some p.bs)), (.map (some p.bl)), (.int .i64 (p.mon))] 51, Ev.mapA Try.prog 3 3 (p.bs) (p.ns) (p.f), Ev.mapA Try.prog 3 3 (p.bl) (p.nl) (p.lf)]) := (Ev.tri Try.codeOk mixed_ok (wiM_k p h1) (wiM_o p h1) (n := 200) (m := 100) (c := p.c) [(4, p.b4)] [(4, [sy 1, sy 2, sy 3, sy 4, sy 5, sy 6, sy 7], 51)] [(4, [sy 1, sy 2, sy 3, sy 4, sy 5, sy 6, sy 7], 51)] 0 0 [Ev.mapA Try.prog 3 3 (p.bs) (p.ns) (p.f), Ev.mapA Try.prog 3 3 (p.bl) (p.nl) (p.lf)] [Ev.mapA Try.prog 3 3 (p.bs) (p.ns) (p.f), Ev.mapA Try.prog 3 3 (p.bl) (p.nl) (p.lf)] rfl rfl [(0, .pointer (some ⟨4, 0, none⟩)), (1, sy 0)] [(4, .bool false)] .ret (by kernel_rfl) (fun gb => by kernel_rfl))
@[reducible] def wiR_k (p : WinP) (h1 : ¬ (p.mon) < ((p.fn : Nat) : Int)) : Ev.Kn := { val := wi_v p, leaf := wi_l p, bs := [(.lss, sy 7, sy 0, .bool false)], us := [], cs := [], ks := [], hb := (List.forall_mem_cons.2 ⟨(by intro t ox oy; exact Ev.bt_lss (by have q1 := p.hm; have q2 := p.hfm; first | (simpa using h1) | (simp; omega))), (List.forall_mem_nil _)⟩), hu := (List.forall_mem_nil _), hc := (List.forall_mem_nil _), gs := [Ev.star (Ev.oldX p.W p.X :: [Ev.mapA Try.prog 3 3 (p.bs) (p.ns) (p.f), Ev.mapA Try.prog 3 3 (p.bl) (p.nl) (p.lf)]), Ev.star (Ev.oldX p.W p.X :: [Ev.rngE Try.prog 3 3 (p.bs) (.dy 403) (p.ns) (p.f) (fun j => ((p.f) j).isSome), Ev.mapA Try.prog 3 3 (p.bl) (p.nl) (p.lf)])], ops := [⟨[13, 49], [sy 5], none, 0, some 403, .complex .f32 403 0, some 1⟩], cls := [] }
theorem wiR_o (p : WinP) (h1 : ¬ (p.mon) < ((p.fn : Nat) : Int)) : @Ev.CalOK (wiR_k p h1).sig Try.prog := Ev.Kn.ok (wiR_k p h1) (fun q hq => by cases hq) (List.forall_mem_cons.2 ⟨(by exact Ev.map_range mapI (ci := 1) rfl rfl rfl rfl), (List.forall_mem_nil _)⟩) (List.forall_mem_nil _)
theorem wiR (p : WinP) (h1 : ¬ (p.mon) < ((p.fn : Nat) : Int)) : Ev.Pie Try.prog 28 [2] 0 3 78 p.c [(0, (.pointer (some ⟨p.b4, 0, none⟩))), (1, (.int .i64 ((p.fn : Nat) : Int)))] [Ev.blkA p.b4 [(.int .i64 (p.ww)), (.int .i64 (p.ll)), (p.al), (p.rn), (.map (some p.bs)), (.map (some p.bl)), (.int .i64 (p.mon))] 51, Ev.mapA Try.prog 3 3 (p.bs) (p.ns) (p.f), Ev.mapA Try.prog 3 3 (p.bl) (p.nl) (p.lf)] .normal (fun κ : Ev.Ren => [(0, (.pointer (some ⟨p.b4, 0, none⟩))), (1, (.int .i64 ((p.fn : Nat) : Int))), (21, (Ev.dec ((κ 403).getD 0)))]) (fun κ : Ev.Ren => [Ev.blkA p.b4 [(.int .i64 (p.ww)), (.int .i64 (p.ll)), (p.al), (p.rn), (.map (some p.bs)), (.map (some p.bl)), (.int .i64 (p.mon))] 51, Ev.frz (Ev.ovr [(4, p.b4)] κ) (Ev.rngE Try.prog 3 3 (p.bs) (.dy 403) (p.ns) (p.f) (fun j => ((p.f) j).isSome)), Ev.mapA Try.prog 3 3 (p.bl) (p.nl) (p.lf)]) := (Ev.tri Try.codeOk mixed_ok (wiR_k p h1) (wiR_o p h1) (n := 200) (m := 100) (c := p.c) [(4, p.b4)] [(4, [sy 1, sy 2, sy 3, sy 4, sy 5, sy 6, sy 7], 51)] [(4, [sy 1, sy 2, sy 3, sy 4, sy 5, sy 6, sy 7], 51)] 0 1 [Ev.mapA Try.prog 3 3 (p.bs) (p.ns) (p.f), Ev.mapA Try.prog 3 3 (p.bl) (p.nl) (p.lf)] [Ev.rngE Try.prog 3 3 (p.bs) (.dy 403) (p.ns) (p.f) (fun j => ((p.f) j).isSome), Ev.mapA Try.prog 3 3 (p.bl) (p.nl) (p.lf)] rfl rfl [(0, .pointer (some ⟨4, 0, none⟩)), (1, sy 0)] [(0, .pointer (some ⟨4, 0, none⟩)), (1, sy 0), (21, .complex .f32 403 0)] .normal (by kernel_rfl) (fun gb => by kernel_rfl))
@[reducible] def wiC_k (p : WinP) : Ev.Kn := { val := wi_v p, leaf := wi_l p, bs := [(.sub, sy 8, sy 0, sy 9)], us := [], cs := [], ks := [], hb := (List.forall_mem_cons.2 ⟨(by intro t ox oy; exact Ev.bt_sub (by have q1 := p.hm; have q2 := p.hfm; exact wrap_ok (by omega) (by omega))), (List.forall_mem_nil _)⟩), hu := (List.forall_mem_nil _), hc := (List.forall_mem_nil _), gs := [Ev.star (Ev.oldX p.W p.X :: [Ev.mapA Try.prog 3 3 (p.bs) (p.ns) (p.f), Ev.mapA Try.prog 3 3 (p.bl) (p.nl) (p.lf)])], ops := [⟨[10, 31], [sy 3], none, 0, none, sy 8, none⟩], cls := [] }
theorem wiC_o (p : WinP) : @Ev.CalOK (wiC_k p).sig Try.prog := Ev.Kn.ok (wiC_k p) (fun q hq => by cases hq) (List.forall_mem_cons.2 ⟨(by exact Ev.ro_len (ci := 0) rfl rfl p.hs Try.underlying31 rfl rfl), (List.forall_mem_nil _)⟩) (List.forall_mem_nil _)
theorem wiC (p : WinP) : Ev.Pie Try.prog 28 [2] 4 3 78 p.c [(0, (.pointer (some ⟨p.b4, 0, none⟩))), (1, (.int .i64 ((p.fn : Nat) : Int)))] [Ev.blkA p.b4 [(.int .i64 (p.ww)), (.int .i64 (p.ll)), (p.al), (p.rn), (.map (some p.bs)), (.map (some p.bl)), (.int .i64 (p.mon))] 51, Ev.mapA Try.prog 3 3 (p.bs) (p.ns) (p.f), Ev.mapA Try.prog 3 3 (p.bl) (p.nl) (p.lf)] .normal (fun κ : Ev.Ren => [(0, (.pointer (some ⟨p.b4, 0, none⟩))), (1, (.int .i64 ((p.fn : Nat) : Int))), (9, (.int .u64 0)), (54, (.int .i64 (((p.m : Nat) : Int) - ((p.fn : Nat) : Int)))), (55, (.int .i64 0))]) (fun κ : Ev.Ren => [Ev.blkA p.b4 [(.int .i64 (p.ww)), (.int .i64 (p.ll)), (p.al), (p.rn), (.map (some p.bs)), (.map (some p.bl)), (.int .i64 (p.mon))] 51, Ev.mapA Try.prog 3 3 (p.bs) (p.ns) (p.f), Ev.mapA Try.prog 3 3 (p.bl) (p.nl) (p.lf)]) := (Ev.tri Try.codeOk mixed_ok (wiC_k p) (wiC_o p) (n := 200) (m := 100) (c := p.c) [(4, p.b4)] [(4, [sy 1, sy 2, sy 3, sy 4, sy 5, sy 6, sy 7], 51)] [(4, [sy 1, sy 2, sy 3, sy 4, sy 5, sy 6, sy 7], 51)] 0 0 [Ev.mapA Try.prog 3 3 (p.bs) (p.ns) (p.f), Ev.mapA Try.prog 3 3 (p.bl) (p.nl) (p.lf)] [Ev.mapA Try.prog 3 3 (p.bs) (p.ns) (p.f), Ev.mapA Try.prog 3 3 (p.bl) (p.nl) (p.lf)] rfl rfl [(0, .pointer (some ⟨4, 0, none⟩)), (1, sy 0)] [(0, .pointer (some ⟨4, 0, none⟩)), (1, sy 0), (9, .int .u64 0), (54, sy 9), (55, .int .i64 0)] .normal (by kernel_rfl) (fun gb => by kernel_rfl))
def ws_v (p : WinP) (r0 cnt : Nat) (left : Int → Bool) : Nat → Value
  | 0 => .int .i64 ((p.fn : Nat) : Int)
  | 1 => Ev.ptrV r0
  | 2 => .int .i64 (p.ww)
  | 3 => .int .i64 (p.ll)
  | 4 => p.al
  | 5 => p.rn
  | 6 => .map (some p.bs)
  | 7 => .map (some p.bl)
  | 8 => .int .i64 (p.mon)
  | _ => .int .i64 0
theorem ws_l (p : WinP) (r0 cnt : Nat) (left : Int → Bool) : ∀ j9, Ev.leafV (ws_v p r0 cnt left j9) = true := by
  have q1 := p.hm; have q2 := p.hfm; intro j9
  unfold ws_v
  split <;> first | rfl | assumption | exact p.lal | exact p.lrn | exact p.hs.leaf | exact Ev.ptrR_leaf _ _
@[reducible] def wsE_k (p : WinP) (r0 cnt : Nat) (left : Int → Bool) (h1 : ∀ j, Ev.wfI j → (left) j = false) : Ev.Kn := { val := ws_v p r0 cnt left, leaf := ws_l p r0 cnt left, bs := [], us := [], cs := [], ks := [], hb := (List.forall_mem_nil _), hu := (List.forall_mem_nil _), hc := (List.forall_mem_nil _), gs := [Ev.star (Ev.oldX p.W p.X :: [Ev.rngA Try.prog 3 3 (p.bs) (.st (Ev.ptrV (r0))) (p.ns) (cnt) (p.f) (left), Ev.mapA Try.prog 3 3 (p.bl) (p.nl) (p.lf)])], ops := [⟨[14, 0], [sy 1], none, 0, none, .tuple #[.bool false], none⟩], cls := [] }
theorem wsE_o (p : WinP) (r0 cnt : Nat) (left : Int → Bool) (h1 : ∀ j, Ev.wfI j → (left) j = false) : @Ev.CalOK (wsE_k p r0 cnt left h1).sig Try.prog := Ev.Kn.ok (wsE_k p r0 cnt left h1) (fun q hq => by cases hq) (List.forall_mem_cons.2 ⟨(by exact Ev.rng_next_end mapI (ci := 1) rfl rfl h1 rfl), (List.forall_mem_nil _)⟩) (List.forall_mem_nil _)
theorem wsE (p : WinP) (r0 cnt : Nat) (left : Int → Bool) (h1 : ∀ j, Ev.wfI j → (left) j = false) : Ev.Pie Try.prog 28 [2, 6, 0] 0 2 78 p.c [(0, (.pointer (some ⟨p.b4, 0, none⟩))), (1, (.int .i64 ((p.fn : Nat) : Int))), (21, (Ev.ptrV r0))] [Ev.blkA p.b4 [(.int .i64 (p.ww)), (.int .i64 (p.ll)), (p.al), (p.rn), (.map (some p.bs)), (.map (some p.bl)), (.int .i64 (p.mon))] 51, Ev.rngA Try.prog 3 3 (p.bs) (.st (Ev.ptrV (r0))) (p.ns) (cnt) (p.f) (left), Ev.mapA Try.prog 3 3 (p.bl) (p.nl) (p.lf)] (.exit 0) (fun κ : Ev.Ren => [(0, (.pointer (some ⟨p.b4, 0, none⟩))), (1, (.int .i64 ((p.fn : Nat) : Int)))]) (fun κ : Ev.Ren => [Ev.blkA p.b4 [(.int .i64 (p.ww)), (.int .i64 (p.ll)), (p.al), (p.rn), (.map (some p.bs)), (.map (some p.bl)), (.int .i64 (p.mon))] 51, Ev.rngA Try.prog 3 3 (p.bs) (.st (Ev.ptrV (r0))) (p.ns) (cnt) (p.f) (left), Ev.mapA Try.prog 3 3 (p.bl) (p.nl) (p.lf)]) := (Ev.tri Try.codeOk mixed_ok (wsE_k p r0 cnt left h1) (wsE_o p r0 cnt left h1) (n := 200) (m := 100) (c := p.c) [(4, p.b4)] [(4, [sy 2, sy 3, sy 4, sy 5, sy 6, sy 7, sy 8], 51)] [(4, [sy 2, sy 3, sy 4, sy 5, sy 6, sy 7, sy 8], 51)] 0 0 [Ev.rngA Try.prog 3 3 (p.bs) (.st (Ev.ptrV (r0))) (p.ns) (cnt) (p.f) (left), Ev.mapA Try.prog 3 3 (p.bl) (p.nl) (p.lf)] [Ev.rngA Try.prog 3 3 (p.bs) (.st (Ev.ptrV (r0))) (p.ns) (cnt) (p.f) (left), Ev.mapA Try.prog 3 3 (p.bl) (p.nl) (p.lf)] rfl rfl [(0, .pointer (some ⟨4, 0, none⟩)), (1, sy 0), (21, sy 1)] [(0, .pointer (some ⟨4, 0, none⟩)), (1, sy 0)] (.exit 0) (by kernel_rfl) (fun gb => by kernel_rfl))
@[reducible] def wsN_k (p : WinP) (r0 cnt : Nat) (left : Int → Bool) (h1 : ∃ j, Ev.wfI j ∧ (left) j = true) : Ev.Kn := { val := ws_v p r0 cnt left, leaf := ws_l p r0 cnt left, bs := [], us := [], cs := [], ks := [], hb := (List.forall_mem_nil _), hu := (List.forall_mem_nil _), hc := (List.forall_mem_nil _), gs := [Ev.star (Ev.oldX p.W p.X :: [Ev.rngA Try.prog 3 3 (p.bs) (.st (Ev.ptrV (r0))) (p.ns) (cnt) (p.f) (left), Ev.mapA Try.prog 3 3 (p.bl) (p.nl) (p.lf)]), Ev.star (Ev.oldX p.W p.X :: [Ev.nextA Try.prog 3 3 (p.bs) (r0) (p.ns) (cnt) (p.f) (left), Ev.mapA Try.prog 3 3 (p.bl) (p.nl) (p.lf)])], ops := [⟨[14, 0], [sy 1], none, 0, none, .tuple #[.bool true, .complex .f32 0 1, .complex .f32 0 1], some 1⟩], cls := [] }
theorem wsN_o (p : WinP) (r0 cnt : Nat) (left : Int → Bool) (h1 : ∃ j, Ev.wfI j ∧ (left) j = true) : @Ev.CalOK (wsN_k p r0 cnt left h1).sig Try.prog := Ev.Kn.ok (wsN_k p r0 cnt left h1) (fun q hq => by cases hq) (List.forall_mem_cons.2 ⟨(by exact Ev.rng_next mapI (ci := 1) rfl rfl h1 rfl rfl), (List.forall_mem_nil _)⟩) (List.forall_mem_nil _)
theorem wsN (p : WinP) (r0 cnt : Nat) (left : Int → Bool) (h1 : ∃ j, Ev.wfI j ∧ (left) j = true) : Ev.Pie Try.prog 28 [2, 6, 0] 0 2 78 p.c [(0, (.pointer (some ⟨p.b4, 0, none⟩))), (1, (.int .i64 ((p.fn : Nat) : Int))), (21, (Ev.ptrV r0))] [Ev.blkA p.b4 [(.int .i64 (p.ww)), (.int .i64 (p.ll)), (p.al), (p.rn), (.map (some p.bs)), (.map (some p.bl)), (.int .i64 (p.mon))] 51, Ev.rngA Try.prog 3 3 (p.bs) (.st (Ev.ptrV (r0))) (p.ns) (cnt) (p.f) (left), Ev.mapA Try.prog 3 3 (p.bl) (p.nl) (p.lf)] .normal (fun κ : Ev.Ren => [(0, (.pointer (some ⟨p.b4, 0, none⟩))), (1, (.int .i64 ((p.fn : Nat) : Int))), (21, (Ev.ptrV r0))]) (fun κ : Ev.Ren => [Ev.blkA p.b4 [(.int .i64 (p.ww)), (.int .i64 (p.ll)), (p.al), (p.rn), (.map (some p.bs)), (.map (some p.bl)), (.int .i64 (p.mon))] 51, Ev.nextA Try.prog 3 3 (p.bs) (r0) (p.ns) (cnt) (p.f) (left), Ev.mapA Try.prog 3 3 (p.bl) (p.nl) (p.lf)]) := (Ev.tri Try.codeOk mixed_ok (wsN_k p r0 cnt left h1) (wsN_o p r0 cnt left h1) (n := 200) (m := 100) (c := p.c) [(4, p.b4)] [(4, [sy 2, sy 3, sy 4, sy 5, sy 6, sy 7, sy 8], 51)] [(4, [sy 2, sy 3, sy 4, sy 5, sy 6, sy 7, sy 8], 51)] 0 1 [Ev.rngA Try.prog 3 3 (p.bs) (.st (Ev.ptrV (r0))) (p.ns) (cnt) (p.f) (left), Ev.mapA Try.prog 3 3 (p.bl) (p.nl) (p.lf)] [Ev.nextA Try.prog 3 3 (p.bs) (r0) (p.ns) (cnt) (p.f) (left), Ev.mapA Try.prog 3 3 (p.bl) (p.nl) (p.lf)] rfl rfl [(0, .pointer (some ⟨4, 0, none⟩)), (1, sy 0), (21, sy 1)] [(0, .pointer (some ⟨4, 0, none⟩)), (1, sy 0), (21, sy 1)] .normal (by kernel_rfl) (fun gb => by kernel_rfl))
def wr_v (p : WinP) (r0 cnt : Nat) (left : Int → Bool) (i : Int) (hw : Ev.wfI i) : Nat → Value
  | 0 => .int .i64 ((p.fn : Nat) : Int)
  | 1 => Ev.ptrV r0
  | 2 => .int .i64 (p.ww)
  | 3 => .int .i64 (p.ll)
  | 4 => p.al
  | 5 => p.rn
  | 6 => .map (some p.bs)
  | 7 => .map (some p.bl)
  | 8 => .int .i64 (p.mon)
  | 9 => .int .i64 (i)
  | 10 => .int .i64 (((p.f) (i)).getD 0)
  | 11 => .int .i64 (((p.lf) (i)).getD 0)
  | _ => .int .i64 0
theorem wr_l (p : WinP) (r0 cnt : Nat) (left : Int → Bool) (i : Int) (hw : Ev.wfI i) : ∀ j9, Ev.leafV (wr_v p r0 cnt left i hw j9) = true := by
  have q1 := p.hm; have q2 := p.hfm; intro j9
  unfold wr_v
  split <;> first | rfl | assumption | exact p.lal | exact p.lrn | exact p.hs.leaf | exact Ev.ptrR_leaf _ _
@[reducible] def wrAY_k (p : WinP) (r0 cnt : Nat) (left : Int → Bool) (i : Int) (hw : Ev.wfI i) (x1 : Int) (y1 : (p.lf) (i) = some x1) (h2 : ¬ (((p.f) (i)).getD 0) ≤ ((p.fn : Nat) : Int)) : Ev.Kn := { val := wr_v p r0 cnt left i hw, leaf := wr_l p r0 cnt left i hw, bs := [(.leq, sy 10, sy 0, .bool false)], us := [], cs := [], ks := [], hb := (List.forall_mem_cons.2 ⟨(by intro t ox oy; exact Ev.bt_leq (by have q1 := p.hm; have q2 := p.hfm; first | (simpa using h2) | (simp; omega))), (List.forall_mem_nil _)⟩), hu := (List.forall_mem_nil _), hc := (List.forall_mem_nil _), gs := [Ev.star (Ev.oldX p.W p.X :: [Ev.curA Try.prog 3 3 (p.bs) (r0) (p.ns) (cnt) (p.f) (left) (i), Ev.mapA Try.prog 3 3 (p.bl) (p.nl) (p.lf)])], ops := [⟨[15], [sy 1], none, 0, none, .tuple #[sy 9, sy 10], none⟩, ⟨[5, 49, 1], [sy 7, sy 9], none, 0, none, .tuple #[sy 11, .bool true], none⟩], cls := [] }
theorem wrAY_o (p : WinP) (r0 cnt : Nat) (left : Int → Bool) (i : Int) (hw : Ev.wfI i) (x1 : Int) (y1 : (p.lf) (i) = some x1) (h2 : ¬ (((p.f) (i)).getD 0) ≤ ((p.fn : Nat) : Int)) : @Ev.CalOK (wrAY_k p r0 cnt left i hw x1 y1 h2).sig Try.prog := Ev.Kn.ok (wrAY_k p r0 cnt left i hw x1 y1 h2) (fun q hq => by cases hq) (List.forall_mem_cons.2 ⟨(by exact Ev.cur_entry mapI (ci := 1) rfl rfl rfl rfl rfl), (List.forall_mem_cons.2 ⟨(by have q1 := p.hm; have q2 := p.hfm; exact Ev.map_look_yes mapI (ci := 2) rfl rfl rfl rfl (by first | assumption | exact wfI_of (by omega) (by omega)) y1 (by show Value.int .i64 _ = _; rw [y1]; rfl)), (List.forall_mem_nil _)⟩)⟩) (List.forall_mem_nil _)
theorem wrAY (p : WinP) (r0 cnt : Nat) (left : Int → Bool) (i : Int) (hw : Ev.wfI i) (x1 : Int) (y1 : (p.lf) (i) = some x1) (h2 : ¬ (((p.f) (i)).getD 0) ≤ ((p.fn : Nat) : Int)) : Ev.Pie Try.prog 28 [2, 6, 0, 4] 0 4 78 p.c [(0, (.pointer (some ⟨p.b4, 0, none⟩))), (1, (.int .i64 ((p.fn : Nat) : Int))), (21, (Ev.ptrV r0))] [Ev.blkA p.b4 [(.int .i64 (p.ww)), (.int .i64 (p.ll)), (p.al), (p.rn), (.map (some p.bs)), (.map (some p.bl)), (.int .i64 (p.mon))] 51, Ev.curA Try.prog 3 3 (p.bs) (r0) (p.ns) (cnt) (p.f) (left) (i), Ev.mapA Try.prog 3 3 (p.bl) (p.nl) (p.lf)] .normal (fun κ : Ev.Ren => [(0, (.pointer (some ⟨p.b4, 0, none⟩))), (1, (.int .i64 ((p.fn : Nat) : Int))), (21, (Ev.ptrV r0))]) (fun κ : Ev.Ren => [Ev.blkA p.b4 [(.int .i64 (p.ww)), (.int .i64 (p.ll)), (p.al), (p.rn), (.map (some p.bs)), (.map (some p.bl)), (.int .i64 (p.mon))] 51, Ev.curA Try.prog 3 3 (p.bs) (r0) (p.ns) (cnt) (p.f) (left) (i), Ev.mapA Try.prog 3 3 (p.bl) (p.nl) (p.lf)]) := (Ev.tri Try.codeOk mixed_ok (wrAY_k p r0 cnt left i hw x1 y1 h2) (wrAY_o p r0 cnt left i hw x1 y1 h2) (n := 200) (m := 100) (c := p.c) [(4, p.b4)] [(4, [sy 2, sy 3, sy 4, sy 5, sy 6, sy 7, sy 8], 51)] [(4, [sy 2, sy 3, sy 4, sy 5, sy 6, sy 7, sy 8], 51)] 0 0 [Ev.curA Try.prog 3 3 (p.bs) (r0) (p.ns) (cnt) (p.f) (left) (i), Ev.mapA Try.prog 3 3 (p.bl) (p.nl) (p.lf)] [Ev.curA Try.prog 3 3 (p.bs) (r0) (p.ns) (cnt) (p.f) (left) (i), Ev.mapA Try.prog 3 3 (p.bl) (p.nl) (p.lf)] rfl rfl [(0, .pointer (some ⟨4, 0, none⟩)), (1, sy 0), (21, sy 1)] [(0, .pointer (some ⟨4, 0, none⟩)), (1, sy 0), (21, sy 1)] .normal (by kernel_rfl) (fun gb => by kernel_rfl))
@[reducible] def wrAN_k (p : WinP) (r0 cnt : Nat) (left : Int → Bool) (i : Int) (hw : Ev.wfI i) (h1 : (p.lf) (i) = none) (h2 : ¬ (((p.f) (i)).getD 0) ≤ ((p.fn : Nat) : Int)) : Ev.Kn := { val := wr_v p r0 cnt left i hw, leaf := wr_l p r0 cnt left i hw, bs := [(.leq, sy 10, sy 0, .bool false)], us := [], cs := [], ks := [], hb := (List.forall_mem_cons.2 ⟨(by intro t ox oy; exact Ev.bt_leq (by have q1 := p.hm; have q2 := p.hfm; first | (simpa using h2) | (simp; omega))), (List.forall_mem_nil _)⟩), hu := (List.forall_mem_nil _), hc := (List.forall_mem_nil _), gs := [Ev.star (Ev.oldX p.W p.X :: [Ev.curA Try.prog 3 3 (p.bs) (r0) (p.ns) (cnt) (p.f) (left) (i), Ev.mapA Try.prog 3 3 (p.bl) (p.nl) (p.lf)])], ops := [⟨[15], [sy 1], none, 0, none, .tuple #[sy 9, sy 10], none⟩, ⟨[5, 49, 1], [sy 7, sy 9], none, 0, none, .tuple #[.int .i64 0, .bool false], none⟩], cls := [] }
theorem wrAN_o (p : WinP) (r0 cnt : Nat) (left : Int → Bool) (i : Int) (hw : Ev.wfI i) (h1 : (p.lf) (i) = none) (h2 : ¬ (((p.f) (i)).getD 0) ≤ ((p.fn : Nat) : Int)) : @Ev.CalOK (wrAN_k p r0 cnt left i hw h1 h2).sig Try.prog := Ev.Kn.ok (wrAN_k p r0 cnt left i hw h1 h2) (fun q hq => by cases hq) (List.forall_mem_cons.2 ⟨(by exact Ev.cur_entry mapI (ci := 1) rfl rfl rfl rfl rfl), (List.forall_mem_cons.2 ⟨(by have q1 := p.hm; have q2 := p.hfm; exact Ev.map_look_no mapI (ci := 2) rfl rfl rfl rfl (by first | assumption | exact wfI_of (by omega) (by omega)) h1), (List.forall_mem_nil _)⟩)⟩) (List.forall_mem_nil _)
theorem wrAN (p : WinP) (r0 cnt : Nat) (left : Int → Bool) (i : Int) (hw : Ev.wfI i) (h1 : (p.lf) (i) = none) (h2 : ¬ (((p.f) (i)).getD 0) ≤ ((p.fn : Nat) : Int)) : Ev.Pie Try.prog 28 [2, 6, 0, 4] 0 4 78 p.c [(0, (.pointer (some ⟨p.b4, 0, none⟩))), (1, (.int .i64 ((p.fn : Nat) : Int))), (21, (Ev.ptrV r0))] [Ev.blkA p.b4 [(.int .i64 (p.ww)), (.int .i64 (p.ll)), (p.al), (p.rn), (.map (some p.bs)), (.map (some p.bl)), (.int .i64 (p.mon))] 51, Ev.curA Try.prog 3 3 (p.bs) (r0) (p.ns) (cnt) (p.f) (left) (i), Ev.mapA Try.prog 3 3 (p.bl) (p.nl) (p.lf)] .normal (fun κ : Ev.Ren => [(0, (.pointer (some ⟨p.b4, 0, none⟩))), (1, (.int .i64 ((p.fn : Nat) : Int))), (21, (Ev.ptrV r0))]) (fun κ : Ev.Ren => [Ev.blkA p.b4 [(.int .i64 (p.ww)), (.int .i64 (p.ll)), (p.al), (p.rn), (.map (some p.bs)), (.map (some p.bl)), (.int .i64 (p.mon))] 51, Ev.curA Try.prog 3 3 (p.bs) (r0) (p.ns) (cnt) (p.f) (left) (i), Ev.mapA Try.prog 3 3 (p.bl) (p.nl) (p.lf)]) := (Ev.tri Try.codeOk mixed_ok (wrAN_k p r0 cnt left i hw h1 h2) (wrAN_o p r0 cnt left i hw h1 h2) (n := 200) (m := 100) (c := p.c) [(4, p.b4)] [(4, [sy 2, sy 3, sy 4, sy 5, sy 6, sy 7, sy 8], 51)] [(4, [sy 2, sy 3, sy 4, sy 5, sy 6, sy 7, sy 8], 51)] 0 0 [Ev.curA Try.prog 3 3 (p.bs) (r0) (p.ns) (cnt) (p.f) (left) (i), Ev.mapA Try.prog 3 3 (p.bl) (p.nl) (p.lf)] [Ev.curA Try.prog 3 3 (p.bs) (r0) (p.ns) (cnt) (p.f) (left) (i), Ev.mapA Try.prog 3 3 (p.bl) (p.nl) (p.lf)] rfl rfl [(0, .pointer (some ⟨4, 0, none⟩)), (1, sy 0), (21, sy 1)] [(0, .pointer (some ⟨4, 0, none⟩)), (1, sy 0), (21, sy 1)] .normal (by kernel_rfl) (fun gb => by kernel_rfl))
@[reducible] def wrB_k (p : WinP) (r0 cnt : Nat) (left : Int → Bool) (i : Int) (hw : Ev.wfI i) (h1 : (p.lf) (i) = none) (h2 : (((p.f) (i)).getD 0) ≤ ((p.fn : Nat) : Int)) : Ev.Kn := { val := wr_v p r0 cnt left i hw, leaf := wr_l p r0 cnt left i hw, bs := [(.leq, sy 10, sy 0, .bool true)], us := [], cs := [], ks := [], hb := (List.forall_mem_cons.2 ⟨(by intro t ox oy; exact Ev.bt_leq (by have q1 := p.hm; have q2 := p.hfm; first | (simpa using h2) | (simp; omega))), (List.forall_mem_nil _)⟩), hu := (List.forall_mem_nil _), hc := (List.forall_mem_nil _), gs := [Ev.star (Ev.oldX p.W p.X :: [Ev.curA Try.prog 3 3 (p.bs) (r0) (p.ns) (cnt) (p.f) (left) (i), Ev.mapA Try.prog 3 3 (p.bl) (p.nl) (p.lf)])], ops := [⟨[15], [sy 1], none, 0, none, .tuple #[sy 9, sy 10], none⟩, ⟨[5, 49, 1], [sy 7, sy 9], none, 0, none, .tuple #[.int .i64 0, .bool false], none⟩], cls := [] }
theorem wrB_o (p : WinP) (r0 cnt : Nat) (left : Int → Bool) (i : Int) (hw : Ev.wfI i) (h1 : (p.lf) (i) = none) (h2 : (((p.f) (i)).getD 0) ≤ ((p.fn : Nat) : Int)) : @Ev.CalOK (wrB_k p r0 cnt left i hw h1 h2).sig Try.prog := Ev.Kn.ok (wrB_k p r0 cnt left i hw h1 h2) (fun q hq => by cases hq) (List.forall_mem_cons.2 ⟨(by exact Ev.cur_entry mapI (ci := 1) rfl rfl rfl rfl rfl), (List.forall_mem_cons.2 ⟨(by have q1 := p.hm; have q2 := p.hfm; exact Ev.map_look_no mapI (ci := 2) rfl rfl rfl rfl (by first | assumption | exact wfI_of (by omega) (by omega)) h1), (List.forall_mem_nil _)⟩)⟩) (List.forall_mem_nil _)
theorem wrB (p : WinP) (r0 cnt : Nat) (left : Int → Bool) (i : Int) (hw : Ev.wfI i) (h1 : (p.lf) (i) = none) (h2 : (((p.f) (i)).getD 0) ≤ ((p.fn : Nat) : Int)) : Ev.Pie Try.prog 28 [2, 6, 0, 4] 0 4 78 p.c [(0, (.pointer (some ⟨p.b4, 0, none⟩))), (1, (.int .i64 ((p.fn : Nat) : Int))), (21, (Ev.ptrV r0))] [Ev.blkA p.b4 [(.int .i64 (p.ww)), (.int .i64 (p.ll)), (p.al), (p.rn), (.map (some p.bs)), (.map (some p.bl)), (.int .i64 (p.mon))] 51, Ev.curA Try.prog 3 3 (p.bs) (r0) (p.ns) (cnt) (p.f) (left) (i), Ev.mapA Try.prog 3 3 (p.bl) (p.nl) (p.lf)] .ret (fun κ : Ev.Ren => [(4, (.bool false))]) (fun κ : Ev.Ren => [Ev.blkA p.b4 [(.int .i64 (p.ww)), (.int .i64 (p.ll)), (p.al), (p.rn), (.map (some p.bs)), (.map (some p.bl)), (.int .i64 (p.mon))] 51, Ev.curA Try.prog 3 3 (p.bs) (r0) (p.ns) (cnt) (p.f) (left) (i), Ev.mapA Try.prog 3 3 (p.bl) (p.nl) (p.lf)]) := (Ev.tri Try.codeOk mixed_ok (wrB_k p r0 cnt left i hw h1 h2) (wrB_o p r0 cnt left i hw h1 h2) (n := 200) (m := 100) (c := p.c) [(4, p.b4)] [(4, [sy 2, sy 3, sy 4, sy 5, sy 6, sy 7, sy 8], 51)] [(4, [sy 2, sy 3, sy 4, sy 5, sy 6, sy 7, sy 8], 51)] 0 0 [Ev.curA Try.prog 3 3 (p.bs) (r0) (p.ns) (cnt) (p.f) (left) (i), Ev.mapA Try.prog 3 3 (p.bl) (p.nl) (p.lf)] [Ev.curA Try.prog 3 3 (p.bs) (r0) (p.ns) (cnt) (p.f) (left) (i), Ev.mapA Try.prog 3 3 (p.bl) (p.nl) (p.lf)] rfl rfl [(0, .pointer (some ⟨4, 0, none⟩)), (1, sy 0), (21, sy 1)] [(4, .bool false)] .ret (by kernel_rfl) (fun gb => by kernel_rfl))
@[reducible] def wrC_k (p : WinP) (r0 cnt : Nat) (left : Int → Bool) (i : Int) (hw : Ev.wfI i) (x1 : Int) (y1 : (p.lf) (i) = some x1) (h2 : (((p.f) (i)).getD 0) ≤ ((p.fn : Nat) : Int)) (h3 : (((p.lf) (i)).getD 0) < ((p.fn : Nat) : Int)) : Ev.Kn := { val := wr_v p r0 cnt left i hw, leaf := wr_l p r0 cnt left i hw, bs := [(.leq, sy 10, sy 0, .bool true), (.lss, sy 11, sy 0, .bool true)], us := [], cs := [], ks := [], hb := (List.forall_mem_cons.2 ⟨(by intro t ox oy; exact Ev.bt_leq (by have q1 := p.hm; have q2 := p.hfm; first | (simpa using h2) | (simp; omega))), (List.forall_mem_cons.2 ⟨(by intro t ox oy; exact Ev.bt_lss (by have q1 := p.hm; have q2 := p.hfm; first | (simpa using h3) | (simp; omega))), (List.forall_mem_nil _)⟩)⟩), hu := (List.forall_mem_nil _), hc := (List.forall_mem_nil _), gs := [Ev.star (Ev.oldX p.W p.X :: [Ev.curA Try.prog 3 3 (p.bs) (r0) (p.ns) (cnt) (p.f) (left) (i), Ev.mapA Try.prog 3 3 (p.bl) (p.nl) (p.lf)])], ops := [⟨[15], [sy 1], none, 0, none, .tuple #[sy 9, sy 10], none⟩, ⟨[5, 49, 1], [sy 7, sy 9], none, 0, none, .tuple #[sy 11, .bool true], none⟩], cls := [] }
theorem wrC_o (p : WinP) (r0 cnt : Nat) (left : Int → Bool) (i : Int) (hw : Ev.wfI i) (x1 : Int) (y1 : (p.lf) (i) = some x1) (h2 : (((p.f) (i)).getD 0) ≤ ((p.fn : Nat) : Int)) (h3 : (((p.lf) (i)).getD 0) < ((p.fn : Nat) : Int)) : @Ev.CalOK (wrC_k p r0 cnt left i hw x1 y1 h2 h3).sig Try.prog := Ev.Kn.ok (wrC_k p r0 cnt left i hw x1 y1 h2 h3) (fun q hq => by cases hq) (List.forall_mem_cons.2 ⟨(by exact Ev.cur_entry mapI (ci := 1) rfl rfl rfl rfl rfl), (List.forall_mem_cons.2 ⟨(by have q1 := p.hm; have q2 := p.hfm; exact Ev.map_look_yes mapI (ci := 2) rfl rfl rfl rfl (by first | assumption | exact wfI_of (by omega) (by omega)) y1 (by show Value.int .i64 _ = _; rw [y1]; rfl)), (List.forall_mem_nil _)⟩)⟩) (List.forall_mem_nil _)
theorem wrC (p : WinP) (r0 cnt : Nat) (left : Int → Bool) (i : Int) (hw : Ev.wfI i) (x1 : Int) (y1 : (p.lf) (i) = some x1) (h2 : (((p.f) (i)).getD 0) ≤ ((p.fn : Nat) : Int)) (h3 : (((p.lf) (i)).getD 0) < ((p.fn : Nat) : Int)) : Ev.Pie Try.prog 28 [2, 6, 0, 4] 0 4 78 p.c [(0, (.pointer (some ⟨p.b4, 0, none⟩))), (1, (.int .i64 ((p.fn : Nat) : Int))), (21, (Ev.ptrV r0))] [Ev.blkA p.b4 [(.int .i64 (p.ww)), (.int .i64 (p.ll)), (p.al), (p.rn), (.map (some p.bs)), (.map (some p.bl)), (.int .i64 (p.mon))] 51, Ev.curA Try.prog 3 3 (p.bs) (r0) (p.ns) (cnt) (p.f) (left) (i), Ev.mapA Try.prog 3 3 (p.bl) (p.nl) (p.lf)] .ret (fun κ : Ev.Ren => [(4, (.bool false))]) (fun κ : Ev.Ren => [Ev.blkA p.b4 [(.int .i64 (p.ww)), (.int .i64 (p.ll)), (p.al), (p.rn), (.map (some p.bs)), (.map (some p.bl)), (.int .i64 (p.mon))] 51, Ev.curA Try.prog 3 3 (p.bs) (r0) (p.ns) (cnt) (p.f) (left) (i), Ev.mapA Try.prog 3 3 (p.bl) (p.nl) (p.lf)]) := (Ev.tri Try.codeOk mixed_ok (wrC_k p r0 cnt left i hw x1 y1 h2 h3) (wrC_o p r0 cnt left i hw x1 y1 h2 h3) (n := 200) (m := 100) (c := p.c) [(4, p.b4)] [(4, [sy 2, sy 3, sy 4, sy 5, sy 6, sy 7, sy 8], 51)] [(4, [sy 2, sy 3, sy 4, sy 5, sy 6, sy 7, sy 8], 51)] 0 0 [Ev.curA Try.prog 3 3 (p.bs) (r0) (p.ns) (cnt) (p.f) (left) (i), Ev.mapA Try.prog 3 3 (p.bl) (p.nl) (p.lf)] [Ev.curA Try.prog 3 3 (p.bs) (r0) (p.ns) (cnt) (p.f) (left) (i), Ev.mapA Try.prog 3 3 (p.bl) (p.nl) (p.lf)] rfl rfl [(0, .pointer (some ⟨4, 0, none⟩)), (1, sy 0), (21, sy 1)] [(4, .bool false)] .ret (by kernel_rfl) (fun gb => by kernel_rfl))
@[reducible] def wrD_k (p : WinP) (r0 cnt : Nat) (left : Int → Bool) (i : Int) (hw : Ev.wfI i) (x1 : Int) (y1 : (p.lf) (i) = some x1) (h2 : (((p.f) (i)).getD 0) ≤ ((p.fn : Nat) : Int)) (h3 : ¬ (((p.lf) (i)).getD 0) < ((p.fn : Nat) : Int)) : Ev.Kn := { val := wr_v p r0 cnt left i hw, leaf := wr_l p r0 cnt left i hw, bs := [(.leq, sy 10, sy 0, .bool true), (.lss, sy 11, sy 0, .bool false)], us := [], cs := [], ks := [], hb := (List.forall_mem_cons.2 ⟨(by intro t ox oy; exact Ev.bt_leq (by have q1 := p.hm; have q2 := p.hfm; first | (simpa using h2) | (simp; omega))), (List.forall_mem_cons.2 ⟨(by intro t ox oy; exact Ev.bt_lss (by have q1 := p.hm; have q2 := p.hfm; first | (simpa using h3) | (simp; omega))), (List.forall_mem_nil _)⟩)⟩), hu := (List.forall_mem_nil _), hc := (List.forall_mem_nil _), gs := [Ev.star (Ev.oldX p.W p.X :: [Ev.curA Try.prog 3 3 (p.bs) (r0) (p.ns) (cnt) (p.f) (left) (i), Ev.mapA Try.prog 3 3 (p.bl) (p.nl) (p.lf)])], ops := [⟨[15], [sy 1], none, 0, none, .tuple #[sy 9, sy 10], none⟩, ⟨[5, 49, 1], [sy 7, sy 9], none, 0, none, .tuple #[sy 11, .bool true], none⟩], cls := [] }
theorem wrD_o (p : WinP) (r0 cnt : Nat) (left : Int → Bool) (i : Int) (hw : Ev.wfI i) (x1 : Int) (y1 : (p.lf) (i) = some x1) (h2 : (((p.f) (i)).getD 0) ≤ ((p.fn : Nat) : Int)) (h3 : ¬ (((p.lf) (i)).getD 0) < ((p.fn : Nat) : Int)) : @Ev.CalOK (wrD_k p r0 cnt left i hw x1 y1 h2 h3).sig Try.prog := Ev.Kn.ok (wrD_k p r0 cnt left i hw x1 y1 h2 h3) (fun q hq => by cases hq) (List.forall_mem_cons.2 ⟨(by exact Ev.cur_entry mapI (ci := 1) rfl rfl rfl rfl rfl), (List.forall_mem_cons.2 ⟨(by have q1 := p.hm; have q2 := p.hfm; exact Ev.map_look_yes mapI (ci := 2) rfl rfl rfl rfl (by first | assumption | exact wfI_of (by omega) (by omega)) y1 (by show Value.int .i64 _ = _; rw [y1]; rfl)), (List.forall_mem_nil _)⟩)⟩) (List.forall_mem_nil _)
theorem wrD (p : WinP) (r0 cnt : Nat) (left : Int → Bool) (i : Int) (hw : Ev.wfI i) (x1 : Int) (y1 : (p.lf) (i) = some x1) (h2 : (((p.f) (i)).getD 0) ≤ ((p.fn : Nat) : Int)) (h3 : ¬ (((p.lf) (i)).getD 0) < ((p.fn : Nat) : Int)) : Ev.Pie Try.prog 28 [2, 6, 0, 4] 0 4 78 p.c [(0, (.pointer (some ⟨p.b4, 0, none⟩))), (1, (.int .i64 ((p.fn : Nat) : Int))), (21, (Ev.ptrV r0))] [Ev.blkA p.b4 [(.int .i64 (p.ww)), (.int .i64 (p.ll)), (p.al), (p.rn), (.map (some p.bs)), (.map (some p.bl)), (.int .i64 (p.mon))] 51, Ev.curA Try.prog 3 3 (p.bs) (r0) (p.ns) (cnt) (p.f) (left) (i), Ev.mapA Try.prog 3 3 (p.bl) (p.nl) (p.lf)] .normal (fun κ : Ev.Ren => [(0, (.pointer (some ⟨p.b4, 0, none⟩))), (1, (.int .i64 ((p.fn : Nat) : Int))), (21, (Ev.ptrV r0))]) (fun κ : Ev.Ren => [Ev.blkA p.b4 [(.int .i64 (p.ww)), (.int .i64 (p.ll)), (p.al), (p.rn), (.map (some p.bs)), (.map (some p.bl)), (.int .i64 (p.mon))] 51, Ev.curA Try.prog 3 3 (p.bs) (r0) (p.ns) (cnt) (p.f) (left) (i), Ev.mapA Try.prog 3 3 (p.bl) (p.nl) (p.lf)]) := (Ev.tri Try.codeOk mixed_ok (wrD_k p r0 cnt left i hw x1 y1 h2 h3) (wrD_o p r0 cnt left i hw x1 y1 h2 h3) (n := 200) (m := 100) (c := p.c) [(4, p.b4)] [(4, [sy 2, sy 3, sy 4, sy 5, sy 6, sy 7, sy 8], 51)] [(4, [sy 2, sy 3, sy 4, sy 5, sy 6, sy 7, sy 8], 51)] 0 0 [Ev.curA Try.prog 3 3 (p.bs) (r0) (p.ns) (cnt) (p.f) (left) (i), Ev.mapA Try.prog 3 3 (p.bl) (p.nl) (p.lf)] [Ev.curA Try.prog 3 3 (p.bs) (r0) (p.ns) (cnt) (p.f) (left) (i), Ev.mapA Try.prog 3 3 (p.bl) (p.nl) (p.lf)] rfl rfl [(0, .pointer (some ⟨4, 0, none⟩)), (1, sy 0), (21, sy 1)] [(0, .pointer (some ⟨4, 0, none⟩)), (1, sy 0), (21, sy 1)] .normal (by kernel_rfl) (fun gb => by kernel_rfl))
def wk_v (p : WinP) (j : Nat) (g : Int) : Nat → Value
  | 0 => .int .i64 ((p.fn : Nat) : Int)
  | 1 => .int .u64 (g)
  | 2 => .int .i64 ((p.m : Int) - (p.fn : Int))
  | 3 => .int .i64 ((j : Nat) : Int)
  | 4 => .int .i64 (p.ww)
  | 5 => .int .i64 (p.ll)
  | 6 => p.al
  | 7 => p.rn
  | 8 => .map (some p.bs)
  | 9 => .map (some p.bl)
  | 10 => .int .i64 (p.mon)
  | _ => .int .i64 0
theorem wk_l (p : WinP) (j : Nat) (g : Int) : ∀ j9, Ev.leafV (wk_v p j g j9) = true := by
  have q1 := p.hm; have q2 := p.hfm; intro j9
  unfold wk_v
  split <;> first | rfl | assumption | exact p.lal | exact p.lrn | exact p.hs.leaf | exact Ev.ptrR_leaf _ _
@[reducible] def wkY_k (p : WinP) (j : Nat) (g : Int) (h1 : (g) ≥ 10000000) : Ev.Kn := { val := wk_v p j g, leaf := wk_l p j g, bs := [(.geq, sy 1, .int .u64 10000000, .bool true)], us := [], cs := [], ks := [], hb := (List.forall_mem_cons.2 ⟨(by intro t ox oy; exact Ev.bt_geq (by have q1 := p.hm; have q2 := p.hfm; first | (simpa using h1) | (simp; omega))), (List.forall_mem_nil _)⟩), hu := (List.forall_mem_nil _), hc := (List.forall_mem_nil _), gs := [Ev.star (Ev.oldX p.W p.X :: [Ev.mapA Try.prog 3 3 (p.bs) (p.ns) (p.f), Ev.mapA Try.prog 3 3 (p.bl) (p.nl) (p.lf)])], ops := [], cls := [] }
theorem wkY_o (p : WinP) (j : Nat) (g : Int) (h1 : (g) ≥ 10000000) : @Ev.CalOK (wkY_k p j g h1).sig Try.prog := Ev.Kn.ok (wkY_k p j g h1) (fun q hq => by cases hq) (List.forall_mem_nil _) (List.forall_mem_nil _)
theorem wkY (p : WinP) (j : Nat) (g : Int) (h1 : (g) ≥ 10000000) : Ev.Pie Try.prog 28 [2] 8 2 78 p.c [(9, (.int .u64 (g)))] [Ev.blkA p.b4 [(.int .i64 (p.ww)), (.int .i64 (p.ll)), (p.al), (p.rn), (.map (some p.bs)), (.map (some p.bl)), (.int .i64 (p.mon))] 51, Ev.mapA Try.prog 3 3 (p.bs) (p.ns) (p.f), Ev.mapA Try.prog 3 3 (p.bl) (p.nl) (p.lf)] .ret (fun κ : Ev.Ren => [(4, (.bool true))]) (fun κ : Ev.Ren => [Ev.blkA p.b4 [(.int .i64 (p.ww)), (.int .i64 (p.ll)), (p.al), (p.rn), (.map (some p.bs)), (.map (some p.bl)), (.int .i64 (p.mon))] 51, Ev.mapA Try.prog 3 3 (p.bs) (p.ns) (p.f), Ev.mapA Try.prog 3 3 (p.bl) (p.nl) (p.lf)]) := (Ev.tri Try.codeOk mixed_ok (wkY_k p j g h1) (wkY_o p j g h1) (n := 200) (m := 100) (c := p.c) [(4, p.b4)] [(4, [sy 4, sy 5, sy 6, sy 7, sy 8, sy 9, sy 10], 51)] [(4, [sy 4, sy 5, sy 6, sy 7, sy 8, sy 9, sy 10], 51)] 0 0 [Ev.mapA Try.prog 3 3 (p.bs) (p.ns) (p.f), Ev.mapA Try.prog 3 3 (p.bl) (p.nl) (p.lf)] [Ev.mapA Try.prog 3 3 (p.bs) (p.ns) (p.f), Ev.mapA Try.prog 3 3 (p.bl) (p.nl) (p.lf)] rfl rfl [(9, sy 1)] [(4, .bool true)] .ret (by kernel_rfl) (fun gb => by kernel_rfl))
@[reducible] def wkX_k (p : WinP) (j : Nat) (g : Int) (h1 : ¬ (g) ≥ 10000000) : Ev.Kn := { val := wk_v p j g, leaf := wk_l p j g, bs := [(.geq, sy 1, .int .u64 10000000, .bool false)], us := [], cs := [], ks := [], hb := (List.forall_mem_cons.2 ⟨(by intro t ox oy; exact Ev.bt_geq (by have q1 := p.hm; have q2 := p.hfm; first | (simpa using h1) | (simp; omega))), (List.forall_mem_nil _)⟩), hu := (List.forall_mem_nil _), hc := (List.forall_mem_nil _), gs := [Ev.star (Ev.oldX p.W p.X :: [Ev.mapA Try.prog 3 3 (p.bs) (p.ns) (p.f), Ev.mapA Try.prog 3 3 (p.bl) (p.nl) (p.lf)])], ops := [], cls := [] }
theorem wkX_o (p : WinP) (j : Nat) (g : Int) (h1 : ¬ (g) ≥ 10000000) : @Ev.CalOK (wkX_k p j g h1).sig Try.prog := Ev.Kn.ok (wkX_k p j g h1) (fun q hq => by cases hq) (List.forall_mem_nil _) (List.forall_mem_nil _)
theorem wkX (p : WinP) (j : Nat) (g : Int) (h1 : ¬ (g) ≥ 10000000) : Ev.Pie Try.prog 28 [2] 8 2 78 p.c [(9, (.int .u64 (g)))] [Ev.blkA p.b4 [(.int .i64 (p.ww)), (.int .i64 (p.ll)), (p.al), (p.rn), (.map (some p.bs)), (.map (some p.bl)), (.int .i64 (p.mon))] 51, Ev.mapA Try.prog 3 3 (p.bs) (p.ns) (p.f), Ev.mapA Try.prog 3 3 (p.bl) (p.nl) (p.lf)] .ret (fun κ : Ev.Ren => [(4, (.bool false))]) (fun κ : Ev.Ren => [Ev.blkA p.b4 [(.int .i64 (p.ww)), (.int .i64 (p.ll)), (p.al), (p.rn), (.map (some p.bs)), (.map (some p.bl)), (.int .i64 (p.mon))] 51, Ev.mapA Try.prog 3 3 (p.bs) (p.ns) (p.f), Ev.mapA Try.prog 3 3 (p.bl) (p.nl) (p.lf)]) := (Ev.tri Try.codeOk mixed_ok (wkX_k p j g h1) (wkX_o p j g h1) (n := 200) (m := 100) (c := p.c) [(4, p.b4)] [(4, [sy 4, sy 5, sy 6, sy 7, sy 8, sy 9, sy 10], 51)] [(4, [sy 4, sy 5, sy 6, sy 7, sy 8, sy 9, sy 10], 51)] 0 0 [Ev.mapA Try.prog 3 3 (p.bs) (p.ns) (p.f), Ev.mapA Try.prog 3 3 (p.bl) (p.nl) (p.lf)] [Ev.mapA Try.prog 3 3 (p.bs) (p.ns) (p.f), Ev.mapA Try.prog 3 3 (p.bl) (p.nl) (p.lf)] rfl rfl [(9, sy 1)] [(4, .bool false)] .ret (by kernel_rfl) (fun gb => by kernel_rfl))
def wl_v (p : WinP) (j : Nat) (g : Int) (hj : p.fn + j < p.m) : Nat → Value
  | 0 => .int .i64 ((p.fn : Nat) : Int)
  | 1 => .int .u64 (g)
  | 2 => .int .i64 ((p.m : Int) - (p.fn : Int))
  | 3 => .int .i64 ((j : Nat) : Int)
  | 4 => .int .i64 (p.ww)
  | 5 => .int .i64 (p.ll)
  | 6 => p.al
  | 7 => p.rn
  | 8 => .map (some p.bs)
  | 9 => .map (some p.bl)
  | 10 => .int .i64 (p.mon)
  | 11 => .int .i64 (((p.fn) + (j) : Nat) : Int)
  | 12 => Ev.ptrR (p.al) (((p.fn) + (j)) * 6)
  | 13 => Ev.ptrR (p.al) (((p.fn) + (j)) * 6 + 2)
  | 14 => .int .i64 (p.nsf (((p.fn) + (j))))
  | 15 => .int .i64 (max 0 (p.nsf (((p.fn) + (j)))))
  | 16 => .int .u64 (IntKind.u64.wrap (max 0 (p.nsf (((p.fn) + (j))))))
  | 17 => .int .u64 (min (g) 4611686018427387904)
  | 18 => .int .u64 (IntKind.u64.wrap (0 + (min (g) 4611686018427387904)))
  | 19 => .int .u64 (min (IntKind.u64.wrap (0 + (min (g) 4611686018427387904))) 4611686018427387904)
  | 20 => .int .u64 (min (IntKind.u64.wrap (max 0 (p.nsf (((p.fn) + (j)))))) 4611686018427387904)
  | 21 => .int .u64 (IntKind.u64.wrap ((min (IntKind.u64.wrap (0 + (min (g) 4611686018427387904))) 4611686018427387904) + (min (IntKind.u64.wrap (max 0 (p.nsf (((p.fn) + (j)))))) 4611686018427387904)))
  | 22 => .int .u64 (min (IntKind.u64.wrap ((min (IntKind.u64.wrap (0 + (min (g) 4611686018427387904))) 4611686018427387904) + (min (IntKind.u64.wrap (max 0 (p.nsf (((p.fn) + (j)))))) 4611686018427387904))) 4611686018427387904)
  | 23 => .int .i64 (((j) + 1 : Nat) : Int)
  | _ => .int .i64 0
theorem wl_l (p : WinP) (j : Nat) (g : Int) (hj : p.fn + j < p.m) : ∀ j9, Ev.leafV (wl_v p j g hj j9) = true := by
  have q1 := p.hm; have q2 := p.hfm; intro j9
  unfold wl_v
  split <;> first | rfl | assumption | exact p.lal | exact p.lrn | exact p.hs.leaf | exact Ev.ptrR_leaf _ _
@[reducible] def wlG_k (p : WinP) (j : Nat) (g : Int) (hj : p.fn + j < p.m) (h1 : ¬ (min (IntKind.u64.wrap ((min (IntKind.u64.wrap (0 + (min (g) 4611686018427387904))) 4611686018427387904) + (min (IntKind.u64.wrap (max 0 (p.nsf (((p.fn) + (j)))))) 4611686018427387904))) 4611686018427387904) ≥ 10000000) : Ev.Kn := { val := wl_v p j g hj, leaf := wl_l p j g hj, bs := [(.lss, sy 3, sy 2, .bool true), (.add, sy 0, sy 3, sy 11), (.add, .int .u64 0, sy 17, sy 18), (.add, sy 19, sy 20, sy 21), (.geq, sy 22, .int .u64 10000000, .bool false), (.add, sy 3, .int .i64 1, sy 23)], us := [], cs := [(.u64, sy 15, sy 16)], ks := [], hb := (List.forall_mem_cons.2 ⟨(by intro t ox oy; exact Ev.bt_lss (by have q1 := p.hm; have q2 := p.hfm; first | (simp; done) | (simp; omega))), (List.forall_mem_cons.2 ⟨(by intro t ox oy; exact Ev.bt_add (by have q1 := p.hm; have q2 := p.hfm; rw [wrap_ok (by omega) (by omega)]; omega)), (List.forall_mem_cons.2 ⟨(by intro t ox oy; exact Ev.bt_add rfl), (List.forall_mem_cons.2 ⟨(by intro t ox oy; exact Ev.bt_add rfl), (List.forall_mem_cons.2 ⟨(by intro t ox oy; exact Ev.bt_geq (by have q1 := p.hm; have q2 := p.hfm; first | (simpa using h1) | (simp; omega))), (List.forall_mem_cons.2 ⟨(by intro t ox oy; exact Ev.bt_add (by have q1 := p.hm; have q2 := p.hfm; rw [wrap_ok (by omega) (by omega)]; omega)), (List.forall_mem_nil _)⟩)⟩)⟩)⟩)⟩)⟩), hu := (List.forall_mem_nil _), hc := (List.forall_mem_cons.2 ⟨⟨.i64, _, rfl, rfl⟩, (List.forall_mem_nil _)⟩), gs := [Ev.star (Ev.oldX p.W p.X :: [Ev.mapA Try.prog 3 3 (p.bs) (p.ns) (p.f), Ev.mapA Try.prog 3 3 (p.bl) (p.nl) (p.lf)])], ops := [⟨[3, 31], [sy 6, sy 11], none, 0, none, sy 12, none⟩, ⟨[7, 47, 2], [sy 12], none, 0, none, sy 13, none⟩, ⟨[1, 2], [sy 13], none, 0, none, sy 14, none⟩, ⟨[17, 2, 2], [.int .i64 0, sy 14], none, 0, none, sy 15, none⟩, ⟨[16, 25, 25], [sy 1, .int .u64 4611686018427387904], none, 0, none, sy 17, none⟩, ⟨[16, 25, 25], [sy 18, .int .u64 4611686018427387904], none, 0, none, sy 19, none⟩, ⟨[16, 25, 25], [sy 16, .int .u64 4611686018427387904], none, 0, none, sy 20, none⟩, ⟨[16, 25, 25], [sy 21, .int .u64 4611686018427387904], none, 0, none, sy 22, none⟩], cls := [] }
theorem wlG_o (p : WinP) (j : Nat) (g : Int) (hj : p.fn + j < p.m) (h1 : ¬ (min (IntKind.u64.wrap ((min (IntKind.u64.wrap (0 + (min (g) 4611686018427387904))) 4611686018427387904) + (min (IntKind.u64.wrap (max 0 (p.nsf (((p.fn) + (j)))))) 4611686018427387904))) 4611686018427387904) ≥ 10000000) : @Ev.CalOK (wlG_k p j g hj h1).sig Try.prog := Ev.Kn.ok (wlG_k p j g hj h1) (fun q hq => by cases hq) (List.forall_mem_cons.2 ⟨(by obtain ⟨i, i1, i2, i3, i4⟩ := infoSamp; have q1 := p.hm; have q2 := p.hfm; exact Ev.ro_index (ci := 0) (j := ((p.fn) + (j))) rfl rfl p.hs Try.underlying31 i1 i2 rfl rfl (by omega) rfl), (List.forall_mem_cons.2 ⟨(by have q1 := p.hm; have q2 := p.hfm; exact Ev.ro_field (fo := 2) rfl p.hs (by omega) fieldNs rfl rfl), (List.forall_mem_cons.2 ⟨(by have q1 := p.hm; have q2 := p.hfm; exact Ev.ro_load (ci := 0) (m := ((p.fn) + (j)) * 6 + 2) (x := .int .i64 (p.nsf (((p.fn) + (j))))) rfl rfl p.hs loadInt64 (p.hns _ (by omega)) rfl rfl p.hX), (List.forall_mem_cons.2 ⟨(by exact Ev.row_max (kd := .i64) (a := 0) (b := (p.nsf (((p.fn) + (j))))) Ev.isInt (Ev.isSym rfl) rfl), (List.forall_mem_cons.2 ⟨(by exact Ev.row_min (kd := .u64) (a := (g)) (b := 4611686018427387904) (Ev.isSym rfl) Ev.isInt rfl), (List.forall_mem_cons.2 ⟨(by exact Ev.row_min (kd := .u64) (a := (IntKind.u64.wrap (0 + (min (g) 4611686018427387904)))) (b := 4611686018427387904) (Ev.isSym rfl) Ev.isInt rfl), (List.forall_mem_cons.2 ⟨(by exact Ev.row_min (kd := .u64) (a := (IntKind.u64.wrap (max 0 (p.nsf (((p.fn) + (j))))))) (b := 4611686018427387904) (Ev.isSym rfl) Ev.isInt rfl), (List.forall_mem_cons.2 ⟨(by exact Ev.row_min (kd := .u64) (a := (IntKind.u64.wrap ((min (IntKind.u64.wrap (0 + (min (g) 4611686018427387904))) 4611686018427387904) + (min (IntKind.u64.wrap (max 0 (p.nsf (((p.fn) + (j)))))) 4611686018427387904)))) (b := 4611686018427387904) (Ev.isSym rfl) Ev.isInt rfl), (List.forall_mem_nil _)⟩)⟩)⟩)⟩)⟩)⟩)⟩)⟩) (List.forall_mem_nil _)
theorem wlG (p : WinP) (j : Nat) (g : Int) (hj : p.fn + j < p.m) (h1 : ¬ (min (IntKind.u64.wrap ((min (IntKind.u64.wrap (0 + (min (g) 4611686018427387904))) 4611686018427387904) + (min (IntKind.u64.wrap (max 0 (p.nsf (((p.fn) + (j)))))) 4611686018427387904))) 4611686018427387904) ≥ 10000000) : Ev.Pie Try.prog 28 [2, 14, 0] 0 4 78 p.c [(0, (.pointer (some ⟨p.b4, 0, none⟩))), (1, (.int .i64 ((p.fn : Nat) : Int))), (9, (.int .u64 (g))), (54, (.int .i64 ((p.m : Int) - (p.fn : Int)))), (55, (.int .i64 ((j : Nat) : Int)))] [Ev.blkA p.b4 [(.int .i64 (p.ww)), (.int .i64 (p.ll)), (p.al), (p.rn), (.map (some p.bs)), (.map (some p.bl)), (.int .i64 (p.mon))] 51, Ev.mapA Try.prog 3 3 (p.bs) (p.ns) (p.f), Ev.mapA Try.prog 3 3 (p.bl) (p.nl) (p.lf)] .normal (fun κ : Ev.Ren => [(0, (.pointer (some ⟨p.b4, 0, none⟩))), (1, (.int .i64 ((p.fn : Nat) : Int))), (9, (.int .u64 (min (IntKind.u64.wrap ((min (IntKind.u64.wrap (0 + (min (g) 4611686018427387904))) 4611686018427387904) + (min (IntKind.u64.wrap (max 0 (p.nsf (((p.fn) + (j)))))) 4611686018427387904))) 4611686018427387904))), (54, (.int .i64 ((p.m : Int) - (p.fn : Int)))), (55, (.int .i64 (((j) + 1 : Nat) : Int)))]) (fun κ : Ev.Ren => [Ev.blkA p.b4 [(.int .i64 (p.ww)), (.int .i64 (p.ll)), (p.al), (p.rn), (.map (some p.bs)), (.map (some p.bl)), (.int .i64 (p.mon))] 51, Ev.mapA Try.prog 3 3 (p.bs) (p.ns) (p.f), Ev.mapA Try.prog 3 3 (p.bl) (p.nl) (p.lf)]) := (Ev.tri Try.codeOk mixed_ok (wlG_k p j g hj h1) (wlG_o p j g hj h1) (n := 200) (m := 100) (c := p.c) [(4, p.b4)] [(4, [sy 4, sy 5, sy 6, sy 7, sy 8, sy 9, sy 10], 51)] [(4, [sy 4, sy 5, sy 6, sy 7, sy 8, sy 9, sy 10], 51)] 0 0 [Ev.mapA Try.prog 3 3 (p.bs) (p.ns) (p.f), Ev.mapA Try.prog 3 3 (p.bl) (p.nl) (p.lf)] [Ev.mapA Try.prog 3 3 (p.bs) (p.ns) (p.f), Ev.mapA Try.prog 3 3 (p.bl) (p.nl) (p.lf)] rfl rfl [(0, .pointer (some ⟨4, 0, none⟩)), (1, sy 0), (9, sy 1), (54, sy 2), (55, sy 3)] [(0, .pointer (some ⟨4, 0, none⟩)), (1, sy 0), (9, sy 22), (54, sy 2), (55, sy 23)] .normal (by kernel_rfl) (fun gb => by kernel_rfl))
@[reducible] def wlD_k (p : WinP) (j : Nat) (g : Int) (hj : p.fn + j < p.m) (h1 : (min (IntKind.u64.wrap ((min (IntKind.u64.wrap (0 + (min (g) 4611686018427387904))) 4611686018427387904) + (min (IntKind.u64.wrap (max 0 (p.nsf (((p.fn) + (j)))))) 4611686018427387904))) 4611686018427387904) ≥ 10000000) : Ev.Kn := { val := wl_v p j g hj, leaf := wl_l p j g hj, bs := [(.lss, sy 3, sy 2, .bool true), (.add, sy 0, sy 3, sy 11), (.add, .int .u64 0, sy 17, sy 18), (.add, sy 19, sy 20, sy 21), (.geq, sy 22, .int .u64 10000000, .bool true)], us := [], cs := [(.u64, sy 15, sy 16)], ks := [], hb := (List.forall_mem_cons.2 ⟨(by intro t ox oy; exact Ev.bt_lss (by have q1 := p.hm; have q2 := p.hfm; first | (simp; done) | (simp; omega))), (List.forall_mem_cons.2 ⟨(by intro t ox oy; exact Ev.bt_add (by have q1 := p.hm; have q2 := p.hfm; rw [wrap_ok (by omega) (by omega)]; omega)), (List.forall_mem_cons.2 ⟨(by intro t ox oy; exact Ev.bt_add rfl), (List.forall_mem_cons.2 ⟨(by intro t ox oy; exact Ev.bt_add rfl), (List.forall_mem_cons.2 ⟨(by intro t ox oy; exact Ev.bt_geq (by have q1 := p.hm; have q2 := p.hfm; first | (simpa using h1) | (simp; omega))), (List.forall_mem_nil _)⟩)⟩)⟩)⟩)⟩), hu := (List.forall_mem_nil _), hc := (List.forall_mem_cons.2 ⟨⟨.i64, _, rfl, rfl⟩, (List.forall_mem_nil _)⟩), gs := [Ev.star (Ev.oldX p.W p.X :: [Ev.mapA Try.prog 3 3 (p.bs) (p.ns) (p.f), Ev.mapA Try.prog 3 3 (p.bl) (p.nl) (p.lf)])], ops := [⟨[3, 31], [sy 6, sy 11], none, 0, none, sy 12, none⟩, ⟨[7, 47, 2], [sy 12], none, 0, none, sy 13, none⟩, ⟨[1, 2], [sy 13], none, 0, none, sy 14, none⟩, ⟨[17, 2, 2], [.int .i64 0, sy 14], none, 0, none, sy 15, none⟩, ⟨[16, 25, 25], [sy 1, .int .u64 4611686018427387904], none, 0, none, sy 17, none⟩, ⟨[16, 25, 25], [sy 18, .int .u64 4611686018427387904], none, 0, none, sy 19, none⟩, ⟨[16, 25, 25], [sy 16, .int .u64 4611686018427387904], none, 0, none, sy 20, none⟩, ⟨[16, 25, 25], [sy 21, .int .u64 4611686018427387904], none, 0, none, sy 22, none⟩], cls := [] }
theorem wlD_o (p : WinP) (j : Nat) (g : Int) (hj : p.fn + j < p.m) (h1 : (min (IntKind.u64.wrap ((min (IntKind.u64.wrap (0 + (min (g) 4611686018427387904))) 4611686018427387904) + (min (IntKind.u64.wrap (max 0 (p.nsf (((p.fn) + (j)))))) 4611686018427387904))) 4611686018427387904) ≥ 10000000) : @Ev.CalOK (wlD_k p j g hj h1).sig Try.prog := Ev.Kn.ok (wlD_k p j g hj h1) (fun q hq => by cases hq) (List.forall_mem_cons.2 ⟨(by obtain ⟨i, i1, i2, i3, i4⟩ := infoSamp; have q1 := p.hm; have q2 := p.hfm; exact Ev.ro_index (ci := 0) (j := ((p.fn) + (j))) rfl rfl p.hs Try.underlying31 i1 i2 rfl rfl (by omega) rfl), (List.forall_mem_cons.2 ⟨(by have q1 := p.hm; have q2 := p.hfm; exact Ev.ro_field (fo := 2) rfl p.hs (by omega) fieldNs rfl rfl), (List.forall_mem_cons.2 ⟨(by have q1 := p.hm; have q2 := p.hfm; exact Ev.ro_load (ci := 0) (m := ((p.fn) + (j)) * 6 + 2) (x := .int .i64 (p.nsf (((p.fn) + (j))))) rfl rfl p.hs loadInt64 (p.hns _ (by omega)) rfl rfl p.hX), (List.forall_mem_cons.2 ⟨(by exact Ev.row_max (kd := .i64) (a := 0) (b := (p.nsf (((p.fn) + (j))))) Ev.isInt (Ev.isSym rfl) rfl), (List.forall_mem_cons.2 ⟨(by exact Ev.row_min (kd := .u64) (a := (g)) (b := 4611686018427387904) (Ev.isSym rfl) Ev.isInt rfl), (List.forall_mem_cons.2 ⟨(by exact Ev.row_min (kd := .u64) (a := (IntKind.u64.wrap (0 + (min (g) 4611686018427387904)))) (b := 4611686018427387904) (Ev.isSym rfl) Ev.isInt rfl), (List.forall_mem_cons.2 ⟨(by exact Ev.row_min (kd := .u64) (a := (IntKind.u64.wrap (max 0 (p.nsf (((p.fn) + (j))))))) (b := 4611686018427387904) (Ev.isSym rfl) Ev.isInt rfl), (List.forall_mem_cons.2 ⟨(by exact Ev.row_min (kd := .u64) (a := (IntKind.u64.wrap ((min (IntKind.u64.wrap (0 + (min (g) 4611686018427387904))) 4611686018427387904) + (min (IntKind.u64.wrap (max 0 (p.nsf (((p.fn) + (j)))))) 4611686018427387904)))) (b := 4611686018427387904) (Ev.isSym rfl) Ev.isInt rfl), (List.forall_mem_nil _)⟩)⟩)⟩)⟩)⟩)⟩)⟩)⟩) (List.forall_mem_nil _)
theorem wlD (p : WinP) (j : Nat) (g : Int) (hj : p.fn + j < p.m) (h1 : (min (IntKind.u64.wrap ((min (IntKind.u64.wrap (0 + (min (g) 4611686018427387904))) 4611686018427387904) + (min (IntKind.u64.wrap (max 0 (p.nsf (((p.fn) + (j)))))) 4611686018427387904))) 4611686018427387904) ≥ 10000000) : Ev.Pie Try.prog 28 [2, 14, 0] 0 4 78 p.c [(0, (.pointer (some ⟨p.b4, 0, none⟩))), (1, (.int .i64 ((p.fn : Nat) : Int))), (9, (.int .u64 (g))), (54, (.int .i64 ((p.m : Int) - (p.fn : Int)))), (55, (.int .i64 ((j : Nat) : Int)))] [Ev.blkA p.b4 [(.int .i64 (p.ww)), (.int .i64 (p.ll)), (p.al), (p.rn), (.map (some p.bs)), (.map (some p.bl)), (.int .i64 (p.mon))] 51, Ev.mapA Try.prog 3 3 (p.bs) (p.ns) (p.f), Ev.mapA Try.prog 3 3 (p.bl) (p.nl) (p.lf)] (.exit 2) (fun κ : Ev.Ren => [(9, (.int .u64 (min (IntKind.u64.wrap ((min (IntKind.u64.wrap (0 + (min (g) 4611686018427387904))) 4611686018427387904) + (min (IntKind.u64.wrap (max 0 (p.nsf (((p.fn) + (j)))))) 4611686018427387904))) 4611686018427387904)))]) (fun κ : Ev.Ren => [Ev.blkA p.b4 [(.int .i64 (p.ww)), (.int .i64 (p.ll)), (p.al), (p.rn), (.map (some p.bs)), (.map (some p.bl)), (.int .i64 (p.mon))] 51, Ev.mapA Try.prog 3 3 (p.bs) (p.ns) (p.f), Ev.mapA Try.prog 3 3 (p.bl) (p.nl) (p.lf)]) := (Ev.tri Try.codeOk mixed_ok (wlD_k p j g hj h1) (wlD_o p j g hj h1) (n := 200) (m := 100) (c := p.c) [(4, p.b4)] [(4, [sy 4, sy 5, sy 6, sy 7, sy 8, sy 9, sy 10], 51)] [(4, [sy 4, sy 5, sy 6, sy 7, sy 8, sy 9, sy 10], 51)] 0 0 [Ev.mapA Try.prog 3 3 (p.bs) (p.ns) (p.f), Ev.mapA Try.prog 3 3 (p.bl) (p.nl) (p.lf)] [Ev.mapA Try.prog 3 3 (p.bs) (p.ns) (p.f), Ev.mapA Try.prog 3 3 (p.bl) (p.nl) (p.lf)] rfl rfl [(0, .pointer (some ⟨4, 0, none⟩)), (1, sy 0), (9, sy 1), (54, sy 2), (55, sy 3)] [(9, sy 22)] (.exit 2) (by kernel_rfl) (fun gb => by kernel_rfl))
def we_v (p : WinP) (j : Nat) (g : Int) (hj : ¬ p.fn + j < p.m) : Nat → Value
  | 0 => .int .i64 ((p.fn : Nat) : Int)
  | 1 => .int .u64 (g)
  | 2 => .int .i64 ((p.m : Int) - (p.fn : Int))
  | 3 => .int .i64 ((j : Nat) : Int)
  | 4 => .int .i64 (p.ww)
  | 5 => .int .i64 (p.ll)
  | 6 => p.al
  | 7 => p.rn
  | 8 => .map (some p.bs)
  | 9 => .map (some p.bl)
  | 10 => .int .i64 (p.mon)
  | _ => .int .i64 0
theorem we_l (p : WinP) (j : Nat) (g : Int) (hj : ¬ p.fn + j < p.m) : ∀ j9, Ev.leafV (we_v p j g hj j9) = true := by
  have q1 := p.hm; have q2 := p.hfm; intro j9
  unfold we_v
  split <;> first | rfl | assumption | exact p.lal | exact p.lrn | exact p.hs.leaf | exact Ev.ptrR_leaf _ _
@[reducible] def weE_k (p : WinP) (j : Nat) (g : Int) (hj : ¬ p.fn + j < p.m) : Ev.Kn := { val := we_v p j g hj, leaf := we_l p j g hj, bs := [(.lss, sy 3, sy 2, .bool false)], us := [], cs := [], ks := [], hb := (List.forall_mem_cons.2 ⟨(by intro t ox oy; exact Ev.bt_lss (by have q1 := p.hm; have q2 := p.hfm; first | (simp; done) | (simp; omega))), (List.forall_mem_nil _)⟩), hu := (List.forall_mem_nil _), hc := (List.forall_mem_nil _), gs := [Ev.star (Ev.oldX p.W p.X :: [Ev.mapA Try.prog 3 3 (p.bs) (p.ns) (p.f), Ev.mapA Try.prog 3 3 (p.bl) (p.nl) (p.lf)])], ops := [], cls := [] }
theorem weE_o (p : WinP) (j : Nat) (g : Int) (hj : ¬ p.fn + j < p.m) : @Ev.CalOK (weE_k p j g hj).sig Try.prog := Ev.Kn.ok (weE_k p j g hj) (fun q hq => by cases hq) (List.forall_mem_nil _) (List.forall_mem_nil _)
theorem weE (p : WinP) (j : Nat) (g : Int) (hj : ¬ p.fn + j < p.m) : Ev.Pie Try.prog 28 [2, 14, 0] 0 4 78 p.c [(0, (.pointer (some ⟨p.b4, 0, none⟩))), (1, (.int .i64 ((p.fn : Nat) : Int))), (9, (.int .u64 (g))), (54, (.int .i64 ((p.m : Int) - (p.fn : Int)))), (55, (.int .i64 ((j : Nat) : Int)))] [Ev.blkA p.b4 [(.int .i64 (p.ww)), (.int .i64 (p.ll)), (p.al), (p.rn), (.map (some p.bs)), (.map (some p.bl)), (.int .i64 (p.mon))] 51, Ev.mapA Try.prog 3 3 (p.bs) (p.ns) (p.f), Ev.mapA Try.prog 3 3 (p.bl) (p.nl) (p.lf)] (.exit 2) (fun κ : Ev.Ren => [(9, (.int .u64 (g)))]) (fun κ : Ev.Ren => [Ev.blkA p.b4 [(.int .i64 (p.ww)), (.int .i64 (p.ll)), (p.al), (p.rn), (.map (some p.bs)), (.map (some p.bl)), (.int .i64 (p.mon))] 51, Ev.mapA Try.prog 3 3 (p.bs) (p.ns) (p.f), Ev.mapA Try.prog 3 3 (p.bl) (p.nl) (p.lf)]) := (Ev.tri Try.codeOk mixed_ok (weE_k p j g hj) (weE_o p j g hj) (n := 200) (m := 100) (c := p.c) [(4, p.b4)] [(4, [sy 4, sy 5, sy 6, sy 7, sy 8, sy 9, sy 10], 51)] [(4, [sy 4, sy 5, sy 6, sy 7, sy 8, sy 9, sy 10], 51)] 0 0 [Ev.mapA Try.prog 3 3 (p.bs) (p.ns) (p.f), Ev.mapA Try.prog 3 3 (p.bl) (p.nl) (p.lf)] [Ev.mapA Try.prog 3 3 (p.bs) (p.ns) (p.f), Ev.mapA Try.prog 3 3 (p.bl) (p.nl) (p.lf)] rfl rfl [(0, .pointer (some ⟨4, 0, none⟩)), (1, sy 0), (9, sy 1), (54, sy 2), (55, sy 3)] [(9, sy 1)] (.exit 2) (by kernel_rfl) (fun gb => by kernel_rfl))
end Go.Proofs.Ytjcibnfaijdgnaa

namespace Go.Proofs.Ytjcibnfaijdgnaa
open Go.RowKit
open Go.Ev (sy)
set_option linter.unusedVariables false
set_option linter.unusedSimpArgs false

/-- An M is as it should be. -/
def goodM (f lf : Int → Option Int) (fr : Int) (i : Int) : Prop := ¬ ((f i).getD 0 ≤ fr ∧ (lf i = none ∨ (lf i).getD 0 < fr))
/-- The clock's sum, a sample more. -/
def gStep (g ns : Int) : Int := min (IntKind.u64.wrap (min (IntKind.u64.wrap (0 + min g 4611686018427387904)) 4611686018427387904 + min (IntKind.u64.wrap (max 0 ns)) 4611686018427387904)) 4611686018427387904
def clk (nsf : Nat → Int) (fn : Nat) : Nat → Int
  | 0 => 0
  | j + 1 => gStep (clk nsf fn j) (nsf (fn + j))
def winP (f lf : Int → Option Int) (mon : Int) (nsf : Nat → Int) (fn m : Nat) : Prop :=
  (fn : Int) ≤ mon ∧ (∀ j, Ev.wfI j → (f j).isSome = true → goodM f lf fn j) ∧ ∃ j, j ≤ m - fn ∧ 10000000 ≤ clk nsf fn j
abbrev WinP.blk (p : WinP) : Ev.Asr := Ev.blkA p.b4 [.int .i64 p.ww, .int .i64 p.ll, p.al, p.rn, .map (some p.bs), .map (some p.bl), .int .i64 p.mon] 51
abbrev WinP.ms (p : WinP) : Ev.Asr := Ev.mapA Try.prog 3 3 p.bs p.ns p.f
abbrev WinP.ml (p : WinP) : Ev.Asr := Ev.mapA Try.prog 3 3 p.bl p.nl p.lf
abbrev WinP.rg (p : WinP) (r0 cnt : Nat) (left : Int → Bool) : Ev.Asr := Ev.rngA Try.prog 3 3 p.bs (.st (Ev.ptrV r0)) p.ns cnt p.f left
abbrev WinP.t0 (p : WinP) : Nat × Value := (0, .pointer (some ⟨p.b4, 0, none⟩))
abbrev WinP.t1 (p : WinP) : Nat × Value := (1, .int .i64 (p.fn : Int))

theorem since_ok (p : WinP) {r0 cnt : Nat} {left : Int → Bool} {A : Act} {w : World} {Q : Exit → Act → World → Prop} (h : Ev.At p.c 78 [p.t0, p.t1, (21, Ev.ptrV r0)] [p.blk, p.rg r0 cnt left, p.ml] A w) (gd : ∀ j, Ev.wfI j → (p.f j).isSome = true → left j = false → goodM p.f p.lf p.fn j)
    (hbad : ∀ A1 w1, Ev.At p.c 78 [(4, .bool false)] [p.blk, p.ms, p.ml] A1 w1 → ¬ winP p.f p.lf p.mon p.nsf p.fn p.m → Q .ret A1 w1)
    (hok : ∀ A1 w1, Ev.At p.c 78 [p.t0, p.t1] [p.blk, p.ms, p.ml] A1 w1 → (∀ j, Ev.wfI j → (p.f j).isSome = true → goodM p.f p.lf p.fn j) → Ev.wpL Try.prog (Ev.stm Try.prog 28 [2] 4) Q A1 w1) :
    Ev.wpL Try.prog (Ev.stm Try.prog 28 [2] 3) Q A w := by
  refine Ev.in_block (id := 0) (by kernel_rfl) ?_
  refine Ev.loop_st (by kernel_rfl) (fun (x : Nat × (Int → Bool)) A w => Ev.At p.c 78 [p.t0, p.t1, (21, Ev.ptrV r0)] [p.blk, p.rg r0 x.1 x.2, p.ml] A w ∧ ∀ j, Ev.wfI j → (p.f j).isSome = true → x.2 j = false → goodM p.f p.lf p.fn j) (fun x => x.1) (x := (cnt, left)) ⟨h, gd⟩ ?_
  clear h gd A w
  rintro ⟨cnt, left⟩ A w ⟨h, gd⟩
  by_cases hso : ∃ j, Ev.wfI j ∧ left j = true
  · refine wsN p r0 cnt left hso A w _ h ?_
    intro κ A1 w1 h1
    obtain ⟨i, c', hc, hl, hw, hs, hh⟩ := (h1.hold.sel [1, 0, 2] (by kernel_rfl)).next
    have h2 : Ev.At p.c 78 [p.t0, p.t1, (21, Ev.ptrV r0)] [p.blk, Ev.curA Try.prog 3 3 p.bs r0 p.ns c' p.f (Ev.lessI left i) i, p.ml] A1 w1 := ⟨h1.sz, h1.df, h1.tm, hh.sel [1, 0, 2] (by kernel_rfl)⟩
    refine Ev.in_block (id := 1) (by kernel_rfl) ?_
    have go : ∀ A2 w2, Ev.At p.c 78 [p.t0, p.t1, (21, Ev.ptrV r0)] [p.blk, Ev.curA Try.prog 3 3 p.bs r0 p.ns c' p.f (Ev.lessI left i) i, p.ml] A2 w2 → goodM p.f p.lf p.fn i → ∃ y : Nat × (Int → Bool), (Ev.At p.c 78 [p.t0, p.t1, (21, Ev.ptrV r0)] [p.blk, p.rg r0 y.1 y.2, p.ml] A2 w2 ∧ ∀ j, Ev.wfI j → (p.f j).isSome = true → y.2 j = false → goodM p.f p.lf p.fn j) ∧ y.1 < cnt := by
      intro A2 w2 h3 hg
      refine ⟨(c', Ev.lessI left i), ⟨⟨h3.sz, h3.df, h3.tm, ((h3.hold.sel [1, 0, 2] (by kernel_rfl)).cur).sel [1, 0, 2] (by kernel_rfl)⟩, fun j hj hsj hlj => ?_⟩, hc⟩
      by_cases e : j = i
      · rw [e]; exact hg
      · exact gd j hj hsj (by simpa [Ev.lessI, e] using hlj)
    have bad : ∀ A2 w2, Ev.At p.c 78 [(4, .bool false)] [p.blk, Ev.curA Try.prog 3 3 p.bs r0 p.ns c' p.f (Ev.lessI left i) i, p.ml] A2 w2 → ¬ goodM p.f p.lf p.fn i → Q .ret A2 w2 := by
      intro A2 w2 h3 hg
      exact hbad A2 w2 ⟨h3.sz, h3.df, h3.tm, (((h3.hold.sel [1, 0, 2] (by kernel_rfl)).cur).rngM).sel [1, 0, 2] (by kernel_rfl)⟩ (fun hp => hg (hp.2.1 i hw hs))
    by_cases q1 : (p.f i).getD 0 ≤ (p.fn : Int)
    · cases hy : p.lf i with
      | none =>
        refine wrB p r0 c' (Ev.lessI left i) i hw hy q1 A1 w1 _ h2 ?_
        intro κ A2 w2 h3
        exact bad A2 w2 h3 (fun hg => hg ⟨q1, .inl hy⟩)
      | some x =>
        by_cases q2 : (p.lf i).getD 0 < (p.fn : Int)
        · refine wrC p r0 c' (Ev.lessI left i) i hw x hy q1 q2 A1 w1 _ h2 ?_
          intro κ A2 w2 h3
          exact bad A2 w2 h3 (fun hg => hg ⟨q1, .inr q2⟩)
        · refine wrD p r0 c' (Ev.lessI left i) i hw x hy q1 q2 A1 w1 _ h2 ?_
          intro κ A2 w2 h3
          exact Ev.wpL_nil (by kernel_rfl) (Ev.wpL_nil (by kernel_rfl) (go A2 w2 h3 (fun hg => hg.2.elim (fun e => by rw [hy] at e; cases e) q2)))
    · cases hy : p.lf i with
      | none =>
        refine wrAN p r0 c' (Ev.lessI left i) i hw hy q1 A1 w1 _ h2 ?_
        intro κ A2 w2 h3
        exact Ev.wpL_nil (by kernel_rfl) (Ev.wpL_nil (by kernel_rfl) (go A2 w2 h3 (fun hg => q1 hg.1)))
      | some x =>
        refine wrAY p r0 c' (Ev.lessI left i) i hw x hy q1 A1 w1 _ h2 ?_
        intro κ A2 w2 h3
        exact Ev.wpL_nil (by kernel_rfl) (Ev.wpL_nil (by kernel_rfl) (go A2 w2 h3 (fun hg => q1 hg.1)))
  · have hno : ∀ j, Ev.wfI j → left j = false := fun j hj => by
      cases hl : left j
      · rfl
      · exact (hso ⟨j, hj, hl⟩).elim
    refine wsE p r0 cnt left hno A w _ h ?_
    intro κ A1 w1 h1
    exact hok A1 w1 ⟨h1.sz, h1.df, h1.tm, ((h1.hold.sel [1, 0, 2] (by kernel_rfl)).rngM).sel [1, 0, 2] (by kernel_rfl)⟩ (fun j hj hs => gd j hj hs (hno j hj))
end Go.Proofs.Ytjcibnfaijdgnaa

namespace Go.Proofs.Ytjcibnfaijdgnaa
open Go.RowKit
open Go.Ev (sy)
set_option linter.unusedVariables false
set_option linter.unusedSimpArgs false

abbrev WinP.t9 (p : WinP) (g : Int) : Nat × Value := (9, .int .u64 g)
theorem clock_ok (p : WinP) {A : Act} {w : World} {Q : Exit → Act → World → Prop} (h : Ev.At p.c 78 [p.t0, p.t1, p.t9 0, (54, .int .i64 ((p.m : Int) - (p.fn : Int))), (55, .int .i64 0)] [p.blk, p.ms, p.ml] A w)
    (hok : ∀ g A1 w1, Ev.At p.c 78 [p.t9 g] [p.blk, p.ms, p.ml] A1 w1 → (10000000 ≤ g ↔ ∃ j, j ≤ p.m - p.fn ∧ 10000000 ≤ clk p.nsf p.fn j) → Ev.wpL Try.prog (Ev.stm Try.prog 28 [2] 8) Q A1 w1) :
    Ev.wpL Try.prog (Ev.stm Try.prog 28 [2] 7) Q A w := by
  refine Ev.in_block (id := 2) (by kernel_rfl) ?_
  refine Ev.loop_st (by kernel_rfl) (fun (j : Nat) A w => Ev.At p.c 78 [p.t0, p.t1, p.t9 (clk p.nsf p.fn j), (54, .int .i64 ((p.m : Int) - (p.fn : Int))), (55, .int .i64 (j : Int))] [p.blk, p.ms, p.ml] A w ∧ j ≤ p.m - p.fn ∧ ∀ i, i ≤ j → clk p.nsf p.fn i < 10000000) (fun j => p.m - p.fn - j) (x := 0) ⟨h, Nat.zero_le _, fun i hi => by rw [Nat.le_zero.1 hi]; show (0 : Int) < 10000000; omega⟩ ?_
  clear h A w
  rintro j A w ⟨h, hj, hlt⟩
  have q1 := p.hm
  have q2 := p.hfm
  by_cases hc : p.fn + j < p.m
  · by_cases hge : clk p.nsf p.fn (j + 1) < 10000000
    · refine wlG p j (clk p.nsf p.fn j) hc (show ¬ clk p.nsf p.fn (j + 1) ≥ 10000000 by omega) A w _ h ?_
      intro κ A1 w1 h1
      exact Ev.wpL_nil (by kernel_rfl) ⟨j + 1, ⟨h1, by omega, fun i hi => by
        rcases Nat.lt_or_ge j i with h' | h'
        · obtain rfl : i = j + 1 := by omega
          exact hge
        · exact hlt i h'⟩, by show p.m - p.fn - (j + 1) < p.m - p.fn - j; omega⟩
    · refine wlD p j (clk p.nsf p.fn j) hc (show clk p.nsf p.fn (j + 1) ≥ 10000000 by omega) A w _ h ?_
      intro κ A1 w1 h1
      exact hok (clk p.nsf p.fn (j + 1)) A1 w1 h1 ⟨fun _ => ⟨j + 1, by omega, by omega⟩, fun _ => by omega⟩
  · refine weE p j (clk p.nsf p.fn j) hc A w _ h ?_
    intro κ A1 w1 h1
    refine hok (clk p.nsf p.fn j) A1 w1 h1 ⟨fun hh => ⟨j, hj, hh⟩, fun ⟨i, hi, hh⟩ => ?_⟩
    have := hlt i (by omega)
    omega
theorem window_ok (p : WinP) (hn : Ev.Now [p.blk, p.ms, p.ml] p.X p.W) : Calls Try.prog 28 #[.pointer (some ⟨p.b4, 0, none⟩), .int .i64 (p.fn : Int)] p.W fun e w' => ∃ b : Bool, e = .returned (.bool b) ∧ (b = true ↔ winP p.f p.lf p.mon p.nsf p.fn p.m) ∧ Ev.Hold p.c [p.blk, p.ms, p.ml] w' := by
  refine Ev.con_start (N := 78) (tm := [p.t0, p.t1]) (by kernel_rfl) hn (by simp) (by simp) (fun A h => ?_)
  refine wiA p A p.W _ h ?_
  intro κ A1 w1 h1
  refine Ev.in_scope (by kernel_rfl) ?_
  have bad : ∀ A1 w1, Ev.At p.c 78 [(4, .bool false)] [p.blk, p.ms, p.ml] A1 w1 → ¬ winP p.f p.lf p.mon p.nsf p.fn p.m → bodyPostM Fence.wide 0 Try.prog (Ev.fnOf Try.prog 28) (fun e w' => ∃ b : Bool, e = .returned (.bool b) ∧ (b = true ↔ winP p.f p.lf p.mon p.nsf p.fn p.m) ∧ Ev.Hold p.c [p.blk, p.ms, p.ml] w') .ret A1 w1 := by
    intro A1 w1 h1 hw
    exact h1.ret (by kernel_rfl) (List.mem_singleton.2 rfl) (fun hh => ⟨false, rfl, ⟨fun h => by (cases h), fun h => (hw h).elim⟩, hh⟩)
  by_cases hm : p.mon < (p.fn : Int)
  · refine wiM p hm A1 w1 _ h1 ?_
    intro κ A2 w2 h2
    exact bad A2 w2 h2 (fun hp => by have := hp.1; omega)
  · refine wiR p hm A1 w1 _ h1 ?_
    intro κ A2 w2 h2
    obtain ⟨r0, cnt, er, hh⟩ := (h2.hold.sel [1, 0, 2] (by kernel_rfl)).rngE
    refine since_ok p (r0 := r0) (cnt := cnt) (left := fun j => (p.f j).isSome) ⟨h2.sz, h2.df, fun q hq => ?_, hh.sel [1, 0, 2] (by kernel_rfl)⟩ (fun j _ h1 h2 => by rw [h1] at h2; cases h2) (fun A3 w3 h3 hw => bad A3 w3 h3 hw) (fun A3 w3 h3 hgood => ?_)
    · rw [← er] at *
      exact h2.tm q hq
    · refine wiC p A3 w3 _ h3 ?_
      intro κ A4 w4 h4
      refine clock_ok p h4 (fun g A5 w5 h5 hg => ?_)
      by_cases hge : g ≥ 10000000
      · refine wkY p 0 g hge A5 w5 _ h5 ?_
        intro κ A6 w6 h6
        exact h6.ret (by kernel_rfl) (List.mem_singleton.2 rfl) (fun hh => ⟨true, rfl, ⟨fun _ => ⟨by omega, hgood, hg.1 hge⟩, fun _ => rfl⟩, hh⟩)
      · refine wkX p 0 g hge A5 w5 _ h5 ?_
        intro κ A6 w6 h6
        exact h6.ret (by kernel_rfl) (List.mem_singleton.2 rfl) (fun hh => ⟨false, rfl, ⟨fun h => by (cases h), fun h => (hge (hg.2 h.2.2)).elim⟩, hh⟩)
end Go.Proofs.Ytjcibnfaijdgnaa
