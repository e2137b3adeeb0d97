/- The evaluator, part twenty-four: code and calls are sound; a closed call that comes to an end does so in the model, at every world. -/
import Derived.Test.YtaoambcodcggoaaEvW
import GoSem.Core.CheckCode
namespace Go.Ev
open Go.RowKit
set_option linter.unusedVariables false
set_option linter.unusedSimpArgs false
set_option linter.unusedSectionVars false
variable [Sig]

theorem bind_ok {ε α β : Type} {x : Except ε α} {f : α → Except ε β} {r : β} (h : x >>= f = .ok r) : ∃ a, x = .ok a ∧ f a = .ok r := by
  cases x with
  | error e => cases h
  | ok a => exact ⟨a, rfl, h⟩
theorem forM_ok {ε α : Type} {f : α → Except ε Unit} : ∀ {l : List α}, l.forM f = .ok () → ∀ x ∈ l, f x = .ok () := by
  intro l
  induction l with
  | nil => intro _ x hx; cases hx
  | cons y rest ih =>
    intro h x hx
    obtain ⟨u, h1, h2⟩ := bind_ok (show f y >>= (fun _ => rest.forM f) = .ok () from h)
    rcases List.mem_cons.1 hx with e | e
    · rw [e]; exact h1
    · exact ih h2 x e
theorem require_ok {b : Bool} {m : String} (h : CheckCode.require b m = .ok ()) : b = true := by
  cases b with
  | true => rfl
  | false => cases h

/-- Code whose check is passed. -/
def CodeOK (P : Program) (c : Code) : Prop := ∃ fn bl lb, CheckCode.code P fn bl lb c = .ok ()

theorem CodeOK.seq {P : Program} {x y : Code} (h : CodeOK P (.seq x y)) : CodeOK P x ∧ CodeOK P y := by
  obtain ⟨fn, bl, lb, h⟩ := h
  unfold CheckCode.code at h
  obtain ⟨_, h1, h2⟩ := bind_ok h
  exact ⟨⟨fn, bl, lb, h1⟩, ⟨fn, bl, lb, h2⟩⟩
theorem CodeOK.cond {P : Program} {c : Operand} {x y : Code} (h : CodeOK P (.cond c x y)) : CodeOK P x ∧ CodeOK P y := by
  obtain ⟨fn, bl, lb, h⟩ := h
  unfold CheckCode.code at h
  obtain ⟨_, _, h⟩ := bind_ok h
  obtain ⟨_, h1, h2⟩ := bind_ok h
  exact ⟨⟨fn, bl, lb, h1⟩, ⟨fn, bl, lb, h2⟩⟩
theorem CodeOK.block {P : Program} {id : Nat} {x : Code} (h : CodeOK P (.block id x)) : CodeOK P x := by
  obtain ⟨fn, bl, lb, h⟩ := h
  unfold CheckCode.code at h
  exact ⟨fn, _, _, h⟩
theorem CodeOK.loop {P : Program} {x : Code} (h : CodeOK P (.loop x)) : CodeOK P x := by
  obtain ⟨fn, bl, lb, h⟩ := h
  unfold CheckCode.code at h
  exact ⟨fn, _, _, h⟩
theorem CodeOK.scope {P : Program} {x : Code} (h : CodeOK P (.scope x)) : CodeOK P x := by
  obtain ⟨fn, bl, lb, h⟩ := h
  unfold CheckCode.code at h
  exact ⟨fn, _, _, h⟩
theorem CodeOK.region {P : Program} {id : Nat} {ops : Array Oper} {draw : Bool} (h : CodeOK P (.region id ops draw)) : Region.ok P.types ops draw = true := by
  obtain ⟨fn, bl, lb, h⟩ := h
  unfold CheckCode.code at h
  unfold CheckCode.region at h
  obtain ⟨_, _, h⟩ := bind_ok h
  obtain ⟨_, _, h⟩ := bind_ok h
  exact require_ok h

theorem body_ok {P : Program} (hP : P.check = .ok ()) {f : FuncId} {fn : Func} {body : Code} (hf : P.funcs[f]? = some fn) (hb : fn.body = some body) : CodeOK P body := by
  unfold Program.check at hP
  obtain ⟨_, h, _⟩ := bind_ok hP
  have hlt : f < P.funcs.size := (Array.getElem?_eq_some_iff.1 hf).1
  have h1 := forM_ok h f (List.mem_range.2 hlt)
  unfold CheckCode.funcAt at h1
  rw [hf] at h1
  dsimp only at h1
  have h2 : CheckCode.func P fn = .ok () := by
    cases hx : CheckCode.func P fn with
    | ok u => rfl
    | error e => rw [hx] at h1; cases h1
  unfold CheckCode.func at h2
  obtain ⟨_, _, h2⟩ := bind_ok h2
  obtain ⟨_, _, h2⟩ := bind_ok h2
  obtain ⟨_, _, h2⟩ := bind_ok h2
  rw [hb] at h2
  dsimp only at h2
  obtain ⟨_, _, h2⟩ := bind_ok h2
  obtain ⟨_, h3, _⟩ := bind_ok h2
  exact ⟨fn, [], [], h3⟩

def EvOK (P : Program) (base : Nat) (run : Code → Act → St → Option (Exit × Act × St)) : Prop :=
  ∀ c a s ex a1 s1, run c a s = some (ex, a1, s1) → CodeOK P c → Win s s.next s1.next → ∀ (ι : Ren) (A : Act) (w : World), ActRel ι a A → Rep P base ι s.look w → Fresh ι s s1 → ∀ Q : Exit → Act → World → Prop,
    (∀ κ A1 w1, ActRel κ a1 A1 → Goes P base ι κ s s1 w w1 → Q ex A1 w1) → c.wp P Q A w

theorem RunLocal.next {run : Code → Act → St → Option (Exit × Act × St)} (hl : RunLocal run) {c : Code} {a a1 : Act} {s s1 : St} {e : Exit} (h : run c a s = some (e, a1, s1)) : s.next ≤ s1.next :=
  (hl c a).next (r := (e, a1)) (by unfold evL; rw [h])
theorem RunLocal.win {run : Code → Act → St → Option (Exit × Act × St)} (hl : RunLocal run) {c : Code} {a a1 : Act} {s s1 : St} {e : Exit} (h : run c a s = some (e, a1, s1)) {m : Nat} (hw : Win s s.next m) (hm : s1.next ≤ m) : Win s1 s1.next m :=
  (hl c a).win (r := (e, a1)) (by unfold evL; rw [h]) hw hm

/-- What is said of calls holds. -/
def CalOK (P : Program) : Prop := ∀ f (args : Array Value) r, Sig.cal f args.toList = some r → ∀ ι args' w, ARel ι args args' → Calls P f args' w fun e w' => ∃ v', e = .returned v' ∧ VRel ι r v' ∧ Below w.heap.size w w'

theorem Goes.below_all {P : Program} {base : Nat} {ι : Ren} {s : St} {w w1 : World} (h : Rep P base ι s.look w) (hb : Below w.heap.size w w1) : Goes P base ι ι s s w w1 := by
  refine ⟨⟨h.inj, fun id o ho => ?_, ?_⟩, fun _ _ => rfl, hb.mono h.sz⟩
  · obtain ⟨b, o', i1, i2, i3, i4⟩ := h.there id o ho
    have hlt : b < w.heap.size := (Array.getElem?_eq_some_iff.1 i2).1
    exact ⟨b, o', i1, by rw [hb.block b hlt]; exact i2, i3, i4⟩
  · have := h.sz
    have := hb.size
    omega

theorem acall_ok {P : Program} {base : Nat} (hP : P.check = .ok ()) (hcal : CalOK P) {run : Code → Act → St → Option (Exit × Act × St)} (hl : RunLocal run) (hrun : EvOK P base run) : CallOK P base (acall P run) := by
  intro f args s v s1 h hwin
  unfold acall at h
  split at h
  · rename_i r hq
    cases h
    intro ι args' w hr ha hfr
    refine (hcal f args _ hq ι args' w ha).mono ?_
    rintro e w1 ⟨v', rfl, hv, hb⟩
    exact ⟨ι, v', rfl, Goes.below_all hr hb, hv⟩
  · split at h
    case h_2 => cases h
    rename_i fn hf
    split at h
    · rename_i body hb
      have main : ∀ ex a s2, (ex = .ret ∨ ex = .normal) → run body { tmps := args ++ Array.replicate (fn.ntmps - args.size) undef, defers := [] } s = some (ex, a, s2) → aresults P fn a s2 = some (v, s1) →
          ∀ ι args' w, Rep P base ι s.look w → ARel ι args args' → Fresh ι s s1 →
            Calls P f args' w fun e w1 => ∃ κ v', e = .returned v' ∧ Goes P base ι κ s s1 w w1 ∧ VRel κ v v' := by
        intro ex a s2 hex hr1 hres
        have n1 := hl.next hr1
        have n2 := arun_next P _ _ _ _ hres
        have hs := hrun _ _ _ _ _ _ hr1 (body_ok hP hf hb) (hwin.left n2)
        intro ι args' w hr ha hfr
        refine calls_of_wp hf hb ?_
        have hact : ActRel ι { tmps := args ++ Array.replicate (fn.ntmps - args.size) undef, defers := [] } { tmps := args' ++ Array.replicate (fn.ntmps - args'.size) undef, defers := [] } := by
          refine ⟨?_, rfl, rfl⟩
          rw [ha.1]
          refine ha.append (ARel.of_flat (fun i x hx => ?_))
          rw [Array.getElem?_replicate] at hx
          split at hx
          · cases hx; exact undef_rel ι
          · cases hx
        refine hs ι _ w hact hr (hfr.left n2) _ (fun κ A1 w1 hA1 g => ?_)
        obtain ⟨μ, v', w2, r1, r2, r3, r4, r5⟩ := sim_results (P := P) (base := base) fn hA1.tmps s2 w1 v s1 g.rep hres (hfr.right g n1)
        have hw := results_still (P := P) fn A1.tmps w1 v' w2 r1
        subst hw
        have g2 : Goes P base κ μ s2 s1 w2 w2 := ⟨r2, r3, r5⟩
        have fin : A1.defers = [] ∧ ∃ v, (results fn A1.tmps).run P w2 = .ok v w2 ∧ ∃ κ v', Ending.returned v = .returned v' ∧ Goes P base ι κ s s1 w w2 ∧ VRel κ _ v' := ⟨hA1.d2, v', r1, μ, v', rfl, g.trans g2 n1 n2, r4⟩
        rcases hex with rfl | rfl
        · exact fin
        · exact fin
      split at h
      · rename_i a s2 hr1; exact main _ a s2 (.inl rfl) hr1 h
      · rename_i a s2 hr1; exact main _ a s2 (.inr rfl) hr1 h
      · cases h
    · cases h

theorem ev_ok {P : Program} {base : Nat} (hP : P.check = .ok ()) (hcal : CalOK P) (hm : P.follows .mixedOrders = true) : ∀ n, EvOK P base (ev P n) ∧ ∀ body a s ex a1 s1, ev P n (.loop body) a s = some (ex, a1, s1) → CodeOK P body → Win s s.next s1.next → ∀ (ι : Ren) (A : Act) (w : World), ActRel ι a A → Rep P base ι s.look w → Fresh ι s s1 → ∀ Q : Exit → Act → World → Prop,
    (∀ κ A1 w1, ActRel κ a1 A1 → Goes P base ι κ s s1 w w1 → Q ex A1 w1) → Code.rounds P body Q n A w := by
  intro n
  induction n with
  | zero => exact ⟨(fun c a s ex a1 s1 h => by cases h), (fun body a s ex a1 s1 h => by cases h)⟩
  | succ n ih =>
    obtain ⟨ih1, ih2⟩ := ih
    have hl := ev_local P n
    have hloop : ∀ body a s ex a1 s1, ev P (n + 1) (.loop body) a s = some (ex, a1, s1) → CodeOK P body → Win s s.next s1.next → ∀ (ι : Ren) (A : Act) (w : World), ActRel ι a A → Rep P base ι s.look w → Fresh ι s s1 → ∀ Q : Exit → Act → World → Prop,
        (∀ κ A1 w1, ActRel κ a1 A1 → Goes P base ι κ s s1 w w1 → Q ex A1 w1) → Code.rounds P body Q (n + 1) A w := by
      intro body a s ex a1 s1 h hco hwin
      simp only [ev] at h
      split at h
      · rename_i a2 s2 hb
        have n1 := hl.next hb
        have n2 := hl.next h
        intro ι A w hA hr hfr Q hQ
        rw [rounds_succ]
        refine ih1 _ _ _ _ _ _ hb hco (hwin.left n2) ι A w hA hr (hfr.left n2) _ (fun κ A1 w1 hA1 g => ?_)
        exact ih2 _ _ _ _ _ _ h hco (hl.win hb hwin n2) κ A1 w1 hA1 g.rep (hfr.right g n1) Q (fun μ A2 w2 hA2 g2 => hQ μ A2 w2 hA2 (g.trans g2 n1 n2))
      · rename_i hb
        intro ι A w hA hr hfr Q hQ
        rw [rounds_succ]
        refine ih1 _ _ _ _ _ _ h hco hwin ι A w hA hr hfr _ (fun κ A1 w1 hA1 g => ?_)
        have := hQ κ A1 w1 hA1 g
        cases ex with
        | normal => exact (hb _ _ h).elim
        | _ => exact this
    refine ⟨?_, fun body a s ex a1 s1 h hco hwin ι A w hA hr hfr Q hQ => hloop body a s ex a1 s1 h hco hwin ι A w hA hr hfr Q hQ⟩
    intro c a s ex a1 s1 h hco hwin
    cases c with
    | skip =>
      simp only [ev] at h
      cases h
      exact fun ι A w hA hr hfr Q hQ => wp_skip (hQ ι A w hA (Goes.refl hr))
    | label l =>
      simp only [ev] at h
      cases h
      exact fun ι A w hA hr hfr Q hQ => wp_label (hQ ι A w hA (Goes.refl hr))
    | ret =>
      simp only [ev] at h
      cases h
      exact fun ι A w hA hr hfr Q hQ => wp_ret (hQ ι A w hA (Goes.refl hr))
    | exit id =>
      simp only [ev] at h
      cases h
      exact fun ι A w hA hr hfr Q hQ => wp_exit (hQ ι A w hA (Goes.refl hr))
    | seq x y =>
      obtain ⟨co1, co2⟩ := hco.seq
      simp only [ev] at h
      split at h
      · rename_i a2 s2 hb
        have n1 := hl.next hb
        have n2 := hl.next h
        refine fun ι A w hA hr hfr Q hQ => wp_seq ?_
        refine ih1 _ _ _ _ _ _ hb co1 (hwin.left n2) ι A w hA hr (hfr.left n2) _ (fun κ A1 w1 hA1 g => ?_)
        exact ih1 _ _ _ _ _ _ h co2 (hl.win hb hwin n2) κ A1 w1 hA1 g.rep (hfr.right g n1) Q (fun μ A2 w2 hA2 g2 => hQ μ A2 w2 hA2 (g.trans g2 n1 n2))
      · rename_i hb
        refine fun ι A w hA hr hfr Q hQ => wp_seq ?_
        refine ih1 _ _ _ _ _ _ h co1 hwin ι A w hA hr hfr _ (fun κ A1 w1 hA1 g => ?_)
        have := hQ κ A1 w1 hA1 g
        cases ex with
        | normal => exact (hb _ _ h).elim
        | _ => exact this
    | cond c x y =>
      obtain ⟨co1, co2⟩ := hco.cond
      simp only [ev] at h
      split at h
      · rename_i b hok hb
        have co : CodeOK P (if b = true then x else y) := by cases b <;> assumption
        refine fun ι A w hA hr hfr Q hQ => ?_
        have hv := eval_rel hA c hok
        rw [hb] at hv
        generalize hAc : A.eval c = Ac at hv
        cases hv
        exact wp_cond hAc (ih1 _ _ _ _ _ _ h co hwin ι A w hA hr hfr Q hQ)
      · cases h
    | block id body =>
      have co := hco.block
      simp only [ev] at h
      split at h
      · rename_i i a2 s2 hb
        split at h
        · rename_i he
          cases h
          refine fun ι A w hA hr hfr Q hQ => wp_block (ih1 _ _ _ _ _ _ hb co hwin ι A w hA hr hfr _ (fun κ A1 w1 hA1 g => ?_))
          show (if i = id then Q .normal A1 w1 else Q (.exit i) A1 w1)
          rw [if_pos he]
          exact hQ κ A1 w1 hA1 g
        · rename_i he
          cases h
          refine fun ι A w hA hr hfr Q hQ => wp_block (ih1 _ _ _ _ _ _ hb co hwin ι A w hA hr hfr _ (fun κ A1 w1 hA1 g => ?_))
          show (if i = id then Q .normal A1 w1 else Q (.exit i) A1 w1)
          rw [if_neg he]
          exact hQ κ A1 w1 hA1 g
      · rename_i hb
        refine fun ι A w hA hr hfr Q hQ => wp_block (ih1 _ _ _ _ _ _ h co hwin ι A w hA hr hfr _ (fun κ A1 w1 hA1 g => ?_))
        have := hQ κ A1 w1 hA1 g
        cases ex with
        | exit i => exact (hb _ _ _ h).elim
        | _ => exact this
    | loop body =>
      exact fun ι A w hA hr hfr Q hQ => wp_loop_rounds (n + 1) (hloop body a s ex a1 s1 h hco.loop hwin ι A w hA hr hfr Q hQ)
    | scope body =>
      have co := hco.scope
      simp only [ev] at h
      split at h
      · cases h
      · rename_i hb
        refine fun ι A w hA hr hfr Q hQ => wp_scope_straight (ih1 _ _ _ _ _ _ h co hwin ι A w hA hr hfr _ (fun κ A1 w1 hA1 g => ?_))
        have := hQ κ A1 w1 hA1 g
        cases ex with
        | goto l => exact (hb _ _ _ h).elim
        | _ => exact this
    | region id ops draw =>
      have hok := hco.region
      simp only [ev] at h
      split at h
      · rename_i a2 s2 hb
        cases h
        exact fun ι A w hA hr hfr Q hQ => region_sound hm (acall_local hl) (acall_ok hP hcal hl ih1) hok hb hwin id hA hr hfr hQ
      · cases h
    | _ => simp [ev] at h

theorem call_ok {P : Program} {base : Nat} (hP : P.check = .ok ()) (hcal : CalOK P) (hm : P.follows .mixedOrders = true) (n : Nat) : CallOK P base (acall P (ev P n)) := acall_ok hP hcal (ev_local P n) (ev_ok hP hcal hm n).1

theorem leaf_look (id : Nat) : s0.look id = none := Tr.get_leaf _ _
theorem start_rep (P : Program) (w : World) : Rep P w.heap.size (fun _ => none) s0.look w :=
  ⟨(fun id id' o o' b h => by rw [leaf_look] at h; cases h), (fun id o h => by rw [leaf_look] at h; cases h), Nat.le_refl _⟩

/-- What a call with plain arguments comes to, it comes to in the model, at every world; what was there stays. -/
theorem closed {P : Program} (hP : P.check = .ok ()) (hcal : CalOK P) (hm : P.follows .mixedOrders = true) {n : Nat} {f : FuncId} {args args' : Array Value} {v : Value} {s1 : St} (h : acall P (ev P n) f args s0 = some (v, s1)) (ha : ARel (fun _ => none) args args') (w : World) :
    Calls P f args' w fun e w1 => ∃ κ v', e = .returned v' ∧ Goes P w.heap.size (fun _ => none) κ s0 s1 w w1 ∧ VRel κ v v' :=
  call_ok hP hcal hm n f args s0 v s1 h (fun id _ _ => leaf_look id) _ args' w (start_rep P w) ha (fun id _ _ => rfl)

theorem closed_bool {P : Program} (hP : P.check = .ok ()) (hcal : CalOK P) (hm : P.follows .mixedOrders = true) {n : Nat} {f : FuncId} {args args' : Array Value} (h : isTrue (acall P (ev P n) f args s0) = true) (ha : ARel (fun _ => none) args args') (w : World) :
    Calls P f args' w fun e w1 => e = .returned (.bool true) ∧ Below w.heap.size w w1 := by
  unfold isTrue at h
  split at h
  · rename_i b s1 hc
    subst h
    refine (closed hP hcal hm hc ha w).mono ?_
    rintro e w1 ⟨κ, v', rfl, g, hv⟩
    cases hv
    exact ⟨rfl, g.below⟩
  · cases h

/-- No symbols. -/
@[reducible] def noSig : Sig where
  val := fun _ => .int .i64 0
  leaf := fun _ => rfl
  bin := fun _ _ _ => none
  bin_ok := fun _ _ _ _ h => by cases h
  una := fun _ _ => none
  una_ok := fun _ _ _ h => by cases h
  cnv := fun _ _ => none
  cnv_ok := fun _ _ _ h => by cases h
  cal := fun _ _ => none
  cal_sym := fun _ _ _ h => by cases h
theorem noCal (P : Program) : @CalOK noSig P := fun _ _ _ h => by cases h
end Go.Ev
