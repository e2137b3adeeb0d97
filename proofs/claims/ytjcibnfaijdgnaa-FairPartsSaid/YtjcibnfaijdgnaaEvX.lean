/- The evaluator, part twenty-four: code and calls are sound; a closed call that comes to an end does so in the model, at every world. -/
import Derived.Test.YtjcibnfaijdgnaaEvW
import GoSem.Core.CheckCode
namespace Go.Ev
open Go.RowKit
set_option linter.unusedVariables false
set_option linter.unusedSimpArgs false
set_option linter.unusedSectionVars false
variable [Sig]

theorem bind_ok {ε α β : Type} {x : Except ε α} {f : α → Except ε β} {r : β} (h : x >>= f = .ok r) : ∃ a, x = .ok a ∧ f a = .ok r := by
  cases x with
  | error e => cases h
  | ok a => exact ⟨a, rfl, h⟩
theorem forM_ok {ε α : Type} {f : α → Except ε Unit} : ∀ {l : List α}, l.forM f = .ok () → ∀ x ∈ l, f x = .ok () := by
  intro l
  induction l with
  | nil => intro _ x hx; cases hx
  | cons y rest ih =>
    intro h x hx
    obtain ⟨u, h1, h2⟩ := bind_ok (show f y >>= (fun _ => rest.forM f) = .ok () from h)
    rcases List.mem_cons.1 hx with e | e
    · rw [e]; exact h1
    · exact ih h2 x e
theorem require_ok {b : Bool} {m : String} (h : CheckCode.require b m = .ok ()) : b = true := by
  cases b with
  | true => rfl
  | false => cases h


theorem CodeOK.seq {P : Program} {x y : Code} (h : CodeOK P (.seq x y)) : CodeOK P x ∧ CodeOK P y := by
  obtain ⟨fn, bl, lb, h⟩ := h
  unfold CheckCode.code at h
  obtain ⟨_, h1, h2⟩ := bind_ok h
  exact ⟨⟨fn, bl, lb, h1⟩, ⟨fn, bl, lb, h2⟩⟩
theorem CodeOK.cond {P : Program} {c : Operand} {x y : Code} (h : CodeOK P (.cond c x y)) : CodeOK P x ∧ CodeOK P y := by
  obtain ⟨fn, bl, lb, h⟩ := h
  unfold CheckCode.code at h
  obtain ⟨_, _, h⟩ := bind_ok h
  obtain ⟨_, h1, h2⟩ := bind_ok h
  exact ⟨⟨fn, bl, lb, h1⟩, ⟨fn, bl, lb, h2⟩⟩
theorem CodeOK.block {P : Program} {id : Nat} {x : Code} (h : CodeOK P (.block id x)) : CodeOK P x := by
  obtain ⟨fn, bl, lb, h⟩ := h
  unfold CheckCode.code at h
  exact ⟨fn, _, _, h⟩
theorem CodeOK.loop {P : Program} {x : Code} (h : CodeOK P (.loop x)) : CodeOK P x := by
  obtain ⟨fn, bl, lb, h⟩ := h
  unfold CheckCode.code at h
  exact ⟨fn, _, _, h⟩
theorem CodeOK.scope {P : Program} {x : Code} (h : CodeOK P (.scope x)) : CodeOK P x := by
  obtain ⟨fn, bl, lb, h⟩ := h
  unfold CheckCode.code at h
  exact ⟨fn, _, _, h⟩
theorem code_label {P : Program} {fn : Func} {bl lb : List Nat} {l : Nat} : ∀ {c rest : Code}, CheckCode.code P fn bl lb c = .ok () → findLabel c l = some rest → CheckCode.code P fn bl lb rest = .ok () := by
  intro c
  induction c with
  | seq x y ihx ihy =>
    intro rest h hf
    unfold CheckCode.code at h
    obtain ⟨_, h1, h2⟩ := bind_ok h
    unfold findLabel at hf
    split at hf
    · rename_i r hr
      cases hf
      have := ihx h1 hr
      unfold CheckCode.code
      rw [this]
      exact h2
    · exact ihy h2 hf
  | label l' =>
    intro rest h hf
    unfold findLabel at hf
    split at hf
    · cases hf; rfl
    · cases hf
  | _ => intro rest h hf; cases hf
theorem CodeOK.label {P : Program} {c rest : Code} {l : Nat} (h : CodeOK P c) (hf : findLabel c l = some rest) : CodeOK P rest := by
  obtain ⟨fn, bl, lb, h⟩ := h
  exact ⟨fn, bl, lb, code_label h hf⟩
/-- A scope out of which the run jumps to a label of its at most once. -/
theorem wp_scope_once {P : Program} {c : Code} {a : Act} {w : World} {Q : Exit → Act → World → Prop} (h : c.wp P (fun e a w => match e with | .goto l => ∃ rest, findLabel c l = some rest ∧ rest.wp P (Exit.noGoto Q) a w | e => Q e a w) a w) : (Code.scope c).wp P Q a w := by
  intro b k cs
  obtain ⟨e, a₁, w₁, hq, harr⟩ := h b (.inScope c :: k) cs
  cases e with
  | normal => exact ⟨.normal, a₁, w₁, hq, .head step_scope (Steps.trans harr (.one step_inScope))⟩
  | exit id => exact ⟨.exit id, a₁, w₁, hq, fun k' hk => .head step_scope (harr k' (by simp [exitTo, hk]))⟩
  | goto l =>
    obtain ⟨rest, hf, hr⟩ := hq
    have hg : gotoIn l (.inScope c :: k) = some (.code rest :: .inScope c :: k) := by simp [gotoIn, hf]
    obtain ⟨e₂, a₂, w₂, hq₂, harr₂⟩ := hr b (.inScope c :: k) cs
    cases e₂ with
    | normal => exact ⟨.normal, a₂, w₂, hq₂, .head step_scope (Steps.trans (harr _ hg) (Steps.trans harr₂ (.one step_inScope)))⟩
    | exit id => exact ⟨.exit id, a₂, w₂, hq₂, fun k' hk => .head step_scope (Steps.trans (harr _ hg) (harr₂ k' (by simp [exitTo, hk])))⟩
    | goto l' => exact hq₂.elim
    | ret => exact ⟨_, a₂, w₂, hq₂, .of_steps (.head step_scope (harr _ hg)) harr₂⟩
    | panic ch => exact ⟨_, a₂, w₂, hq₂, .of_steps (.head step_scope (harr _ hg)) harr₂⟩
    | outgrown => exact ⟨_, a₂, w₂, hq₂, .of_steps (.head step_scope (harr _ hg)) harr₂⟩
  | ret => exact ⟨_, a₁, w₁, hq, .of_steps (.one step_scope) harr⟩
  | panic ch => exact ⟨_, a₁, w₁, hq, .of_steps (.one step_scope) harr⟩
  | outgrown => exact ⟨_, a₁, w₁, hq, .of_steps (.one step_scope) harr⟩
theorem CodeOK.region {P : Program} {id : Nat} {ops : Array Oper} {draw : Bool} (h : CodeOK P (.region id ops draw)) : Region.ok P.types ops draw = true := by
  obtain ⟨fn, bl, lb, h⟩ := h
  unfold CheckCode.code at h
  unfold CheckCode.region at h
  obtain ⟨_, _, h⟩ := bind_ok h
  obtain ⟨_, _, h⟩ := bind_ok h
  exact require_ok h

theorem CodeOK.rangeFunc {P : Program} {g : Operand} {ps : Array Tmp} {x y : Code} (h : CodeOK P (.rangeFunc g ps x y)) : CodeOK P x ∧ CodeOK P y := by
  obtain ⟨fn, bl, lb, h⟩ := h
  unfold CheckCode.code at h
  obtain ⟨_, _, h⟩ := bind_ok h
  obtain ⟨_, _, h⟩ := bind_ok h
  obtain ⟨_, _, h⟩ := bind_ok h
  obtain ⟨_, h1, h2⟩ := bind_ok h
  exact ⟨⟨fn, _, _, h1⟩, ⟨fn, _, _, h2⟩⟩

theorem body_ok {P : Program} (hP : P.check = .ok ()) {f : FuncId} {fn : Func} {body : Code} (hf : P.funcs[f]? = some fn) (hb : fn.body = some body) : CodeOK P body := by
  unfold Program.check at hP
  obtain ⟨_, h, _⟩ := bind_ok hP
  have hlt : f < P.funcs.size := (Array.getElem?_eq_some_iff.1 hf).1
  have h1 := forM_ok h f (List.mem_range.2 hlt)
  unfold CheckCode.funcAt at h1
  rw [hf] at h1
  dsimp only at h1
  have h2 : CheckCode.func P fn = .ok () := by
    cases hx : CheckCode.func P fn with
    | ok u => rfl
    | error e => rw [hx] at h1; cases h1
  unfold CheckCode.func at h2
  obtain ⟨_, _, h2⟩ := bind_ok h2
  obtain ⟨_, _, h2⟩ := bind_ok h2
  obtain ⟨_, _, h2⟩ := bind_ok h2
  rw [hb] at h2
  dsimp only at h2
  obtain ⟨_, _, h2⟩ := bind_ok h2
  obtain ⟨_, h3, _⟩ := bind_ok h2
  exact ⟨fn, [], [], h3⟩

def EvOK (P : Program) (base : Nat → Prop) (run : Runner) : Prop :=
  ∀ rd c a s ex a1 s1, run rd c a s = some (ex, a1, s1) → CodeOK P c → Win s s.next s1.next → ∀ (ι : Ren) (ro : Option Nat) (A : Act) (w : World), RdRel ι rd ro → ActRel ι a A → Rep P base ι s.look w → Fresh ι s s1 → ∀ Q : Exit → Act → World → Prop,
    (∀ κ A1 w1, ActRel κ a1 A1 → Goes P base ι κ s s1 w w1 → Q ex A1 w1) → c.wpIn (FR ro) 0 P Q A w

theorem RunLocal.next {run : Runner} (hl : RunLocal run) {rd : Option Nat} {c : Code} {a a1 : Act} {s s1 : St} {e : Exit} (h : run rd c a s = some (e, a1, s1)) : s.next ≤ s1.next :=
  (hl rd c a).next (r := (e, a1)) (by unfold evL; rw [h])
theorem RunLocal.win {run : Runner} (hl : RunLocal run) {rd : Option Nat} {c : Code} {a a1 : Act} {s s1 : St} {e : Exit} (h : run rd c a s = some (e, a1, s1)) {m : Nat} (hw : Win s s.next m) (hm : s1.next ≤ m) : Win s1 s1.next m :=
  (hl rd c a).win (r := (e, a1)) (by unfold evL; rw [h]) hw hm

theorem sim_goes {α β : Type} {P : Program} {base : Nat → Prop} {R : Ren → α → β → Prop} {ι : Ren} {m : Sem α} {m' : Sem β} (h : Sim P base R ι m m') {s s1 : St} {w : World} {x : α} (hr : Rep P base ι s.look w) (hx : arun P m s = some (x, s1)) (hfr : Fresh ι s s1) :
    ∃ κ y w1, m'.run P w = .ok y w1 ∧ R κ x y ∧ Goes P base ι κ s s1 w w1 := by
  obtain ⟨κ, y, w1, h1, h2, h3, h4, h5⟩ := h s w x s1 hr hx hfr
  exact ⟨κ, y, w1, h1, h4, h2, h3, h5⟩

theorem marks_sound {P : Program} {base : Nat → Prop} {fn : Func} {T : Array Value} {R : Ending → World → Prop} : ∀ (ds ds' : List Deferred) (s s1 : St) (ι : Ren) (w : World), DRel ι ds ds' → amarks P ds s = some ((), s1) → Rep P base ι s.look w → Fresh ι s s1 →
    (∀ κ w1, Goes P base ι κ s s1 w w1 → LeavesInM Fence.wide 0 P fn T R [] .returning w1) → LeavesInM Fence.wide 0 P fn T R ds' .returning w := by
  intro ds
  induction ds with
  | nil =>
    intro ds' s s1 ι w hd h hr hfr hg
    cases hd
    cases h
    exact hg ι w (Goes.refl hr)
  | cons d ds ih =>
    intro ds' s s1 ι w hd h hr hfr hg
    cases hd with
    | cons r r' l l' hr' ht =>
      simp only [amarks] at h
      split at h
      · rename_i x s2 hx
        have n1 := arun_next P _ _ _ _ hx
        have n2 := (amarks_local P ds).next h
        obtain ⟨κ, y, w1, h1, ⟨e1, e2⟩, g⟩ := sim_goes (sim_takeDeferred (P := P) (base := base) hr') hr hx (hfr.left n2)
        subst e2
        refine ⟨(fun h => by cases h), .inl ⟨r', w1, rfl, h1, ?_⟩⟩
        exact ih l' s2 s1 κ w1 (ht.mono (g.le (hfr.left n2))) h g.rep (hfr.right g n1) (fun μ w2 g2 => hg μ w2 (g.trans g2 n1 n2))
      · cases h

theorem acallF_ok {P : Program} {base : Nat → Prop} (hP : P.check = .ok ()) (hcal : CalOK P) {run : Runner} (hl : RunLocal run) (hrun : EvOK P base run) :
    ∀ f args s v s1, acallF P run f args s = some (v, s1) → Win s s.next s1.next → ∀ ι args' w, Rep P base ι s.look w → ARel ι args args' → Fresh ι s s1 →
      Calls P f args' w fun e w1 => ∃ κ v', e = .returned v' ∧ Goes P base ι κ s s1 w w1 ∧ VRel κ v v' := by
  intro f args s v s1 h hwin
  unfold acallF at h
  split at h
  · rename_i r hq
    cases h
    intro ι args' w hr ha hfr
    refine (hcal.cal f args _ hq ι args' w ha).mono ?_
    rintro e w1 ⟨v', rfl, hv, hb⟩
    exact ⟨ι, v', rfl, Goes.below_all hr hb _ (fun _ => rfl), hv⟩
  · split at h
    · rename_i q hq
      intro ι args' w hr ha hfr
      obtain ⟨g, F, ng, g1, g2, g3, g4, g5⟩ := agop_sound h hwin hr hfr
      refine (hcal.gcal f args q hq g _ _ ng g1 ι args' F w ha g2 g3 g4).mono ?_
      rintro e w1 ⟨v', rfl, hg⟩
      obtain ⟨κ, gg, hv⟩ := g5 v' w1 hg
      exact ⟨κ, v', rfl, gg, hv⟩
    split at h
    case h_2 => cases h
    rename_i fn hf
    split at h
    · rename_i body hb
      split at h
      · rename_i ex a s2 hr1
        unfold aleave at h
        split at h
        · rename_i hex
          split at h
          · rename_i s3 hmk
            have n1 := hl.next hr1
            have n2 := (amarks_local P a.defers).next hmk
            have n3 := arun_next P _ _ _ _ h
            have hs := hrun _ _ _ _ _ _ _ hr1 (body_ok hP hf hb) (hwin.left (Nat.le_trans n2 n3))
            intro ι args' w hr ha hfr
            refine callsIn_wide.1 (callsIn_of_wp_marks (F := Fence.wide) (n := 0) hf hb trivial ?_)
            have hact : ActRel ι { tmps := args ++ Array.replicate (fn.ntmps - args.size) undef, defers := [] } { tmps := args' ++ Array.replicate (fn.ntmps - args'.size) undef, defers := [] } := by
              refine ⟨?_, .nil⟩
              rw [ha.1]
              refine ha.append (ARel.of_flat (fun i x hx => ?_))
              rw [Array.getElem?_replicate] at hx
              split at hx
              · cases hx; exact undef_rel ι
              · cases hx
            refine hs ι none _ w trivial hact hr (hfr.left (Nat.le_trans n2 n3)) _ (fun κ A1 w1 hA1 g => ?_)
            have f1 := hfr.right g n1
            have fin : LeavesInM Fence.wide 0 P fn A1.tmps (fun e w1 => ∃ κ v', e = .returned v' ∧ Goes P base ι κ s s1 w w1 ∧ VRel κ v v') A1.defers .returning w1 := by
              refine marks_sound a.defers A1.defers s2 s3 κ w1 hA1.dfs hmk g.rep (f1.left n3) (fun μ w2 g2 => ?_)
              have f2 := f1.right g2 n2
              obtain ⟨ν, v', w3, r1, r4, g3⟩ := sim_goes (sim_results (P := P) (base := base) fn (hA1.tmps.mono (g2.le (f1.left n3)))) g2.rep h f2
              have hw := results_still (P := P) fn A1.tmps w2 v' w3 r1
              subst hw
              exact ⟨v', r1, ν, v', rfl, g.trans (g2.trans g3 n2 n3) n1 (Nat.le_trans n2 n3), r4⟩
            cases ex with
            | normal => exact fin
            | ret => exact fin
            | _ => cases hex
          · cases h
        · cases h
      · cases h
    · cases h

theorem acallR_ok {P : Program} {base : Nat → Prop} {run : Runner} (hl : RunLocal run) (hrun : EvOK P base run) :
    ∀ l tmps assign body s v s1, acallR P run l tmps assign body s = some (v, s1) → CodeOK P assign → CodeOK P body → Win s s.next s1.next → ∀ ι l' tmps' w, Rep P base ι s.look w → ι l = some l' → ARel ι tmps tmps' → Fresh ι s s1 →
      ∀ f', RoundIn Fence.wide 0 P l' f' tmps' assign body w fun e w1 => ∃ κ v', e = .returned v' ∧ Goes P base ι κ s s1 w w1 ∧ VRel κ v v' := by
  intro l tmps assign body s v s1 h o1 o2 hwin ι l' tmps' w hr hl' ht hfr f'
  unfold acallR at h
  split at h
  case h_2 => cases h
  rename_i e1 a1 s2 h1
  split at h
  case isFalse => cases h
  rename_i hno
  split at h
  case h_2 => cases h
  rename_i u s3 h2
  split at h
  case h_2 => cases h
  rename_i e2 a2 s4 h3
  have m1 := hl.next h1
  have m2 := arun_next P _ _ _ _ h2
  have m3 := hl.next h3
  have m4 : s4.next ≤ s1.next := by
    unfold aend at h
    split at h
    · exact arun_next P _ _ _ _ h
    · cases h
  have e1n : e1 = .normal := by cases e1 <;> first | rfl | cases hno
  subst e1n
  refine roundIn_of_wpIn (F := Fence.wide) trivial ?_
  have w2 := hl.win h1 hwin (by omega)
  have w3 := (arun_local P (Instr.beginRound l)).win h2 w2 (by omega)
  refine hrun _ _ _ _ _ _ _ h1 o1 (hwin.left (by omega)) ι (some l') _ w hl' ⟨ht, .nil⟩ hr (hfr.left (by omega)) _ (fun κ A1 w1 hA1 g => ?_)
  have f1 := hfr.right g m1
  have k1 : κ l = some l' := (g.le (hfr.left (by omega))) _ _ hl'
  obtain ⟨μ, y, w2', r1, _, g2⟩ := sim_goes (sim_beginRound (P := P) (base := base) k1) g.rep h2 (f1.left (by omega))
  have f2 := f1.right g2 m2
  have le2 := g2.le (f1.left (by omega))
  refine ⟨w2', r1, ?_⟩
  refine hrun _ _ _ _ _ _ _ h3 o2 (w3.left (by omega)) μ (some l') A1 w2' (le2 _ _ k1) (hA1.mono le2) g2.rep (f2.left (by omega)) _ (fun ν A2 w3' hA2 g3 => ?_)
  have f3 := f2.right g3 m3
  have le3 := g3.le (f2.left (by omega))
  unfold aend at h
  split at h
  · rename_i j hj
    obtain ⟨ξ, v', w4, q1, q2, g4⟩ := sim_goes (sim_endRound (P := P) (base := base) (le3 _ _ (le2 _ _ k1)) j) g3.rep h f3
    have gg : Goes P base ι ξ s s1 w w4 := g.trans (g2.trans (g3.trans g4 m3 m4) m2 (by omega)) m1 (by omega)
    cases e2 with
    | normal => cases hj; exact ⟨v', w4, q1, ξ, v', rfl, gg, q2⟩
    | ret => cases hj; exact ⟨v', w4, q1, ξ, v', rfl, gg, q2⟩
    | exit id => cases hj; exact ⟨v', w4, q1, ξ, v', rfl, gg, q2⟩
    | _ => cases hj
  · cases h

theorem acall_ok {P : Program} {base : Nat → Prop} (hP : P.check = .ok ()) (hcal : CalOK P) {run : Runner} (hl : RunLocal run) (hrun : EvOK P base run) : CallOK P base (acall P run) :=
  ⟨acallF_ok hP hcal hl hrun, acallR_ok hl hrun⟩

theorem jump_code {P : Program} {c : Code} (h : jumpOk (some c) = true) : CodeOK P c ∨ c = .ret ∨ ∃ id, c = .exit id := by
  unfold jumpOk at h
  split at h
  · rename_i e; cases e
  · rename_i e; cases e; exact .inr (.inl rfl)
  · rename_i id e; cases e; exact .inr (.inr ⟨id, rfl⟩)
  · cases h

theorem arange_ok {P : Program} {base : Nat → Prop} (hP : P.check = .ok ()) (hcal : CalOK P) {run : Runner} (hl : RunLocal run) (hrun : EvOK P base run) (hjmp : ∀ rd c a s, (c = .ret ∨ ∃ id, c = .exit id) → ∀ r, run rd c a s = some r → r = (match c with | .ret => Exit.ret | .exit id => Exit.exit id | _ => Exit.normal, a, s))
    {rd : Option Nat} {g : Operand} {ps : Array Tmp} {assign body : Code} {a : Act} {s : St} {ex : Exit} {a1 : Act} {s1 : St} (h : arange P run rd g ps assign body a s = some (ex, a1, s1)) (o1 : CodeOK P assign) (o2 : CodeOK P body) (hwin : Win s s.next s1.next)
    (ι : Ren) (ro : Option Nat) (A : Act) (w : World) (hrd : RdRel ι rd ro) (hA : ActRel ι a A) (hr : Rep P base ι s.look w) (hfr : Fresh ι s s1) (Q : Exit → Act → World → Prop)
    (hQ : ∀ κ A1 w1, ActRel κ a1 A1 → Goes P base ι κ s s1 w w1 → Q ex A1 w1) : (Code.rangeFunc g ps assign body).wpIn (FR ro) 0 P Q A w := by
  unfold arange at h
  split at h
  case h_2 => cases h
  rename_i l mark s2 h1
  split at h
  case h_2 => cases h
  rename_i f args h2
  split at h
  case h_2 => cases h
  rename_i v s3 h3
  split at h
  case h_2 => cases h
  rename_i j s4 h4
  split at h
  case isFalse => cases h
  rename_i hj
  have m1 := arun_next P _ _ _ _ h1
  have m2 := (acallF_local hl f args).next h3
  have m3 := arun_next P _ _ _ _ h4
  have last : s1 = s4 ∧ a1 = { a with defers := mark ++ a.defers } ∧ ((j = none ∧ ex = .normal) ∨ (j = some .ret ∧ ex = .ret) ∨ ∃ id, j = some (.exit id) ∧ ex = .exit id) := by
    cases j with
    | none => cases h; exact ⟨rfl, rfl, .inl ⟨rfl, rfl⟩⟩
    | some c =>
      have hc : c = .ret ∨ ∃ id, c = .exit id := by
        unfold jumpOk at hj
        split at hj
        · rename_i e; cases e
        · rename_i e; cases e; exact .inl rfl
        · rename_i id e; cases e; exact .inr ⟨id, rfl⟩
        · cases hj
      have := hjmp rd c _ _ hc _ h
      rcases hc with rfl | ⟨id, rfl⟩
      · cases this; exact ⟨rfl, rfl, .inr (.inl ⟨rfl, rfl⟩)⟩
      · cases this; exact ⟨rfl, rfl, .inr (.inr ⟨id, rfl, rfl⟩)⟩
  obtain ⟨rfl, rfl, hjx⟩ := last
  refine wpIn_rangeFunc (fun fn _ => ?_)
  obtain ⟨κ, ⟨l', mark'⟩, w1, q1, ⟨k1, k2⟩, g1⟩ := sim_goes (sim_enterLoop (P := P) (base := base) 0 fn ps assign body hA.tmps hrd o1 o2) hr h1 (hfr.left (by omega))
  have f1 := hfr.right g1 m1
  have le1 := g1.le (hfr.left (by omega))
  have win1 := (arun_local P _).win h1 hwin (by omega)
  unfold aloopCall at h2
  split at h2
  case isFalse => cases h2
  rename_i hgo
  split at h2
  case h_2 => cases h2
  rename_i f0 first captured hg
  split at h2
  case isFalse => cases h2
  rename_i hfn
  cases h2
  have hv := eval_rel hA g hgo
  rw [hg] at hv
  generalize hAg : A.eval g = Ag at hv
  cases hv with
  | func _ _ f' _ c' hy hf hc h5 h6 =>
    have hargs : ARel κ ((first ++ #[.func (.yield l) #[] #[]]) ++ captured) ((f' ++ #[.func (.yield l') #[] #[]]) ++ c') := by
      refine ARel.append (ARel.append (ARel.mono le1 ⟨hf, h5⟩) ⟨rfl, ?_⟩) (ARel.mono le1 ⟨hc, h6⟩)
      intro i x y hx hy
      match i with
      | 0 =>
        simp only [List.size_toArray, List.length_cons, List.length_nil, Nat.zero_add, Nat.lt_add_one, Array.getElem?_eq_getElem, List.getElem_toArray, List.getElem_cons_zero, Option.some.injEq] at hx hy
        subst hx hy
        exact .yield _ _ k1
      | i + 1 => simp at hx
    refine ⟨l', mark', w1, { target := .fn (.func f) c', args := f' ++ #[.func (.yield l') #[] #[]] }, w1, f, (f' ++ #[.func (.yield l') #[] #[]]) ++ c', w1, ?_, ?_, fun f _ => FR_fn ro f, ?_, FR_room ro, ?_⟩
    · rw [FR_round]; exact q1
    · have hres : resolve A.eval (rangeCall g l') 0 = Deferred.ofValue (A.eval g) #[.func (.yield l') #[] #[]] := by
        unfold resolve
        simp [rangeCall, Act.eval]
      rw [hres, hAg]
      rfl
    · exact run_callFunc hfn _ w1
    · refine callsFR ro ((acallF_ok hP hcal hl hrun _ _ _ _ _ h3 (win1.left m3) κ _ w1 g1.rep hargs (f1.left m3)).mono ?_)
      rintro e w2 ⟨μ, v', rfl, g2, _⟩
      have le2 := g2.le (f1.left m3)
      have f2 := f1.right g2 m2
      obtain ⟨ν, j', w3, q3, ej, g3⟩ := sim_goes (sim_endLoop (P := P) (base := base) (le2 _ _ k1)) g2.rep h4 f2
      subst ej
      have le3 := g3.le f2
      have gg : Goes P base ι ν s s1 w w3 := g1.trans (g2.trans g3 m2 m3) m1 (by omega)
      have hA2 : ActRel ν { a with defers := mark ++ a.defers } { A with defers := mark' ++ A.defers } := by
        have leall := gg.le hfr
        exact ⟨hA.tmps.mono leall, DRel.append ((k2.mono le2).mono le3) (hA.dfs.mono leall)⟩
      refine ⟨j', w3, q3, ?_⟩
      rcases hjx with ⟨rfl, rfl⟩ | ⟨rfl, rfl⟩ | ⟨id, rfl, rfl⟩
      · exact hQ _ _ _ hA2 gg
      · exact wpIn_ret (hQ _ _ _ hA2 gg)
      · exact wpIn_exit (hQ _ _ _ hA2 gg)

theorem ev_ok {P : Program} {base : Nat → Prop} (hP : P.check = .ok ()) (hcal : CalOK P) (hm : P.follows .mixedOrders = true) : ∀ n, EvOK P base (ev P n) ∧ ∀ rd body a s ex a1 s1, ev P n rd (.loop body) a s = some (ex, a1, s1) → CodeOK P body → Win s s.next s1.next → ∀ (ι : Ren) (ro : Option Nat) (A : Act) (w : World), RdRel ι rd ro → ActRel ι a A → Rep P base ι s.look w → Fresh ι s s1 → ∀ Q : Exit → Act → World → Prop,
    (∀ κ A1 w1, ActRel κ a1 A1 → Goes P base ι κ s s1 w w1 → Q ex A1 w1) → Code.roundsIn (FR ro) 0 P body Q n A w := by
  intro n
  induction n with
  | zero => exact ⟨(fun rd c a s ex a1 s1 h => by cases h), (fun rd body a s ex a1 s1 h => by cases h)⟩
  | succ n ih =>
    obtain ⟨ih1, ih2⟩ := ih
    have hl := ev_local P n
    have hloop : ∀ rd body a s ex a1 s1, ev P (n + 1) rd (.loop body) a s = some (ex, a1, s1) → CodeOK P body → Win s s.next s1.next → ∀ (ι : Ren) (ro : Option Nat) (A : Act) (w : World), RdRel ι rd ro → ActRel ι a A → Rep P base ι s.look w → Fresh ι s s1 → ∀ Q : Exit → Act → World → Prop,
        (∀ κ A1 w1, ActRel κ a1 A1 → Goes P base ι κ s s1 w w1 → Q ex A1 w1) → Code.roundsIn (FR ro) 0 P body Q (n + 1) A w := by
      intro rd body a s ex a1 s1 h hco hwin
      simp only [ev] at h
      split at h
      · rename_i a2 s2 hb
        have n1 := hl.next hb
        have n2 := hl.next h
        intro ι ro A w hrd hA hr hfr Q hQ
        rw [roundsIn_succ]
        refine ih1 _ _ _ _ _ _ _ hb hco (hwin.left n2) ι ro A w hrd hA hr (hfr.left n2) _ (fun κ A1 w1 hA1 g => ?_)
        exact ih2 _ _ _ _ _ _ _ h hco (hl.win hb hwin n2) κ ro A1 w1 (hrd.mono (g.le (hfr.left n2))) hA1 g.rep (hfr.right g n1) Q (fun μ A2 w2 hA2 g2 => hQ μ A2 w2 hA2 (g.trans g2 n1 n2))
      · rename_i hb
        intro ι ro A w hrd hA hr hfr Q hQ
        rw [roundsIn_succ]
        refine ih1 _ _ _ _ _ _ _ h hco hwin ι ro A w hrd hA hr hfr _ (fun κ A1 w1 hA1 g => ?_)
        have := hQ κ A1 w1 hA1 g
        cases ex with
        | normal => exact (hb _ _ h).elim
        | _ => exact this
    refine ⟨?_, fun rd body a s ex a1 s1 h hco hwin ι ro A w hrd hA hr hfr Q hQ => hloop rd body a s ex a1 s1 h hco hwin ι ro A w hrd hA hr hfr Q hQ⟩
    intro rd c a s ex a1 s1 h hco hwin
    cases c with
    | skip =>
      simp only [ev] at h
      cases h
      exact fun ι ro A w hrd hA hr hfr Q hQ => wpIn_skip (hQ ι A w hA (Goes.refl hr))
    | label l =>
      simp only [ev] at h
      cases h
      exact fun ι ro A w hrd hA hr hfr Q hQ => wpIn_label (hQ ι A w hA (Goes.refl hr))
    | ret =>
      simp only [ev] at h
      cases h
      exact fun ι ro A w hrd hA hr hfr Q hQ => wpIn_ret (hQ ι A w hA (Goes.refl hr))
    | exit id =>
      simp only [ev] at h
      cases h
      exact fun ι ro A w hrd hA hr hfr Q hQ => wpIn_exit (hQ ι A w hA (Goes.refl hr))
    | goto l =>
      simp only [ev] at h
      cases h
      exact fun ι ro A w hrd hA hr hfr Q hQ => wpIn_goto (hQ ι A w hA (Goes.refl hr))
    | seq x y =>
      obtain ⟨co1, co2⟩ := hco.seq
      simp only [ev] at h
      split at h
      · rename_i a2 s2 hb
        have n1 := hl.next hb
        have n2 := hl.next h
        refine fun ι ro A w hrd hA hr hfr Q hQ => wpIn_seq ?_
        refine ih1 _ _ _ _ _ _ _ hb co1 (hwin.left n2) ι ro A w hrd hA hr (hfr.left n2) _ (fun κ A1 w1 hA1 g => ?_)
        exact ih1 _ _ _ _ _ _ _ h co2 (hl.win hb hwin n2) κ ro A1 w1 (hrd.mono (g.le (hfr.left n2))) hA1 g.rep (hfr.right g n1) Q (fun μ A2 w2 hA2 g2 => hQ μ A2 w2 hA2 (g.trans g2 n1 n2))
      · rename_i hb
        refine fun ι ro A w hrd hA hr hfr Q hQ => wpIn_seq ?_
        refine ih1 _ _ _ _ _ _ _ h co1 hwin ι ro A w hrd hA hr hfr _ (fun κ A1 w1 hA1 g => ?_)
        have := hQ κ A1 w1 hA1 g
        cases ex with
        | normal => exact (hb _ _ h).elim
        | _ => exact this
    | cond c x y =>
      obtain ⟨co1, co2⟩ := hco.cond
      simp only [ev] at h
      split at h
      · rename_i b hok hb
        have co : CodeOK P (if b = true then x else y) := by cases b <;> assumption
        refine fun ι ro A w hrd hA hr hfr Q hQ => ?_
        have hv := eval_rel hA c hok
        rw [hb] at hv
        generalize hAc : A.eval c = Ac at hv
        cases hv
        exact wpIn_cond hAc (ih1 _ _ _ _ _ _ _ h co hwin ι ro A w hrd hA hr hfr Q hQ)
      · cases h
    | block id body =>
      have co := hco.block
      simp only [ev] at h
      split at h
      · rename_i i a2 s2 hb
        split at h
        · rename_i he
          cases h
          refine fun ι ro A w hrd hA hr hfr Q hQ => wpIn_block (ih1 _ _ _ _ _ _ _ hb co hwin ι ro A w hrd hA hr hfr _ (fun κ A1 w1 hA1 g => ?_))
          show (if i = id then Q .normal A1 w1 else Q (.exit i) A1 w1)
          rw [if_pos he]
          exact hQ κ A1 w1 hA1 g
        · rename_i he
          cases h
          refine fun ι ro A w hrd hA hr hfr Q hQ => wpIn_block (ih1 _ _ _ _ _ _ _ hb co hwin ι ro A w hrd hA hr hfr _ (fun κ A1 w1 hA1 g => ?_))
          show (if i = id then Q .normal A1 w1 else Q (.exit i) A1 w1)
          rw [if_neg he]
          exact hQ κ A1 w1 hA1 g
      · rename_i hb
        refine fun ι ro A w hrd hA hr hfr Q hQ => wpIn_block (ih1 _ _ _ _ _ _ _ h co hwin ι ro A w hrd hA hr hfr _ (fun κ A1 w1 hA1 g => ?_))
        have := hQ κ A1 w1 hA1 g
        cases ex with
        | exit i => exact (hb _ _ _ h).elim
        | _ => exact this
    | loop body =>
      exact fun ι ro A w hrd hA hr hfr Q hQ => wpIn_loop_rounds (n + 1) (hloop rd body a s ex a1 s1 h hco.loop hwin ι ro A w hrd hA hr hfr Q hQ)
    | scope body =>
      have co := hco.scope
      cases rd with
      | some l => simp [ev] at h
      | none =>
        simp only [ev] at h
        unfold ascope at h
        split at h
        · rename_i l a2 s2 hb
          split at h
          case h_2 => cases h
          rename_i rest hf
          have n1 := hl.next hb
          have main : ∀ r, ev P n none rest a2 s2 = some r → (∀ l, r.1 ≠ .goto l) → r = (ex, a1, s1) → s2.next ≤ s1.next ∧ ∀ (ι : Ren) (ro : Option Nat) (A : Act) (w : World), RdRel ι none ro → ActRel ι a A → Rep P base ι s.look w → Fresh ι s s1 → ∀ Q : Exit → Act → World → Prop,
              (∀ κ A1 w1, ActRel κ a1 A1 → Goes P base ι κ s s1 w w1 → Q ex A1 w1) → (Code.scope body).wpIn (FR ro) 0 P Q A w := by
            rintro r hr2 hng rfl
            have n2 := hl.next hr2
            refine ⟨n2, fun ι ro A w hrd hA hr hfr Q hQ => ?_⟩
            cases ro with
            | some l => exact hrd.elim
            | none =>
              refine wpIn_wide.2 (wp_scope_once (wpIn_wide.1 (ih1 _ _ _ _ _ _ _ hb co (hwin.left n2) ι none A w trivial hA hr (hfr.left n2) _ (fun κ A1 w1 hA1 g => ?_))))
              refine ⟨rest, hf, wpIn_wide.1 (ih1 _ _ _ _ _ _ _ hr2 (co.label hf) (hl.win hb hwin n2) κ none A1 w1 trivial hA1 g.rep (hfr.right g n1) _ (fun μ A2 w2 hA2 g2 => ?_))⟩
              have := hQ μ A2 w2 hA2 (g.trans g2 n1 n2)
              cases ex with
              | goto l => exact (hng _ rfl).elim
              | _ => exact this
          split at h
          · cases h
          · rename_i hng
            exact (main _ h (fun l e => by
              simp only at e
              subst e
              exact hng _ _ _ h) rfl).2
        · rename_i hb
          refine fun ι ro A w hrd hA hr hfr Q hQ => ?_
          cases ro with
          | some l => exact hrd.elim
          | none =>
            refine wpIn_wide.2 (wp_scope_straight (wpIn_wide.1 (ih1 _ _ _ _ _ _ _ h co hwin ι none A w trivial hA hr hfr _ (fun κ A1 w1 hA1 g => ?_))))
            have := hQ κ A1 w1 hA1 g
            cases ex with
            | goto l => exact (hb _ _ _ h).elim
            | _ => exact this
    | rangeFunc g ps assign body =>
      obtain ⟨co1, co2⟩ := hco.rangeFunc
      simp only [ev] at h
      refine fun ι ro A w hrd hA hr hfr Q hQ => arange_ok hP hcal hl ih1 (fun rd c a s hc r hr => ?_) h co1 co2 hwin ι ro A w hrd hA hr hfr Q hQ
      cases n with
      | zero => cases hr
      | succ n =>
        rcases hc with rfl | ⟨id, rfl⟩
        · cases hr; rfl
        · cases hr; rfl
    | region id ops draw =>
      have hok := hco.region
      simp only [ev] at h
      split at h
      · rename_i a2 s2 hb
        cases h
        exact fun ι ro A w hrd hA hr hfr Q hQ => region_sound hcal hm (acall_local hl) (acall_ok hP hcal hl ih1) ro hok hb hwin id hA hr hfr hQ
      · cases h
    | _ => simp [ev] at h

theorem call_ok {P : Program} {base : Nat → Prop} (hP : P.check = .ok ()) (hcal : CalOK P) (hm : P.follows .mixedOrders = true) (n : Nat) : CallOK P base (acall P (ev P n)) := acall_ok hP hcal (ev_local P n) (ev_ok hP hcal hm n).1

theorem leaf_look (id : Nat) : s0.look id = none := Tr.get_leaf _ _
theorem start_rep (P : Program) (w : World) : Rep P (· < w.heap.size) (fun _ => none) s0.look w :=
  ⟨(fun id id' o o' b h => by rw [leaf_look] at h; cases h), (fun id o h => by rw [leaf_look] at h; cases h), fun k hk => hk, (fun id o g h => by rw [leaf_look] at h; cases h)⟩

/-- What a call with plain arguments comes to, it comes to in the model, at every world; what was there stays. -/
theorem closed {P : Program} (hP : P.check = .ok ()) (hcal : CalOK P) (hm : P.follows .mixedOrders = true) {n : Nat} {f : FuncId} {args args' : Array Value} {v : Value} {s1 : St} (h : acall P (ev P n) (.fn f args) s0 = some (v, s1)) (ha : ARel (fun _ => none) args args') (w : World) :
    Calls P f args' w fun e w1 => ∃ κ v', e = .returned v' ∧ Goes P (· < w.heap.size) (fun _ => none) κ s0 s1 w w1 ∧ VRel κ v v' :=
  (call_ok hP hcal hm n).1 f args s0 v s1 h (fun id _ _ => leaf_look id) _ args' w (start_rep P w) ha (fun id _ _ => rfl)

theorem closed_bool {P : Program} (hP : P.check = .ok ()) (hcal : CalOK P) (hm : P.follows .mixedOrders = true) {n : Nat} {f : FuncId} {args args' : Array Value} (h : isTrue (acall P (ev P n) (.fn f args) s0) = true) (ha : ARel (fun _ => none) args args') (w : World) :
    Calls P f args' w fun e w1 => e = .returned (.bool true) ∧ Below w.heap.size w w1 := by
  unfold isTrue at h
  split at h
  · rename_i b s1 hc
    subst h
    refine (closed hP hcal hm hc ha w).mono ?_
    rintro e w1 ⟨κ, v', rfl, g, hv⟩
    cases hv
    exact ⟨rfl, g.below.below⟩
  · cases h

/-- No symbols. -/
@[reducible] def noSig : Sig where
  val := fun _ => .int .i64 0
  leaf := fun _ => rfl
  bin := fun _ _ _ => none
  bin_ok := fun _ _ _ _ h => by cases h
  una := fun _ _ => none
  una_ok := fun _ _ _ h => by cases h
  cnv := fun _ _ => none
  cnv_ok := fun _ _ _ h => by cases h
  cal := fun _ _ => none
  cal_sym := fun _ _ _ h => by cases h
  GR := fun _ _ _ _ => False
  GR_keep := fun _ _ _ _ _ _ h => h
  GR_mono := fun _ _ _ _ _ _ h => h
  gop := fun _ _ => none
  gcal := fun _ _ => none
theorem noCal (P : Program) : @CalOK noSig P := @CalOK.mk noSig P (fun _ _ _ h => by cases h) (fun _ _ _ h => by cases h) (fun _ _ _ h => by cases h)
end Go.Ev
