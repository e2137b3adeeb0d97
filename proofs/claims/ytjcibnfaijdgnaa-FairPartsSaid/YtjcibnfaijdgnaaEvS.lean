/- The evaluator, part nineteen: code and calls are local. -/
import Derived.Test.YtjcibnfaijdgnaaEvR
namespace Go.Ev
open Go.RowKit
set_option linter.unusedVariables false
set_option linter.unusedSimpArgs false
set_option linter.unusedSectionVars false
variable [Sig]

def CallLocal (call : Caller) : Prop := ∀ c, Local (call c)

/-- What an operation comes to. -/
def ares (P : Program) (call : Caller) (a : Act) (o : Oper) (s : St) : Option (Value × St) :=
  match Sig.gop o.op (gvals a o.op) with
  | some q => agops q a o s
  | none =>
  match aexec P a o s with
  | some (.value v, s1) => some (v, s1)
  | some (.skip, s1) => some (undef, s1)
  | some (.enter f args, s1) => call (.fn f args) s1
  | some (.round l _ tmps assign body, s1) => call (.rnd l tmps assign body) s1
  | _ => none

theorem astep_eq (P : Program) (call : Caller) (a : Act) (o : Oper) (s : St) :
    astep P call a o s = match ares P call a o s with | some (v, s1) => some (a.put o.dst v, s1) | none => none := by
  unfold astep ares
  cases Sig.gop o.op (gvals a o.op) with
  | some q => rfl
  | none =>
  dsimp only
  cases aexec P a o s with
  | none => rfl
  | some x =>
    obtain ⟨n, s1⟩ := x
    cases n <;> rfl

theorem agop_local (q : GQ) : Local (agop q) := by
  intro s r s1 h
  unfold agop at h
  split at h
  case h_2 => cases h
  rename_i x t hl
  split at h
  · rename_i v hq
    cases h
    refine ⟨Nat.le_refl _, fun hcl => ⟨[⟨3, none, false⟩], rfl, fun j _ => ⟨rfl, fun k _ => rfl⟩, ?_, ?_⟩⟩
    · intro u hu _
      rw [List.mem_singleton] at hu
      subst hu
      exact fun hno => by have hno : s.look 3 = none := hno; rw [hno] at hl; cases hl
    · intro z hz hag hzc
      have h0 : s.look 3 = z.look 3 := hag ⟨3, none, false⟩ (List.mem_singleton.2 rfl) (fun ⟨x, y⟩ => Nat.lt_irrefl _ (Nat.lt_of_le_of_lt x y))
      refine ⟨z.touch 3 none false, ?_, hz, rfl, ?_⟩
      · unfold agop
        rw [← h0, hl]
        dsimp only
        rw [hz, hq]
      · intro j
        have nw : ¬ allW [⟨3, none, false⟩] j := fun ⟨u, hu, _, hw, _⟩ => by rw [List.mem_singleton] at hu; subst hu; cases hw
        exact ⟨fun h => (nw h).elim, fun _ => ⟨rfl, fun k => ⟨(fun ⟨u, hu, _, hw, _⟩ => by rw [List.mem_singleton] at hu; subst hu; cases hw), fun _ => rfl⟩⟩⟩
  · rename_i v g hq
    cases h
    have lk : ∀ (z : St) (n : Nat) j, (({ (z.put 3 (some (gobj g))).touch 3 none true with next := n } : St)).look j = if j = 3 then some (gobj g) else z.look j := by
      intro z n j
      by_cases ej : j = 3
      · rw [if_pos ej, ej]; exact St.look_put_same _ 3 _ (show 3 < lim by unfold lim; omega)
      · rw [if_neg ej]; exact St.look_put_other _ _ _ _ ej
    have ncel : ∀ j k, ¬ celW [⟨3, none, true⟩] j k := fun j k ⟨u, hu, _, _, hn⟩ => by rw [List.mem_singleton] at hu; subst hu; cases hn
    have nall : ∀ j, j ≠ 3 → ¬ allW [⟨3, none, true⟩] j := fun j hj ⟨u, hu, hid2, _⟩ => by rw [List.mem_singleton] at hu; subst hu; exact hj hid2.symm
    refine ⟨Nat.le_succ _, fun hcl => ⟨[⟨3, none, true⟩], rfl, ?_, ?_, ?_⟩⟩
    · intro j hj
      have ej : j ≠ 3 := fun e => hj ⟨_, List.mem_singleton.2 rfl, e.symm, rfl, rfl⟩
      rw [lk s _ j, if_neg ej]
      exact ⟨rfl, fun _ _ => rfl⟩
    · intro u hu _
      rw [List.mem_singleton] at hu
      subst hu
      exact fun hno => by have hno : s.look 3 = none := hno; rw [hno] at hl; cases hl
    · intro z hz hag hzc
      have h0 : s.look 3 = z.look 3 := hag ⟨3, none, true⟩ (List.mem_singleton.2 rfl) (fun hh => by
        have := hcl 3 hh.1 hh.2
        rw [hl] at this
        cases this)
      refine ⟨{ (z.put 3 (some (gobj g))).touch 3 none true with next := s.next + 1 }, ?_, rfl, rfl, ?_⟩
      · unfold agop
        rw [← h0, hl]
        dsimp only
        rw [hz, hq]
      · intro j
        rw [lk z _ j, lk s _ j]
        by_cases ej : j = 3
        · rw [if_pos ej, if_pos ej]
          exact ⟨fun _ => rfl, fun hw => (hw ⟨_, List.mem_singleton.2 rfl, ej.symm, rfl, rfl⟩).elim⟩
        · rw [if_neg ej, if_neg ej]
          exact ⟨fun hw => (nall j ej hw).elim, fun _ => ⟨rfl, fun k => ⟨fun hk => (ncel j k hk).elim, fun _ => rfl⟩⟩⟩
  · cases h

theorem arsrc_local (sz : Nat) (x : Value) : Local (arsrc sz x) := Local.congr (fun s => rfl) (rdSrc_local sz x)
theorem agopsV_local (q : GReq) (vals : List Value) : Local (agopsV q vals) := by
  cases q with
  | now q => exact Local.congr (fun s => rfl) (agop_local q)
  | src sz j q =>
    cases hv : vals[j]? with
    | none => exact Local.congr (fun s => by simp [agopsV, hv]) Local.none
    | some y =>
      refine Local.congr (fun s => ?_) (Local.bind (arsrc_local sz y) (fun c => agop_local (q c.toList)))
      simp only [agopsV, hv]
      cases arsrc sz y s with
      | none => rfl
      | some z => rfl
theorem agops_local (q : GReq) (a : Act) (o : Oper) : Local (agops q a o) := by
  unfold agops
  cases allOk o.op.operands.toList with
  | true => exact Local.congr (fun s => by simp) (agopsV_local q (gvals a o.op))
  | false => exact Local.congr (fun s => by simp) Local.none

theorem ares_local {P : Program} {call : Caller} (hc : CallLocal call) (a : Act) (o : Oper) : Local (ares P call a o) := by
  cases hg : Sig.gop o.op (gvals a o.op) with
  | some q => exact Local.congr (fun s => by unfold ares; rw [hg]) (agops_local q a o)
  | none =>
  refine Local.congr (fun s => ?_) (Local.bind (aexec_local P a o) (g := fun n s => match n with | .value v => some (v, s) | .skip => some (undef, s) | .enter f args => call (.fn f args) s | .round l _ tmps assign body => call (.rnd l tmps assign body) s | _ => none) (fun n => ?_))
  · unfold ares
    rw [hg]
    dsimp only
    cases aexec P a o s with
    | none => rfl
    | some x => obtain ⟨n, s1⟩ := x; cases n <;> rfl
  · cases n with
    | value v => exact Local.pure v
    | skip => exact Local.pure undef
    | enter f args => exact hc (.fn f args)
    | round l f tmps assign body => exact hc (.rnd l tmps assign body)
    | _ => exact Local.none

theorem astep_local {P : Program} {call : Caller} (hc : CallLocal call) (a : Act) (o : Oper) : Local (astep P call a o) := by
  refine Local.congr (fun s => ?_) (Local.bind (ares_local (P := P) hc a o) (fun v => Local.pure (a.put o.dst v)))
  rw [astep_eq]
  cases ares P call a o s with
  | none => rfl
  | some x => rfl

theorem Local.relog {α : Type} {f : St → Option (α × St)} (hf : Local f) :
    Local (fun s => match f { s with log := [] } with | some (a, s1) => some ((a, s1.log), { s1 with log := s1.log ++ s.log }) | Option.none => Option.none) := by
  intro s r s1 h
  dsimp only at h
  split at h
  · rename_i a s2 hfs
    cases h
    obtain ⟨n, k⟩ := hf _ _ _ hfs
    refine ⟨n, fun hcl => ?_⟩
    obtain ⟨L, e, u, b, l⟩ := k hcl
    have eL : s2.log = L := by rw [e]; simp
    refine ⟨L, by rw [← eL], u, b, ?_⟩
    intro z hz hag hzc
    obtain ⟨z1, f1, m1, g1, r1⟩ := l { z with log := [] } hz hag hzc
    have eL1 : z1.log = L := by rw [g1]; simp
    refine ⟨{ z1 with log := z1.log ++ z.log }, ?_, m1, by rw [eL1], r1⟩
    dsimp only
    rw [f1]
    dsimp only
    rw [eL, eL1]
  · cases h

theorem alist_local {P : Program} {call : Caller} (hc : CallLocal call) (ops : Array Oper) : ∀ (l : List Oper) (a : Act), Local (alist P call ops l a) := by
  intro l
  induction l with
  | nil => intro a; exact Local.congr (fun s => rfl) (Local.pure a)
  | cons o rest ih =>
    intro a
    cases hw : Region.wanted o (yielded ops a.tmps) with
    | false => exact Local.congr (fun s => by simp only [alist, hw, Bool.false_eq_true, if_false]) (ih (a.put o.dst undef))
    | true =>
      refine Local.congr (fun s => ?_) (Local.bind (astep_local (P := P) hc a o) ih)
      simp only [alist, hw, if_true]
      cases astep P call a o s with
      | none => rfl
      | some x => rfl

theorem alogs_local {P : Program} {call : Caller} (hc : CallLocal call) (ops : Array Oper) : ∀ (l : List Oper) (a : Act) (ls : List (List Touch)),
    Local (fun s => match alogs P call ops l a s ls with | some (a1, s1, m) => some ((a1, m), s1) | none => none) := by
  intro l
  induction l with
  | nil => intro a ls; exact Local.congr (fun s => rfl) (Local.pure (a, ls))
  | cons o rest ih =>
    intro a ls
    cases hw : Region.wanted o (yielded ops a.tmps) with
    | false => exact Local.congr (fun s => by simp only [alogs, hw, Bool.false_eq_true, if_false]) (ih (a.put o.dst undef) ([] :: ls))
    | true =>
      refine Local.congr (fun s => ?_) (Local.bind (Local.relog (astep_local (P := P) hc a o)) (fun p => ih p.1 (p.2 :: ls)))
      simp only [alogs, hw, if_true]
      cases astep P call a o { s with log := [] } with
      | none => rfl
      | some x => rfl

theorem aregion_local {P : Program} {call : Caller} (hc : CallLocal call) (ops : Array Oper) (draw : Bool) (a : Act) : Local (aregion P call ops draw a) := by
  cases draw with
  | false => exact Local.congr (fun s => by simp [aregion]) (alist_local (P := P) hc ops ops.toList a)
  | true =>
    refine Local.congr (fun s => ?_) (Local.bind (alogs_local (P := P) hc ops ops.toList a []) (fun p => Local.ite (guardsOk ops && noClash (Region.before ops) p.2 (ops.size - 1)) (Local.pure p.1)))
    simp only [aregion, if_true]
    cases alogs P call ops ops.toList a s [] with
    | none => rfl
    | some x => rfl

/-- Code, as a step. -/
def evL (run : Runner) (rd : Option Nat) (c : Code) (a : Act) (s : St) : Option ((Exit × Act) × St) :=
  match run rd c a s with
  | some (e, a1, s1) => some ((e, a1), s1)
  | none => none
def RunLocal (run : Runner) : Prop := ∀ rd c a, Local (evL run rd c a)

theorem amarks_local (P : Program) : ∀ ds : List Deferred, Local (amarks P ds) := by
  intro ds
  induction ds with
  | nil => exact Local.congr (fun s => rfl) (Local.pure ())
  | cons d ds ih =>
    obtain ⟨t, args⟩ := d
    cases t with
    | collected r =>
      refine Local.congr (fun s => ?_) (Local.bind (arun_local P (Instr.takeDeferred r)) (fun _ => ih))
      simp only [amarks]
      cases arun P (Instr.takeDeferred r) s with
      | none => rfl
      | some x => rfl
    | _ => exact Local.congr (fun s => by simp only [amarks]) Local.none
theorem aleave_local (P : Program) (fn : Func) (e : Exit) (a : Act) : Local (aleave P fn e a) := by
  cases h : atEnd e with
  | false => exact Local.congr (fun s => by simp only [aleave, h]) Local.none
  | true =>
    refine Local.congr (fun s => ?_) (Local.bind (amarks_local P a.defers) (fun _ => arun_local P (results fn a.tmps)))
    simp only [aleave, h]
    cases amarks P a.defers s with
    | none => rfl
    | some x => rfl

theorem acallF_local {P : Program} {run : Runner} (hr : RunLocal run) (f : FuncId) (args : Array Value) : Local (acallF P run f args) := by
  unfold acallF
  cases hq : Sig.cal f args.toList with
  | some r => exact Local.pure r
  | none =>
  dsimp only
  cases hgq : Sig.gcal f args.toList with
  | some q => exact agop_local q
  | none =>
  dsimp only
  cases hf : P.funcs[f]? with
  | none => exact Local.none
  | some fn =>
    dsimp only
    cases hb : fn.body with
    | none => exact Local.none
    | some body =>
      dsimp only
      refine Local.congr (fun s => ?_) (Local.bind (hr none body { tmps := args ++ Array.replicate (fn.ntmps - args.size) undef, defers := [] }) (g := fun p => aleave P fn p.1 p.2) (fun p => aleave_local P fn p.1 p.2))
      unfold evL
      cases run none body { tmps := args ++ Array.replicate (fn.ntmps - args.size) undef, defers := [] } s with
      | none => rfl
      | some x => rfl

theorem acallR_local {P : Program} {run : Runner} (hr : RunLocal run) (l : Nat) (tmps : Array Value) (assign body : Code) : Local (acallR P run l tmps assign body) := by
  have h3 : ∀ e2, Local (aend P l e2) := by
    intro e2
    unfold aend
    cases jumpOf e2 with
    | none => exact Local.none
    | some j => exact arun_local P _
  have h2 : ∀ a1, Local (fun s => match run (some l) body a1 s with | some (e2, _, s3) => aend P l e2 s3 | none => none) := by
    intro a1
    refine Local.congr (fun s => ?_) (Local.bind (hr (some l) body a1) (g := fun p => aend P l p.1) (fun p => h3 p.1))
    unfold evL
    cases run (some l) body a1 s with
    | none => rfl
    | some x => rfl
  have h1 : ∀ a1, Local (fun s => match arun P (Instr.beginRound l) s with | some (_, s2) => (match run (some l) body a1 s2 with | some (e2, _, s3) => aend P l e2 s3 | none => none) | none => none) := by
    intro a1
    refine Local.congr (fun s => ?_) (Local.bind (arun_local P (Instr.beginRound l)) (fun _ => h2 a1))
    cases arun P (Instr.beginRound l) s with
    | none => rfl
    | some x => rfl
  refine Local.congr (fun s => ?_) (Local.bind (hr (some l) assign { tmps := tmps, defers := [] })
    (g := fun p s => if isNormal p.1 then (match arun P (Instr.beginRound l) s with | some (_, s2) => (match run (some l) body p.2 s2 with | some (e2, _, s3) => aend P l e2 s3 | none => none) | none => none) else none) (fun p => ?_))
  · unfold acallR evL
    cases run (some l) assign { tmps := tmps, defers := [] } s with
    | none => rfl
    | some x => rfl
  · cases hn : isNormal p.1 with
    | true => exact Local.congr (fun s => by simp only [hn, if_true]) (h1 p.2)
    | false => exact Local.congr (fun s => by simp [hn]) Local.none

theorem acall_local {P : Program} {run : Runner} (hr : RunLocal run) : CallLocal (acall P run) := by
  intro c
  cases c with
  | fn f args => exact Local.congr (fun s => rfl) (acallF_local hr f args)
  | rnd l tmps assign body => exact Local.congr (fun s => rfl) (acallR_local hr l tmps assign body)

theorem arange_local {P : Program} {run : Runner} (hr : RunLocal run) (rd : Option Nat) (g : Operand) (ps : Array Tmp) (assign body : Code) (a : Act) :
    Local (fun s => match arange P run rd g ps assign body a s with | some (e, a1, s1) => some ((e, a1), s1) | none => none) := by
  have h3 : ∀ (j : Option Code) (a1 : Act), Local (fun s => match (if jumpOk j then ajump run rd j a1 s else none) with | some (e, a1, s1) => some ((e, a1), s1) | none => none) := by
    intro j a1
    cases hj : jumpOk j with
    | false => exact Local.congr (fun s => by simp) Local.none
    | true =>
      cases j with
      | none => exact Local.congr (fun s => by simp [ajump]) (Local.pure (Exit.normal, a1))
      | some c => exact Local.congr (fun s => by simp [ajump, evL]) (hr rd c a1)
  have h2 : ∀ (l : Nat) (a1 : Act), Local (fun s => match (match arun P (Instr.endLoop l) s with | some (j, s3) => (if jumpOk j then ajump run rd j a1 s3 else none) | none => none) with | some (e, a1, s1) => some ((e, a1), s1) | none => none) := by
    intro l a1
    refine Local.congr (fun s => ?_) (Local.bind (arun_local P (Instr.endLoop l)) (fun j => h3 j a1))
    cases arun P (Instr.endLoop l) s with
    | none => rfl
    | some x => rfl
  refine Local.congr (fun s => ?_) (Local.bind (arun_local P (Instr.enterLoop 0 a.tmps ps assign body rd))
    (g := fun x s => match aloopCall P a g x.1 with
      | some (f, args) => (match acallF P run f args s with | some (_, s2) => (match (match arun P (Instr.endLoop x.1) s2 with | some (j, s3) => (if jumpOk j then ajump run rd j { a with defers := x.2 ++ a.defers } s3 else none) | none => none) with | some (e, a1, s1) => some ((e, a1), s1) | none => none) | none => none)
      | none => none) (fun x => ?_))
  · unfold arange
    cases arun P (Instr.enterLoop 0 a.tmps ps assign body rd) s with
    | none => rfl
    | some x =>
      obtain ⟨⟨l, mark⟩, s1⟩ := x
      dsimp only [Option.bind]
      cases aloopCall P a g l with
      | none => rfl
      | some y =>
        obtain ⟨f, args⟩ := y
        dsimp only
        cases acallF P run f args s1 with
        | none => rfl
        | some z => rfl
  · cases hc : aloopCall P a g x.1 with
    | none => exact Local.congr (fun s => by simp only [hc]) Local.none
    | some y =>
      obtain ⟨f, args⟩ := y
      refine Local.congr (fun s => ?_) (Local.bind (acallF_local (P := P) hr f args) (fun _ => h2 x.1 { a with defers := x.2 ++ a.defers }))
      dsimp only
      cases acallF P run f args s with
      | none => rfl
      | some z => rfl

theorem ev_local (P : Program) : ∀ n, RunLocal (ev P n) := by
  intro n
  induction n with
  | zero => intro rd c a; exact Local.congr (fun s => rfl) Local.none
  | succ n ih =>
    intro rd c a
    cases c with
    | skip => exact Local.congr (fun s => rfl) (Local.pure (Exit.normal, a))
    | label l => exact Local.congr (fun s => rfl) (Local.pure (Exit.normal, a))
    | ret => exact Local.congr (fun s => rfl) (Local.pure (Exit.ret, a))
    | exit id => exact Local.congr (fun s => rfl) (Local.pure (Exit.exit id, a))
    | goto l => exact Local.congr (fun s => rfl) (Local.pure (Exit.goto l, a))
    | seq x y =>
      refine Local.congr (fun s => ?_) (Local.bind (ih rd x a) (g := fun p s => match p.1 with | .normal => evL (ev P n) rd y p.2 s | _ => some (p, s)) (fun p => ?_))
      · unfold evL
        simp only [ev]
        cases ev P n rd x a s with
        | none => rfl
        | some z =>
          obtain ⟨e, a1, s1⟩ := z
          cases e <;> rfl
      · obtain ⟨e, a1⟩ := p
        cases e with
        | normal => exact ih rd y a1
        | _ => exact Local.pure _
    | cond c x y =>
      cases hok : opdOk c with
      | false => exact Local.congr (fun s => by simp [evL, ev, hok]) Local.none
      | true =>
        cases hv : a.eval c with
        | bool b =>
          refine Local.congr (fun s => ?_) (ih rd (if b then x else y) a)
          simp only [evL, ev, hok, hv]
        | _ => exact Local.congr (fun s => by simp [evL, ev, hok, hv]) Local.none
    | block id body =>
      refine Local.congr (fun s => ?_) (Local.bind (ih rd body a) (g := fun p s => match p.1 with | .exit i => some (if i = id then (Exit.normal, p.2) else p, s) | _ => some (p, s)) (fun p => ?_))
      · unfold evL
        simp only [ev]
        cases ev P n rd body a s with
        | none => rfl
        | some z =>
          obtain ⟨e, a1, s1⟩ := z
          cases e <;> first | rfl | skip
          rename_i i
          dsimp only
          by_cases hi : i = id
          · rw [if_pos hi, if_pos hi]
          · rw [if_neg hi, if_neg hi]
      · obtain ⟨e, a1⟩ := p
        cases e with
        | _ => exact Local.pure _
    | loop body =>
      refine Local.congr (fun s => ?_) (Local.bind (ih rd body a) (g := fun p s => match p.1 with | .normal => evL (ev P n) rd (.loop body) p.2 s | _ => some (p, s)) (fun p => ?_))
      · unfold evL
        simp only [ev]
        cases ev P n rd body a s with
        | none => rfl
        | some z =>
          obtain ⟨e, a1, s1⟩ := z
          cases e <;> rfl
      · obtain ⟨e, a1⟩ := p
        cases e with
        | normal => exact ih rd (.loop body) a1
        | _ => exact Local.pure _
    | scope body =>
      cases rd with
      | some l => exact Local.congr (fun s => by simp [evL, ev]) Local.none
      | none =>
        refine Local.congr (fun s => ?_) (Local.bind (ih none body a) (g := fun p s => match p.1 with | .goto l => (match findLabel body l with | some rest => (match evL (ev P n) none rest p.2 s with | some (q, s') => (match q.1 with | .goto _ => none | _ => some (q, s')) | none => none) | none => none) | _ => some (p, s)) (fun p => ?_))
        · unfold evL
          simp only [ev]
          cases ev P n none body a s with
          | none => rfl
          | some z =>
            obtain ⟨e, a1, s1⟩ := z
            cases e <;> first | rfl | skip
            rename_i l
            simp only [ascope]
            cases findLabel body l with
            | none => rfl
            | some rest =>
              dsimp only
              cases ev P n none rest a1 s1 with
              | none => rfl
              | some z =>
                obtain ⟨e2, a2, s2⟩ := z
                cases e2 <;> rfl
        · obtain ⟨e, a1⟩ := p
          cases e with
          | goto l =>
            dsimp only
            cases findLabel body l with
            | none => exact Local.none
            | some rest =>
              refine Local.congr (fun s => ?_) (Local.bind (ih none rest a1) (g := fun q s' => match q.1 with | .goto _ => none | _ => some (q, s')) (fun q => ?_))
              · dsimp only
                cases evL (ev P n) none rest a1 s with
                | none => rfl
                | some z => rfl
              obtain ⟨e2, a2⟩ := q
              cases e2 with
              | goto _ => exact Local.none
              | _ => exact Local.pure _
          | _ => exact Local.pure _
    | rangeFunc g ps assign body =>
      refine Local.congr (fun s => ?_) (arange_local (P := P) ih rd g ps assign body a)
      simp only [evL, ev]
    | region id ops draw =>
      refine Local.congr (fun s => ?_) (Local.bind (aregion_local (P := P) (acall_local (P := P) ih) ops draw a) (fun a1 => Local.pure (Exit.normal, a1)))
      unfold evL
      simp only [ev]
      cases aregion P (acall P (ev P n)) ops draw a s with
      | none => rfl
      | some z => rfl
    | _ => exact Local.congr (fun s => by simp [evL, ev]) Local.none

theorem call_local (P : Program) (n : Nat) : CallLocal (acall P (ev P n)) := acall_local (ev_local P n)

theorem Local.next {α : Type} {f : St → Option (α × St)} (hf : Local f) {s s1 : St} {r : α} (h : f s = some (r, s1)) : s.next ≤ s1.next := (hf s r s1 h).1
theorem Win.left {s : St} {n m k : Nat} (h : Win s n k) (hm : m ≤ k) : Win s n m := fun id x y => h id x (by omega)
theorem Local.win {α : Type} {f : St → Option (α × St)} (hf : Local f) {s s1 : St} {r : α} (h : f s = some (r, s1)) {m : Nat} (hw : Win s s.next m) (hm : s1.next ≤ m) : Win s1 s1.next m := by
  obtain ⟨n, k⟩ := hf s r s1 h
  obtain ⟨L, e, u, b, l⟩ := k (hw.left hm)
  intro id x y
  have free : ¬ allW L id := fun ⟨t, ht, hid, _⟩ => b t ht (fun hh => by omega) (by rw [hid]; exact hw id (by omega) y)
  exact shp_none (by rw [(u id free).1, hw id (by omega) y]; rfl)
end Go.Ev
