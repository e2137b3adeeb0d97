/- The evaluator, part nineteen: code and calls are local. -/
import Derived.Test.YtaoambcodcggoaaEvR
namespace Go.Ev
open Go.RowKit
set_option linter.unusedVariables false
set_option linter.unusedSimpArgs false
set_option linter.unusedSectionVars false
variable [Sig]

def CallLocal (call : Caller) : Prop := ∀ f args, Local (call f args)

/-- What an operation comes to. -/
def ares (P : Program) (call : Caller) (a : Act) (o : Oper) (s : St) : Option (Value × St) :=
  match aexec P a o s with
  | some (.value v, s1) => some (v, s1)
  | some (.skip, s1) => some (undef, s1)
  | some (.enter f args, s1) => call f args s1
  | _ => none

theorem astep_eq (P : Program) (call : Caller) (a : Act) (o : Oper) (s : St) :
    astep P call a o s = match ares P call a o s with | some (v, s1) => some (a.put o.dst v, s1) | none => none := by
  unfold astep ares
  cases aexec P a o s with
  | none => rfl
  | some x =>
    obtain ⟨n, s1⟩ := x
    cases n <;> rfl

theorem ares_local {P : Program} {call : Caller} (hc : CallLocal call) (a : Act) (o : Oper) : Local (ares P call a o) := by
  refine Local.congr (fun s => ?_) (Local.bind (aexec_local P a o) (g := fun n s => match n with | .value v => some (v, s) | .skip => some (undef, s) | .enter f args => call f args s | _ => none) (fun n => ?_))
  · unfold ares
    cases aexec P a o s with
    | none => rfl
    | some x => obtain ⟨n, s1⟩ := x; cases n <;> rfl
  · cases n with
    | value v => exact Local.pure v
    | skip => exact Local.pure undef
    | enter f args => exact hc f args
    | _ => exact Local.none

theorem astep_local {P : Program} {call : Caller} (hc : CallLocal call) (a : Act) (o : Oper) : Local (astep P call a o) := by
  refine Local.congr (fun s => ?_) (Local.bind (ares_local (P := P) hc a o) (fun v => Local.pure (a.put o.dst v)))
  rw [astep_eq]
  cases ares P call a o s with
  | none => rfl
  | some x => rfl

theorem Local.relog {α : Type} {f : St → Option (α × St)} (hf : Local f) :
    Local (fun s => match f { s with log := [] } with | some (a, s1) => some ((a, s1.log), { s1 with log := s1.log ++ s.log }) | Option.none => Option.none) := by
  intro s r s1 h
  dsimp only at h
  split at h
  · rename_i a s2 hfs
    cases h
    obtain ⟨n, k⟩ := hf _ _ _ hfs
    refine ⟨n, fun hcl => ?_⟩
    obtain ⟨L, e, u, b, l⟩ := k hcl
    have eL : s2.log = L := by rw [e]; simp
    refine ⟨L, by rw [← eL], u, b, ?_⟩
    intro z hz hag hzc
    obtain ⟨z1, f1, m1, g1, r1⟩ := l { z with log := [] } hz hag hzc
    have eL1 : z1.log = L := by rw [g1]; simp
    refine ⟨{ z1 with log := z1.log ++ z.log }, ?_, m1, by rw [eL1], r1⟩
    dsimp only
    rw [f1]
    dsimp only
    rw [eL, eL1]
  · cases h

theorem alist_local {P : Program} {call : Caller} (hc : CallLocal call) (ops : Array Oper) : ∀ (l : List Oper) (a : Act), Local (alist P call ops l a) := by
  intro l
  induction l with
  | nil => intro a; exact Local.congr (fun s => rfl) (Local.pure a)
  | cons o rest ih =>
    intro a
    cases hw : Region.wanted o (yielded ops a.tmps) with
    | false => exact Local.congr (fun s => by simp only [alist, hw, Bool.false_eq_true, if_false]) (ih (a.put o.dst undef))
    | true =>
      refine Local.congr (fun s => ?_) (Local.bind (astep_local (P := P) hc a o) ih)
      simp only [alist, hw, if_true]
      cases astep P call a o s with
      | none => rfl
      | some x => rfl

theorem alogs_local {P : Program} {call : Caller} (hc : CallLocal call) (ops : Array Oper) : ∀ (l : List Oper) (a : Act) (ls : List (List Touch)),
    Local (fun s => match alogs P call ops l a s ls with | some (a1, s1, m) => some ((a1, m), s1) | none => none) := by
  intro l
  induction l with
  | nil => intro a ls; exact Local.congr (fun s => rfl) (Local.pure (a, ls))
  | cons o rest ih =>
    intro a ls
    cases hw : Region.wanted o (yielded ops a.tmps) with
    | false => exact Local.congr (fun s => by simp only [alogs, hw, Bool.false_eq_true, if_false]) (ih (a.put o.dst undef) ([] :: ls))
    | true =>
      refine Local.congr (fun s => ?_) (Local.bind (Local.relog (astep_local (P := P) hc a o)) (fun p => ih p.1 (p.2 :: ls)))
      simp only [alogs, hw, if_true]
      cases astep P call a o { s with log := [] } with
      | none => rfl
      | some x => rfl

theorem aregion_local {P : Program} {call : Caller} (hc : CallLocal call) (ops : Array Oper) (draw : Bool) (a : Act) : Local (aregion P call ops draw a) := by
  cases draw with
  | false => exact Local.congr (fun s => by simp [aregion]) (alist_local (P := P) hc ops ops.toList a)
  | true =>
    refine Local.congr (fun s => ?_) (Local.bind (alogs_local (P := P) hc ops ops.toList a []) (fun p => Local.ite (guardsOk ops && noClash (Region.before ops) p.2 (ops.size - 1)) (Local.pure p.1)))
    simp only [aregion, if_true]
    cases alogs P call ops ops.toList a s [] with
    | none => rfl
    | some x => rfl

/-- Code, as a step. -/
def evL (run : Code → Act → St → Option (Exit × Act × St)) (c : Code) (a : Act) (s : St) : Option ((Exit × Act) × St) :=
  match run c a s with
  | some (e, a1, s1) => some ((e, a1), s1)
  | none => none
def RunLocal (run : Code → Act → St → Option (Exit × Act × St)) : Prop := ∀ c a, Local (evL run c a)

theorem acall_local {P : Program} {run : Code → Act → St → Option (Exit × Act × St)} (hr : RunLocal run) : CallLocal (acall P run) := by
  intro f args
  unfold acall
  cases hq : Sig.cal f args.toList with
  | some r => exact Local.pure r
  | none =>
  dsimp only
  cases hf : P.funcs[f]? with
  | none => exact Local.none
  | some fn =>
    dsimp only
    cases hb : fn.body with
    | none => exact Local.none
    | some body =>
      dsimp only
      refine Local.congr (fun s => ?_) (Local.bind (hr body { tmps := args ++ Array.replicate (fn.ntmps - args.size) undef, defers := [] }) (g := fun p s => match p.1 with | .ret => aresults P fn p.2 s | .normal => aresults P fn p.2 s | _ => none) (fun p => ?_))
      · unfold evL
        cases run body { tmps := args ++ Array.replicate (fn.ntmps - args.size) undef, defers := [] } s with
        | none => rfl
        | some x =>
          obtain ⟨e, a1, s1⟩ := x
          cases e <;> rfl
      · obtain ⟨e, a1⟩ := p
        cases e with
        | ret => exact arun_local P _
        | normal => exact arun_local P _
        | _ => exact Local.none

theorem ev_local (P : Program) : ∀ n, RunLocal (ev P n) := by
  intro n
  induction n with
  | zero => intro c a; exact Local.congr (fun s => rfl) Local.none
  | succ n ih =>
    intro c a
    cases c with
    | skip => exact Local.congr (fun s => rfl) (Local.pure (Exit.normal, a))
    | label l => exact Local.congr (fun s => rfl) (Local.pure (Exit.normal, a))
    | ret => exact Local.congr (fun s => rfl) (Local.pure (Exit.ret, a))
    | exit id => exact Local.congr (fun s => rfl) (Local.pure (Exit.exit id, a))
    | seq x y =>
      refine Local.congr (fun s => ?_) (Local.bind (ih x a) (g := fun p s => match p.1 with | .normal => evL (ev P n) y p.2 s | _ => some (p, s)) (fun p => ?_))
      · unfold evL
        simp only [ev]
        cases ev P n x a s with
        | none => rfl
        | some z =>
          obtain ⟨e, a1, s1⟩ := z
          cases e <;> rfl
      · obtain ⟨e, a1⟩ := p
        cases e with
        | normal => exact ih y a1
        | _ => exact Local.pure _
    | cond c x y =>
      cases hok : opdOk c with
      | false => exact Local.congr (fun s => by simp [evL, ev, hok]) Local.none
      | true =>
        cases hv : a.eval c with
        | bool b =>
          refine Local.congr (fun s => ?_) (ih (if b then x else y) a)
          simp only [evL, ev, hok, hv]
        | _ => exact Local.congr (fun s => by simp [evL, ev, hok, hv]) Local.none
    | block id body =>
      refine Local.congr (fun s => ?_) (Local.bind (ih body a) (g := fun p s => match p.1 with | .exit i => some (if i = id then (Exit.normal, p.2) else p, s) | _ => some (p, s)) (fun p => ?_))
      · unfold evL
        simp only [ev]
        cases ev P n body a s with
        | none => rfl
        | some z =>
          obtain ⟨e, a1, s1⟩ := z
          cases e <;> first | rfl | skip
          rename_i i
          dsimp only
          by_cases hi : i = id
          · rw [if_pos hi, if_pos hi]
          · rw [if_neg hi, if_neg hi]
      · obtain ⟨e, a1⟩ := p
        cases e with
        | _ => exact Local.pure _
    | loop body =>
      refine Local.congr (fun s => ?_) (Local.bind (ih body a) (g := fun p s => match p.1 with | .normal => evL (ev P n) (.loop body) p.2 s | _ => some (p, s)) (fun p => ?_))
      · unfold evL
        simp only [ev]
        cases ev P n body a s with
        | none => rfl
        | some z =>
          obtain ⟨e, a1, s1⟩ := z
          cases e <;> rfl
      · obtain ⟨e, a1⟩ := p
        cases e with
        | normal => exact ih (.loop body) a1
        | _ => exact Local.pure _
    | scope body =>
      refine Local.congr (fun s => ?_) (Local.bind (ih body a) (g := fun p s => match p.1 with | .goto _ => none | _ => some (p, s)) (fun p => ?_))
      · unfold evL
        simp only [ev]
        cases ev P n body a s with
        | none => rfl
        | some z =>
          obtain ⟨e, a1, s1⟩ := z
          cases e <;> rfl
      · obtain ⟨e, a1⟩ := p
        cases e with
        | goto _ => exact Local.none
        | _ => exact Local.pure _
    | region id ops draw =>
      refine Local.congr (fun s => ?_) (Local.bind (aregion_local (P := P) (acall_local (P := P) ih) ops draw a) (fun a1 => Local.pure (Exit.normal, a1)))
      unfold evL
      simp only [ev]
      cases aregion P (acall P (ev P n)) ops draw a s with
      | none => rfl
      | some z => rfl
    | _ => exact Local.congr (fun s => by simp [evL, ev]) Local.none

theorem call_local (P : Program) (n : Nat) : CallLocal (acall P (ev P n)) := acall_local (ev_local P n)

theorem Local.next {α : Type} {f : St → Option (α × St)} (hf : Local f) {s s1 : St} {r : α} (h : f s = some (r, s1)) : s.next ≤ s1.next := (hf s r s1 h).1
theorem Win.left {s : St} {n m k : Nat} (h : Win s n k) (hm : m ≤ k) : Win s n m := fun id x y => h id x (by omega)
theorem Local.win {α : Type} {f : St → Option (α × St)} (hf : Local f) {s s1 : St} {r : α} (h : f s = some (r, s1)) {m : Nat} (hw : Win s s.next m) (hm : s1.next ≤ m) : Win s1 s1.next m := by
  obtain ⟨n, k⟩ := hf s r s1 h
  obtain ⟨L, e, u, b, l⟩ := k (hw.left hm)
  intro id x y
  have free : ¬ allW L id := fun ⟨t, ht, hid, _⟩ => b t ht (fun hh => by omega) (by rw [hid]; exact hw id (by omega) y)
  exact shp_none (by rw [(u id free).1, hw id (by omega) y]; rfl)
end Go.Ev
