/- The fast evaluator, part four: code and calls. -/
import Derived.Test.YtkmccgombmogmaaGreatFvC
namespace Go.Ev
open Go.RowKit
set_option linter.unusedVariables false
set_option linter.unusedSimpArgs false
set_option linter.unusedSectionVars false
variable [Sig]

structure Env (n : Nat) (t : TV) (d : List Deferred) (a : Act) : Prop where
  sz : a.tmps.size = n
  lim : n ≤ 4094
  df : a.defers = d
  get : ∀ i, t.get i = a.tmps.getD i undef

theorem Env.eval {n : Nat} {t : TV} {df : List Deferred} {a : Act} (h : Env n t df a) : feval t = a.eval := by
  funext x
  cases x with
  | tmp i => exact h.get i
  | _ => rfl

theorem fput_ok {β : Type} {n : Nat} {t : TV} {df : List Deferred} {a : Act} (h : Env n t df a) (d : Option Tmp) (v : Value) (k : TV → β) : ∃ t1, fput n t d v k = k t1 ∧ Env n t1 df (a.put d v) := by
  cases d with
  | none => exact ⟨t, rfl, h⟩
  | some d =>
    show ∃ t1, @Bool.rec (fun _ => β) (k t) (frcV v (fun v => TV.setK 12 t d v k)) (Nat.blt d n) = k t1 ∧ _
    rw [brec]
    by_cases hd : @LT.lt Nat instLTNat d n
    · have hb : Nat.blt d n = true := Nat.ble_eq_true_of_le hd
      have hl := h.lim
      rw [if_pos hb, frcV_eq, TV.setK_eq]
      refine ⟨_, rfl, by simp [Act.put, h.sz], h.lim, h.df, fun i => ?_⟩
      rw [TV.get_set _ _ _ _ _ (by omega)]
      simp only [Act.put, Array.getD_eq_getD_getElem?]
      rw [Array.getElem?_setIfInBounds]
      by_cases e : d = i
      · subst e
        rw [if_pos rfl, if_pos rfl, if_pos (by rw [h.sz]; exact hd)]
        rfl
      · rw [if_neg (fun e' => e e'.symm), if_neg e, h.get i, Array.getD_eq_getD_getElem?]
    · have hb : ¬ Nat.blt d n = true := fun hh => hd (Nat.le_of_ble_eq_true hh)
      rw [if_neg hb]
      refine ⟨t, rfl, by simp [Act.put, h.sz], h.lim, h.df, fun i => ?_⟩
      rw [h.get i]
      simp only [Act.put, Array.getD_eq_getD_getElem?]
      rw [Array.getElem?_setIfInBounds]
      by_cases e : d = i
      · subst e
        rw [if_pos rfl, if_neg (by rw [h.sz]; exact hd), Array.getElem?_eq_none (by rw [h.sz]; omega)]
      · rw [if_neg e]

def CallRef (call : FCaller) (call' : Caller) : Prop := ∀ c s v s1, call c s = some (v, s1) → call' c s = some (v, s1)

theorem fstep_ok {β : Type} {B : Base} (hB : BOK B) {call : FCaller} {call' : Caller} (hc : CallRef call call') {n : Nat} {t : TV} {df : List Deferred} {a : Act} (h : Env n t df a) {o : Oper} {s : St} {k : TV → St → Option β} {r : β}
    (hr : fstep B call n t o s k = some r) : ∃ t1 a1 s1, astep B.P call' a o s = some (a1, s1) ∧ Env n t1 df a1 ∧ k t1 s1 = some r := by
  have key : ∀ x, fexec B t o s = some x → aexec B.P a o s = some x := by
    intro x hx
    have := fexec_ok hB hx
    rw [h.eval, rexec_eq] at this
    exact this
  unfold fstep at hr
  unfold astep
  split at hr
  · rename_i v s1 he
    rw [key _ he]
    obtain ⟨t1, e1, h1⟩ := fput_ok h o.dst v (fun t1 => k t1 s1)
    rw [e1] at hr
    exact ⟨t1, _, s1, rfl, h1, hr⟩
  · rename_i s1 he
    rw [key _ he]
    obtain ⟨t1, e1, h1⟩ := fput_ok h o.dst undef (fun t1 => k t1 s1)
    rw [e1] at hr
    exact ⟨t1, _, s1, rfl, h1, hr⟩
  · rename_i f args s1 he
    rw [key _ he]
    split at hr
    · rename_i v s2 hcl
      obtain ⟨t1, e1, h1⟩ := fput_ok h o.dst v (fun t1 => k t1 s2)
      rw [e1] at hr
      dsimp only
      rw [hc _ _ _ _ hcl]
      exact ⟨t1, _, s2, rfl, h1, hr⟩
    · cases hr
  · rename_i l fn tmps assign body s1 he
    rw [key _ he]
    split at hr
    · rename_i v s2 hcl
      obtain ⟨t1, e1, h1⟩ := fput_ok h o.dst v (fun t1 => k t1 s2)
      rw [e1] at hr
      dsimp only
      rw [hc _ _ _ _ hcl]
      exact ⟨t1, _, s2, rfl, h1, hr⟩
    · cases hr
  · cases hr

theorem fyield_eq {n : Nat} {t : TV} {df : List Deferred} {a : Act} (h : Env n t df a) (ops : Array Oper) (j : Nat) : fyield ops t j = yielded ops a.tmps j := by
  unfold fyield yielded
  cases (ops[j]?).bind (·.dst) with
  | none => rfl
  | some d =>
    dsimp only [Option.bind]
    rw [h.get d, Array.getD_eq_getD_getElem?]
    cases a.tmps[d]? with
    | none => rfl
    | some v => cases v <;> rfl
theorem fwant_eq {n : Nat} {t : TV} {df : List Deferred} {a : Act} (h : Env n t df a) (ops : Array Oper) (o : Oper) : fwant ops t o = Region.wanted o (yielded ops a.tmps) := by
  unfold fwant Region.wanted
  cases o.guard with
  | none => rfl
  | some g =>
    obtain ⟨j, w⟩ := g
    dsimp only
    rw [fyield_eq h]
    cases yielded ops a.tmps j with
    | none => cases w <;> rfl
    | some b => cases b <;> cases w <;> rfl

theorem flist_ok {B : Base} (hB : BOK B) {call : FCaller} {call' : Caller} (hc : CallRef call call') {n : Nat} (ops : Array Oper) (df : List Deferred) : ∀ (l : List Oper) (t : TV) (a : Act) (s : St) (x : FRes), Env n t df a → flist B call n ops df l t s = some x →
    ∃ a1, alist B.P call' ops l a s = some (a1, x.2.2.2) ∧ Env n x.2.1 x.2.2.1 a1 ∧ x.1 = .normal := by
  intro l
  induction l with
  | nil =>
    intro t a s x h hx
    cases hx
    exact ⟨a, rfl, h, rfl⟩
  | cons o l ih =>
    intro t a s x h hx
    have hx' : @Bool.rec (fun _ => Option FRes) (fput n t o.dst undef (fun t1 => flist B call n ops df l t1 s)) (fstep B call n t o s (fun t1 s1 => flist B call n ops df l t1 s1)) (fwant ops t o) = some x := hx
    rw [brec, fwant_eq h] at hx'
    unfold alist
    split at hx'
    · rename_i hw
      rw [if_pos hw]
      obtain ⟨t1, a1, s1, e1, h1, hk⟩ := fstep_ok hB hc h hx'
      rw [e1]
      exact ih _ _ _ _ h1 hk
    · rename_i hw
      rw [if_neg hw]
      obtain ⟨t1, e1, h1⟩ := fput_ok h o.dst undef (fun t1 => flist B call n ops df l t1 s)
      rw [e1] at hx'
      exact ih _ _ _ _ h1 hx'

theorem flogs_ok {B : Base} (hB : BOK B) {call : FCaller} {call' : Caller} (hc : CallRef call call') {n : Nat} (ops : Array Oper) (df : List Deferred) : ∀ (l : List Oper) (t : TV) (a : Act) (s : St) (ls : List (List Touch)) (x : FRes), Env n t df a → flogs B call n ops df l t s ls = some x →
    ∃ a1 ls1, alogs B.P call' ops l a s ls = some (a1, x.2.2.2, ls1) ∧ (guardsOk ops && noClash (Region.before ops) ls1 (ops.size - 1)) = true ∧ Env n x.2.1 x.2.2.1 a1 ∧ x.1 = .normal := by
  intro l
  induction l with
  | nil =>
    intro t a s ls x h hx
    have hx' : @Bool.rec (fun _ => Option FRes) none (some (.normal, t, df, s)) (guardsOk ops && noClash (Region.before ops) ls (ops.size - 1)) = some x := hx
    obtain ⟨h1, h2⟩ := brec_some hx'
    cases h2
    exact ⟨a, ls, rfl, h1, h, rfl⟩
  | cons o l ih =>
    intro t a s ls x h hx
    obtain ⟨hh, nx, lg⟩ := s
    have hx' : @Bool.rec (fun _ => Option FRes) (fput n t o.dst undef (fun t1 => flogs B call n ops df l t1 ⟨hh, nx, lg⟩ ([] :: ls)))
      (fstep B call n t o ⟨hh, nx, []⟩ (fun t1 s1 => @St.rec (fun _ => Option FRes) (fun h1 nx1 lg1 => flogs B call n ops df l t1 ⟨h1, nx1, List.append lg1 lg⟩ (lg1 :: ls)) s1)) (fwant ops t o) = some x := hx
    rw [brec, fwant_eq h] at hx'
    unfold alogs
    split at hx'
    · rename_i hw
      rw [if_pos hw]
      obtain ⟨t1, a1, s1, e1, h1, hk⟩ := fstep_ok hB hc h hx'
      obtain ⟨h2, nx2, lg2⟩ := s1
      dsimp only
      rw [e1]
      exact ih _ _ _ _ _ h1 hk
    · rename_i hw
      rw [if_neg hw]
      obtain ⟨t1, e1, h1⟩ := fput_ok h o.dst undef (fun t1 => flogs B call n ops df l t1 ⟨hh, nx, lg⟩ ([] :: ls))
      rw [e1] at hx'
      exact ih _ _ _ _ _ h1 hx'

/-! ### Calls -/
theorem fromK_ok {β : Type} : ∀ (l : List Value) (i : Nat) (t : TV) (k : TV → β), i + l.length ≤ 4094 → ∃ t1, fromK l i t k = k t1 ∧ ∀ j, t1.get j = if i ≤ j ∧ j < i + l.length then (l[j - i]?).getD undef else t.get j := by
  intro l
  induction l with
  | nil =>
    intro i t k hl
    refine ⟨t, rfl, fun j => ?_⟩
    rw [if_neg (by simp only [List.length_nil]; omega)]
  | cons v l ih =>
    intro i t k hl
    rw [List.length_cons] at hl
    obtain ⟨t1, e1, h1⟩ := ih (i + 1) (TV.set 12 t i v) k (by omega)
    refine ⟨t1, ?_, fun j => ?_⟩
    · show TV.setK 12 t i v (fun t1 => fromK l (Nat.succ i) t1 k) = _
      rw [TV.setK_eq]
      exact e1
    · rw [h1 j, TV.get_set _ _ _ _ _ (by omega), List.length_cons]
      by_cases hj : j = i
      · subst hj
        rw [if_neg (by omega), if_pos rfl, if_pos (by omega)]
        simp
      · rw [if_neg hj]
        by_cases hr : i + 1 ≤ j ∧ j < i + 1 + l.length
        · rw [if_pos hr, if_pos (by omega), show j - i = (j - (i + 1)) + 1 by omega]
          simp
        · rw [if_neg hr, if_neg (by omega)]

theorem lst_eq (t : TV) : ∀ (k i : Nat), t.lst k i = (List.range' i k).map t.get := by
  intro k
  induction k with
  | zero => intro i; rfl
  | succ k ih =>
    intro i
    show t.get i :: t.lst k (Nat.succ i) = _
    rw [ih, List.range'_succ]
    rfl
theorem act_eq {n : Nat} {t : TV} {df : List Deferred} {a : Act} (h : Env n t df a) : (t.act n).tmps = a.tmps := by
  apply Array.ext'
  show t.lst n 0 = _
  rw [lst_eq]
  apply List.ext_getElem?
  intro i
  rw [List.getElem?_map]
  by_cases hi : i < n
  · rw [List.getElem?_range' hi, Array.getElem?_toList, Array.getElem?_eq_getElem (by rw [h.sz]; exact hi)]
    simp only [Option.map_some, Nat.one_mul, Nat.zero_add]
    rw [h.get i, Array.getD_eq_getD_getElem?, Array.getElem?_eq_getElem (by rw [h.sz]; exact hi)]
    rfl
  · rw [List.getElem?_eq_none (by simp; omega), Array.getElem?_toList, Array.getElem?_eq_none (by rw [h.sz]; omega)]
    rfl

theorem fresL_ok {P : Program} {n : Nat} {t : TV} {df : List Deferred} {a : Act} (h : Env n t df a) (s : St) (f : ResultVar → Sem Value) (hf : ∀ i, f (.tmp i) = pure (a.tmps.getD i undef)) : ∀ (l : List ResultVar) (vs : List Value), fresL t l = some vs →
    arun P (l.mapM f) s = some (vs, s) := by
  intro l
  induction l with
  | nil =>
    intro vs hv
    cases hv
    rfl
  | cons r l ih =>
    intro vs hv
    have hv' : fresS t r (fresL t l) = some vs := hv
    unfold fresS at hv'
    rw [List.mapM_cons, arun_bnd]
    split at hv'
    · rename_i i ws hl
      cases hv'
      rw [hf]
      show arun P _ s = _
      rw [arun_bnd, ih ws hl, h.get i]
      rfl
    · cases hv'
theorem arun_map {α β : Type} (P : Program) (f : α → β) (m : Sem α) (s : St) : arun P (Functor.map f m) s = (arun P m s).bind fun (a, s1) => some (f a, s1) := by
  show arun P (m >>= fun a => pure (f a)) s = _
  rw [arun_bnd]
  rfl

theorem fres_ok {P : Program} {fn : Func} {t : TV} {df : List Deferred} {a : Act} (h : Env fn.ntmps t df a) {s : St} {r : Value × St} (hr : fres P fn t s = some r) : aresults P fn a s = some r := by
  have multi : ∀ vs, fresL t fn.results.toList = some vs → aresults P fn a s = some (if h : vs.length = 1 then vs[0] else .tuple ⟨vs⟩, s) := by
    intro vs hv
    unfold aresults results
    rw [arun_bnd, Array.mapM_eq_mapM_toList, arun_map, fresL_ok h s _ (fun i => rfl) _ _ hv]
    rfl
  unfold fres at hr
  split at hr
  · rename_i i hl
    cases hr
    have := multi [t.get i] (by rw [hl]; rfl)
    rw [this]
    rfl
  · rename_i hl
    cases hr
    have := multi [] (by rw [hl]; rfl)
    rw [this]
    rfl
  · rename_i x y l hl
    split at hr
    · rename_i vs hv
      cases hr
      have := multi vs (by rw [hl]; exact hv)
      rw [this, dif_neg]
      intro hlen
      have hlens : ∀ (l : List ResultVar) (vs : List Value), fresL t l = some vs → vs.length = l.length := by
        intro l
        induction l with
        | nil => intro vs hv; cases hv; rfl
        | cons r l ih =>
          intro vs hv
          have hv' : fresS t r (fresL t l) = some vs := hv
          unfold fresS at hv'
          split at hv'
          · rename_i i ws hl
            cases hv'
            rw [List.length_cons, List.length_cons, ih ws hl]
          · cases hv'
      have := hlens _ _ hv
      simp at this
      omega
    · rw [act_eq h] at hr
      exact hr
  · rw [act_eq h] at hr
    exact hr

theorem lstK_eq {β : Type} (t : TV) : ∀ (k i : Nat) (f : List Value → β), t.lstK k i f = f (t.lst k i) := by
  intro k
  induction k with
  | zero => intro i f; rfl
  | succ k ih =>
    intro i f
    show frcV (t.get i) (fun v => t.lstK k (Nat.succ i) (fun l => f (v :: l))) = f (t.get i :: t.lst k (Nat.succ i))
    rw [frcV_eq, ih]

/-- What runs code quickly does what the other does. -/
def RunRef (run : FRun) (run' : Runner) : Prop := ∀ rd n c t d a s ex t1 d1 s1, Env n t d a → run rd n c t d s = some (ex, t1, d1, s1) → ∃ a1, run' rd c a s = some (ex, a1, s1) ∧ Env n t1 d1 a1

theorem start_env {args : List Value} {n : Nat} (h1 : args.length ≤ n) (h2 : n ≤ 4094) {β : Type} (k : TV → β) : ∃ t, fromK args 0 .leaf k = k t ∧ Env n t [] { tmps := ⟨args⟩ ++ Array.replicate (n - args.length) undef, defers := [] } := by
  obtain ⟨t0, e0, g0⟩ := fromK_ok args 0 .leaf k (by omega)
  refine ⟨t0, e0, by simp; omega, h2, rfl, fun i => ?_⟩
  rw [g0 i, Array.getD_eq_getD_getElem?]
  by_cases hi : i < args.length
  · rw [if_pos (by omega), Array.getElem?_append_left (by simpa using hi), Nat.sub_zero]
    simp
  · rw [if_neg (by omega), Array.getElem?_append_right (by simpa using hi), Array.getElem?_replicate]
    split <;> rfl

theorem fend_ok {P : Program} {fn : Func} {t : TV} {d : List Deferred} {a : Act} (h : Env fn.ntmps t d a) {s : St} {r : Value × St} (hr : fend P fn t d s = some r) {e : Exit} (he : atEnd e = true) : aleave P fn e a s = some r := by
  unfold fend at hr
  unfold aleave
  rw [he, h.df]
  dsimp only
  split at hr
  · rename_i u s1 hm
    rw [hm]
    exact fres_ok h hr
  · cases hr

theorem fcallF_ok {B : Base} (hB : BOK B) {run : FRun} {run' : Runner} (hr : RunRef run run') (f : FuncId) (args : Array Value) (s : St) (v : Value) (s1 : St) (h : fcallF B run f args.toList s = some (v, s1)) : acallF B.P run' f args s = some (v, s1) := by
  unfold fcallF at h
  unfold acallF
  split at h
  · rename_i r hq
    rw [hq]
    exact h
  · rename_i hq
    rw [hq]
    dsimp only
    split at h
    case h_2 => cases h
    rename_i fn hf
    split at h
    · rename_i body hb
      obtain ⟨h1, h2⟩ := brec_some h
      rw [Bool.and_eq_true] at h1
      have hl1 : args.toList.length ≤ fn.ntmps := Nat.le_of_ble_eq_true h1.1
      have hl2 : fn.ntmps ≤ 4094 := Nat.le_of_ble_eq_true h1.2
      obtain ⟨t0, e0, env⟩ := start_env hl1 hl2 (fun t => fret B.P fn (run none fn.ntmps body t [] s))
      rw [e0] at h2
      rw [hB.F _ _ hf]
      dsimp only
      rw [hb]
      dsimp only
      have env' : Env fn.ntmps t0 [] { tmps := args ++ Array.replicate (fn.ntmps - args.size) undef, defers := [] } := by
        have e : (⟨args.toList⟩ : Array Value) = args := rfl
        rw [e, Array.length_toList] at env
        exact env
      unfold fret at h2
      split at h2
      · rename_i t d s2 hrun
        obtain ⟨a1, q1, q2⟩ := hr _ _ _ _ _ _ _ _ _ _ _ env' hrun
        rw [q1]
        exact fend_ok q2 h2 rfl
      · rename_i t d s2 hrun
        obtain ⟨a1, q1, q2⟩ := hr _ _ _ _ _ _ _ _ _ _ _ env' hrun
        rw [q1]
        exact fend_ok q2 h2 rfl
      · cases h2
    · cases h

theorem fcallR_ok {B : Base} {run : FRun} {run' : Runner} (hr : RunRef run run') (l : Nat) (tmps : Array Value) (assign body : Code) (s : St) (v : Value) (s1 : St) (h : fcallR B run l tmps.toList assign body s = some (v, s1)) : acallR B.P run' l tmps assign body s = some (v, s1) := by
  unfold fcallR at h
  rw [frcN_eq] at h
  obtain ⟨h1, h2⟩ := brec_some h
  have hl : tmps.toList.length ≤ 4094 := Nat.le_of_ble_eq_true h1
  obtain ⟨t0, e0, env⟩ := start_env (Nat.le_refl _) hl (fun t => frnd B run l tmps.toList.length body (run (some l) tmps.toList.length assign t [] s))
  rw [e0] at h2
  have env' : Env tmps.toList.length t0 [] { tmps := tmps, defers := [] } := by
    have e : (⟨tmps.toList⟩ : Array Value) ++ Array.replicate (tmps.toList.length - tmps.toList.length) undef = tmps := by
      apply Array.ext'
      simp
    rw [e] at env
    exact env
  unfold acallR
  unfold frnd at h2
  split at h2
  · rename_i t d s2 hrun
    obtain ⟨a1, q1, q2⟩ := hr _ _ _ _ _ _ _ _ _ _ _ env' hrun
    rw [q1]
    simp only [isNormal, if_true]
    split at h2
    · rename_i u s3 hb
      rw [hb]
      dsimp only
      unfold frend at h2
      split at h2
      · rename_i e t3 d3 s4 hrun2
        obtain ⟨a3, q3, q4⟩ := hr _ _ _ _ _ _ _ _ _ _ _ q2 hrun2
        rw [q3]
        exact h2
      · cases h2
    · cases h2
  · cases h2

theorem fcall_ok {B : Base} (hB : BOK B) {run : FRun} {run' : Runner} (hr : RunRef run run') : CallRef (fcall B run) (acall B.P run') := by
  intro c s v s1 h
  cases c with
  | fn f args => exact fcallF_ok hB hr f args s v s1 h
  | rnd l tmps assign body => exact fcallR_ok hr l tmps assign body s v s1 h

theorem floopCall_ok {B : Base} (hB : BOK B) {n : Nat} {t : TV} {d : List Deferred} {a : Act} (h : Env n t d a) {g : Operand} {l : Nat} {f : FuncId} {args : List Value} (hr : floopCall B t g l = some (f, args)) : aloopCall B.P a g l = some (f, ⟨args⟩) := by
  unfold floopCall at hr
  rw [h.eval] at hr
  unfold aloopCall
  split at hr
  · rename_i f0 first captured hg
    obtain ⟨h1, h2⟩ := brec_some hr
    rw [Bool.and_eq_true] at h1
    cases h2
    rw [if_pos h1.1, hg]
    dsimp only
    rw [if_pos (fnF_ok hB h1.2)]
    congr 2
    apply Array.ext'
    simp
  · cases hr

theorem frange_ok {B : Base} (hB : BOK B) {run : FRun} {run' : Runner} (hr : RunRef run run') (rd : Option Nat) (n : Nat) (g : Operand) (ps : Array Tmp) (assign body : Code) (t : TV) (d : List Deferred) (a : Act) (s : St) (ex : Exit) (t1 : TV) (d1 : List Deferred) (s1 : St) (h : Env n t d a)
    (hx : frange B run rd n g ps assign body t d s = some (ex, t1, d1, s1)) : ∃ a1, arange B.P run' rd g ps assign body a s = some (ex, a1, s1) ∧ Env n t1 d1 a1 := by
  unfold frange at hx
  rw [lstK_eq] at hx
  have e : (⟨t.lst n 0⟩ : Array Value) = a.tmps := act_eq h
  rw [e] at hx
  unfold arange
  split at hx
  · rename_i l mark s2 h1
    rw [h1]
    dsimp only
    split at hx
    · rename_i f args h2
      rw [floopCall_ok hB h h2]
      dsimp only
      unfold frangeE at hx
      split at hx
      · rename_i v s3 h3
        rw [fcallF_ok hB hr f ⟨args⟩ s2 v s3 h3]
        dsimp only
        split at hx
        · rename_i j s4 h4
          rw [h4]
          obtain ⟨h5, h6⟩ := brec_some hx
          dsimp only
          rw [if_pos h5]
          have env : Env n t (List.append mark d) { a with defers := mark ++ a.defers } := ⟨h.sz, h.lim, by rw [h.df]; rfl, h.get⟩
          unfold fjump at h6
          unfold ajump
          split at h6
          · cases h6
            exact ⟨_, rfl, env⟩
          · exact hr _ _ _ _ _ _ _ _ _ _ _ env h6
        · cases hx
      · cases hx
    · cases hx
  · cases hx

theorem fev_ok {B : Base} (hB : BOK B) : ∀ (m : Nat), RunRef (fev B m) (ev B.P m) := by
  intro m
  induction m with
  | zero => intro rd n c t d a s ex t1 d1 s1 h hx; cases hx
  | succ m ih =>
    intro rd n c t d a s ex t1 d1 s1 h hx
    have hc : CallRef (fcall B (fev B m)) (acall B.P (ev B.P m)) := fcall_ok hB ih
    have hx' : fcode B (fev B m) rd n c t d s = some (ex, t1, d1, s1) := hx
    have seq : ∀ (x y : Code), fseq (fev B m rd n x t d s) (fun t1 d1 s1 => fev B m rd n y t1 d1 s1) = some (ex, t1, d1, s1) →
        ∃ a1, (match ev B.P m rd x a s with | some (.normal, a1, s1) => ev B.P m rd y a1 s1 | r => r) = some (ex, a1, s1) ∧ Env n t1 d1 a1 := by
      intro x y hs
      unfold fseq at hs
      split at hs
      · rename_i t2 d2 s2 he
        obtain ⟨a2, q1, q2⟩ := ih _ _ _ _ _ _ _ _ _ _ _ h he
        rw [q1]
        exact ih _ _ _ _ _ _ _ _ _ _ _ q2 hs
      · rename_i e t2 d2 s2 hne he
        cases hs
        obtain ⟨a2, q1, q2⟩ := ih _ _ _ _ _ _ _ _ _ _ _ h he
        rw [q1]
        refine ⟨a2, ?_, q2⟩
        cases ex with
        | normal => exact (hne rfl).elim
        | _ => rfl
      · cases hs
    unfold fcode at hx'
    unfold ev
    split at hx'
    · cases hx'; exact ⟨a, rfl, h⟩
    · cases hx'; exact ⟨a, rfl, h⟩
    · cases hx'; exact ⟨a, rfl, h⟩
    · cases hx'; exact ⟨a, rfl, h⟩
    · cases hx'; exact ⟨a, rfl, h⟩
    · exact seq _ _ hx'
    · rename_i c x y
      obtain ⟨h1, h2⟩ := brec_some hx'
      unfold fcond at h2
      split at h2
      · rename_i b hb
        rw [h.eval] at hb
        dsimp only
        rw [h1, hb]
        dsimp only
        cases b with
        | false => exact ih _ _ _ _ _ _ _ _ _ _ _ h h2
        | true => exact ih _ _ _ _ _ _ _ _ _ _ _ h h2
      · cases h2
    · rename_i id body
      unfold fblock at hx'
      split at hx'
      · rename_i i t2 d2 s2 he
        obtain ⟨a2, q1, q2⟩ := ih _ _ _ _ _ _ _ _ _ _ _ h he
        dsimp only
        rw [q1]
        dsimp only
        rw [brec] at hx'
        split at hx'
        · rename_i hi
          cases hx'
          rw [if_pos (Nat.eq_of_beq_eq_true hi)]
          exact ⟨a2, rfl, q2⟩
        · rename_i hi
          cases hx'
          rw [if_neg (fun e => hi (by rw [e]; exact Nat.beq_refl _))]
          exact ⟨a2, rfl, q2⟩
      · rename_i e t2 d2 s2 hne he
        cases hx'
        obtain ⟨a2, q1, q2⟩ := ih _ _ _ _ _ _ _ _ _ _ _ h he
        dsimp only
        rw [q1]
        refine ⟨a2, ?_, q2⟩
        cases ex with
        | exit i => exact (hne i rfl).elim
        | _ => rfl
      · cases hx'
    · exact seq _ _ hx'
    · rename_i body
      split at hx'
      · unfold fscope at hx'
        split at hx'
        · rename_i l t2 d2 s2 he
          obtain ⟨a2, q1, q2⟩ := ih _ _ _ _ _ _ _ _ _ _ _ h he
          dsimp only
          rw [q1]
          unfold ascope
          split at hx'
          case h_2 => cases hx'
          rename_i rest hf
          simp only [hf]
          unfold fscopeJ at hx'
          split at hx'
          · cases hx'
          · rename_i e t3 d3 s3 hne he3
            cases hx'
            obtain ⟨a3, q3, q4⟩ := ih _ _ _ _ _ _ _ _ _ _ _ q2 he3
            rw [q3]
            refine ⟨a3, ?_, q4⟩
            cases ex with
            | goto i => exact (hne i rfl).elim
            | _ => rfl
          · cases hx'
        · rename_i e t2 d2 s2 hne he
          cases hx'
          obtain ⟨a2, q1, q2⟩ := ih _ _ _ _ _ _ _ _ _ _ _ h he
          dsimp only
          rw [q1]
          refine ⟨a2, ?_, q2⟩
          cases ex with
          | goto i => exact (hne i rfl).elim
          | _ => rfl
        · cases hx'
      · cases hx'
    · rename_i g ps assign body
      exact frange_ok hB ih _ _ _ _ _ _ _ _ _ _ _ _ _ _ h hx'
    · rename_i id ops draw
      dsimp only
      cases draw with
      | false =>
        obtain ⟨a1, q1, q2, q3⟩ := flist_ok hB hc ops _ _ _ _ _ _ h hx'
        dsimp only at q1 q2 q3
        subst q3
        have : aregion B.P (acall B.P (ev B.P m)) ops false a s = some (a1, s1) := by
          simp only [aregion, Bool.false_eq_true, if_false]
          exact q1
        rw [this]
        exact ⟨a1, rfl, q2⟩
      | true =>
        obtain ⟨a1, ls1, q1, q4, q2, q3⟩ := flogs_ok hB hc ops _ _ _ _ _ _ _ h hx'
        dsimp only at q1 q2 q3
        subst q3
        have : aregion B.P (acall B.P (ev B.P m)) ops true a s = some (a1, s1) := by
          simp only [aregion, if_true]
          rw [q1]
          dsimp only
          rw [if_pos q4]
        rw [this]
        exact ⟨a1, rfl, q2⟩
    · cases hx'

/-- What the fast evaluator finds of a call with plain arguments holds in the model, at every world. -/
theorem fast_bool {P : Program} (hP : P.check = .ok ()) (hcal : CalOK P) (hm : P.follows .mixedOrders = true) {n : Nat} {f : FuncId} {args args' : Array Value} (h : withB P (fun B => isTrue (fcallF B (fev B n) f args.toList s0)) = true) (ha : ARel (fun _ => none) args args') (w : World) :
    Calls P f args' w fun e w1 => e = .returned (.bool true) ∧ Below w.heap.size w w1 := by
  obtain ⟨B, hB, hBP, e⟩ := withB_ok P (fun B => isTrue (fcallF B (fev B n) f args.toList s0))
  rw [e] at h
  subst hBP
  refine closed_bool hP hcal hm (n := n) (f := f) (args := args) ?_ ha w
  unfold isTrue at h
  split at h
  · rename_i b s1 hc
    have := fcallF_ok hB (fev_ok hB n) f args s0 _ _ hc
    show isTrue (acallF B.P (ev B.P n) f args s0) = true
    rw [this]
    exact h
  · cases h
end Go.Ev
