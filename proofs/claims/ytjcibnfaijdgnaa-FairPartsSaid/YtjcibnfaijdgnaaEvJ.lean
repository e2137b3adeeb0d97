/- The evaluator, part ten: one operation is sound. -/
import Derived.Test.YtjcibnfaijdgnaaEvI
namespace Go.Ev
open Go.RowKit
set_option linter.unusedVariables false
set_option linter.unusedSimpArgs false
set_option linter.unusedSectionVars false
variable [Sig]

theorem evs_rel {ι : Ren} {a A : Act} (h : ActRel ι a A) {xs : Array Operand} (hx : ∀ x ∈ xs.toList, opdOk x = true) : ARel ι (evs a xs) (xs.map A.eval) := by
  refine ⟨by simp [evs], fun i v v' h1 h2 => ?_⟩
  unfold evs at h1
  rw [Array.getElem?_map, Option.map_eq_some_iff] at h1 h2
  obtain ⟨x, x1, rfl⟩ := h1
  obtain ⟨y, y1, rfl⟩ := h2
  rw [x1] at y1
  cases y1
  exact eval_rel h x (hx x (by rw [Array.mem_toList_iff]; exact Array.mem_of_getElem? x1))
theorem evp_rel {ι : Ren} {a A : Act} (h : ActRel ι a A) {ps : Array (Nat × Operand)} (hx : allOk (ps.toList.map (·.2)) = true) : PRel ι (evp a ps).toList (ps.map fun (i, x) => (i, A.eval x)).toList := by
  refine ⟨by simp [evp], fun i v v' h1 h2 => ?_⟩
  unfold evp at h1
  rw [Array.getElem?_toList, Array.getElem?_map, Option.map_eq_some_iff] at h1 h2
  obtain ⟨x, x1, rfl⟩ := h1
  obtain ⟨y, y1, rfl⟩ := h2
  rw [x1] at y1
  cases y1
  refine ⟨rfl, eval_rel h x.2 ?_⟩
  unfold allOk at hx
  rw [List.all_eq_true] at hx
  exact hx x.2 (List.mem_map.2 ⟨x, by rw [Array.mem_toList_iff]; exact Array.mem_of_getElem? x1, rfl⟩)
theorem ov_rel {ι : Ren} {a A : Act} (h : ActRel ι a A) {x : Option Operand} (hx : allOk x.toList = true) : OVRel ι (x.map a.eval) (x.map A.eval) := by
  cases x with
  | none => trivial
  | some x => exact eval_rel h x (by simpa [allOk] using hx)

theorem aFlat_sound {P : Program} {base : Nat → Prop} {ι : Ren} {a A : Act} {o : Oper} {s s1 : St} {w : World} {n : Next} (hA : ActRel ι a A) (hr : Rep P base ι s.look w) (h : aFlat P a o s = some (n, s1)) : OpS P base ι s s1 w n (execOp A.eval o) := by
  unfold aFlat at h
  split at h
  · rename_i hc
    simp only [Bool.and_eq_true, List.all_eq_true] at hc
    obtain ⟨hf, hops⟩ := hc
    split at h
    · rename_i v hq
      split at h
      · rename_i hv
        cases h
        have hcong : execOp A.eval o = execOp a.eval o := by
          refine execOp_congr o ?_ ?_
          · intro cs b e
            rw [e] at hf
            cases hf
          · intro x hx
            have := hops x (by rw [Array.mem_toList_iff]; exact hx)
            exact flat_eq 5 _ _ this.2 (eval_rel hA x this.1)
        rw [hcong]
        exact OpS.of_pure hr (qrun_run _ _ hq w) (flat_refl ι 5 v hv)
      · cases h
    · cases h
  · cases h

theorem ok2 {x y : Operand} (h : allOk [x, y] = true) : opdOk x = true ∧ opdOk y = true := by simpa [allOk] using h
theorem ok3 {x y z : Operand} (h : allOk [x, y, z] = true) : opdOk x = true ∧ opdOk y = true ∧ opdOk z = true := by simpa [allOk] using h

theorem OpS.of_st {P : Program} {base : Nat → Prop} {ι : Ren} {s s1 : St} {w w1 : World} {n n' : Next} {m' : Sem Next} (h : m'.run P w = .ok n' w1) (hr : Rep P base ι s1.look w1) (hn : NRel P ι n n') (hb : Out base w w1) : OpS P base ι s s1 w n m' :=
  ⟨ι, n', w1, h, hr, fun _ _ => rfl, hn, hb⟩

theorem ops_args (c : Call) (h : allOk c.operands.toList = true) : ∀ x ∈ c.args.toList, opdOk x = true := by
  intro x hx
  unfold allOk at h
  rw [List.all_eq_true] at h
  refine h x ?_
  unfold Call.operands
  rw [Array.toList_append]
  exact List.mem_append_right _ hx

theorem aCall_sound {P : Program} {base : Nat → Prop} {ι : Ren} {a A : Act} {o : Oper} {c : Call} {s s1 : St} {w : World} {n : Next} (ho : o.op = .call c) (hA : ActRel ι a A) (hr : Rep P base ι s.look w) (h : aCall P a c o.type s = some (n, s1))
    (hfr : ∀ id, 4 * s.next ≤ id → id < 4 * s1.next → ι id = none) : OpS P base ι s s1 w n (execOp A.eval o) := by
  have hex : execOp A.eval o = (do let d ← resolve A.eval c o.type; invoke d.target d.args) := by
    unfold execOp
    rw [ho]
  rw [hex]
  unfold aCall at h
  split at h
  · rename_i hok
    have hargs := evs_rel hA (ops_args c hok)
    split at h
    · rename_i f hcal
      have hfo : opdOk f = true := by
        unfold allOk at hok
        rw [List.all_eq_true] at hok
        exact hok f (by simp [Call.operands, hcal])
      have hv := eval_rel hA f hfo
      split at h
      · rename_i g first captured hg
        split at h
        · rename_i hfn
          cases h
          rw [hg] at hv
          generalize hAf : A.eval f = Af at hv
          cases hv with
          | func _ _ f' _ c' hy hf hc h1 h2 =>
            refine OpS.of_pure hr (n' := .enter g ((f' ++ c.args.map A.eval) ++ c')) ?_ ⟨rfl, (ARel.append (ARel.append ⟨hf, h1⟩ hargs) ⟨hc, h2⟩)⟩
            have hres : resolve A.eval c o.type = (Deferred.ofValue (A.eval f) (c.args.map A.eval)) := by
              unfold resolve
              rw [hcal]
            rw [hres, hAf]
            exact run_callFunc hfn _ w
        · cases h
      · rename_i l first captured hg
        split at h
        · rename_i he
          rw [Bool.and_eq_true, Array.isEmpty_iff, Array.isEmpty_iff] at he
          obtain ⟨rfl, rfl⟩ := he
          rw [hg] at hv
          generalize hAf : A.eval f = Af at hv
          have hres : resolve A.eval c o.type = (Deferred.ofValue (A.eval f) (c.args.map A.eval)) := by
            unfold resolve
            rw [hcal]
          have hb : ∃ b, Af = .func (.yield b) #[] #[] ∧ ι l = some b := by
            cases hv with
            | yield _ b hb => exact ⟨b, rfl, hb⟩
            | func _ _ f' _ c' hy hf hc h1 h2 => exact (hy l rfl).elim
          obtain ⟨b, rfl, hb⟩ := hb
          have hd : (do let d ← resolve A.eval c o.type; invoke d.target d.args) = Instr.yield b (c.args.map A.eval) := by
            rw [hres, hAf]
            show Instr.yield b (#[] ++ c.args.map A.eval) = _
            rw [Array.empty_append]
          rw [hd]
          obtain ⟨κ, n', w1, r1, r2, r3, r4, r5⟩ := sim_yield (P := P) (base := base) hb hargs s w n s1 hr h hfr
          exact ⟨κ, n', w1, r1, r2, r3, r4, r5⟩
        · cases h
      · cases h
    · rename_i r name hcal
      have hfo : opdOk r = true := by
        unfold allOk at hok
        rw [List.all_eq_true] at hok
        exact hok r (by simp [Call.operands, hcal])
      have hv := eval_rel hA r hfo
      split at h
      · rename_i t v hg
        split at h
        · rename_i f hm
          split at h
          · rename_i hfn
            cases h
            rw [hg] at hv
            generalize hAf : A.eval r = Af at hv
            cases hv with
            | iface _ _ v' hvv =>
              have hone : ARel ι #[v] #[v'] := by
                refine ⟨rfl, fun i x x' h1 h2 => ?_⟩
                match i with
                | 0 => simp at h1 h2; subst h1 h2; exact hvv
                | i + 1 => simp at h1
              refine OpS.of_pure hr (n' := .enter f (#[v'] ++ c.args.map A.eval)) ?_ ⟨rfl, hone.append hargs⟩
              have hm' : aMethod P t v' name = some f := hm
              have hres : resolve A.eval c o.type = pure { target := .fn (.method name) #[], args := #[A.eval r] ++ c.args.map A.eval } := by
                unfold resolve
                rw [hcal]
              rw [hres, hAf]
              show (invoke (.fn (.method name) #[]) (#[.iface t v'] ++ c.args.map A.eval)).run P w = _
              have hget : (#[Value.iface t v'] ++ c.args.map A.eval)[0]? = some (.iface t v') := by rw [Array.getElem?_append_left (by simp)]; rfl
              have hext : (#[Value.iface t v'] ++ c.args.map A.eval).extract 1 (#[Value.iface t v'] ++ c.args.map A.eval).size = c.args.map A.eval := by
                apply Array.ext'
                simp
                rw [List.take_of_length_le (by simp)]
              unfold invoke
              simp only [hget, hext]
              unfold callMethod
              show ((do let p ← Go.program; let (f, receiver) ← method (p.types.size + Made.depth) t v' name; callFunc f (#[receiver] ++ c.args.map A.eval)) : Sem Next).run P w = _
              show ((do let (f, receiver) ← method (P.types.size + Made.depth) t v' name; callFunc f (#[receiver] ++ c.args.map A.eval)) : Sem Next).run P w = _
              have hpos : 0 < Made.depth := by decide
              obtain ⟨k, hk⟩ : ∃ k, P.types.size + Made.depth = k + 1 := ⟨P.types.size + (Made.depth - 1), by omega⟩
              rw [hk, Sem.run_bind, run_method hm']
              exact run_callFunc hfn _ w
          · cases h
        · cases h
      · cases h
    · rename_i b hcal
      obtain ⟨cs, hres⟩ : ∃ cs, resolve A.eval c o.type = pure { target := .builtin b c.argTypes o.type cs, args := c.args.map A.eval } := by
        unfold resolve
        rw [hcal]
        exact ⟨_, rfl⟩
      have hx2 : (do let d ← resolve A.eval c o.type; invoke d.target d.args) = builtin b c.argTypes o.type cs (c.args.map A.eval) := by
        rw [hres]
        rfl
      rw [hx2]
      clear hx2 hres hex
      have key1 : ∀ x t, c.args.toList = [x] → c.argTypes.toList = [t] → c.args.map A.eval = #[A.eval x] ∧ c.argTypes = #[t] ∧ opdOk x = true := by
        intro x t h1 h2
        have e1 : c.args = #[x] := Array.ext' h1
        refine ⟨by rw [e1]; simp, Array.ext' h2, ops_args c hok x (by rw [h1]; simp)⟩
      have key2 : ∀ x y t u, c.args.toList = [x, y] → c.argTypes.toList = [t, u] → c.args.map A.eval = #[A.eval x, A.eval y] ∧ c.argTypes = #[t, u] ∧ opdOk x = true ∧ opdOk y = true := by
        intro x y t u h1 h2
        have e1 : c.args = #[x, y] := Array.ext' h1
        refine ⟨by rw [e1]; simp, Array.ext' h2, ops_args c hok x (by rw [h1]; simp), ops_args c hok y (by rw [h1]; simp)⟩
      split at h
      · rename_i x t h1 h2
        obtain ⟨e1, e2, e3⟩ := key1 x t h1 h2
        rw [e1, e2]
        have hb : builtin .len #[t] o.type cs #[A.eval x] = (do pure (Next.value (← Builtin.len_ #[t] o.type #[A.eval x]))) := rfl
        rw [hb]
        exact OpS.of_val (sim_len t o.type (eval_rel hA x e3)) hr h hfr
      · rename_i x t h1 h2
        obtain ⟨e1, e2, e3⟩ := key1 x t h1 h2
        rw [e1, e2]
        have hb : builtin .cap #[t] o.type cs #[A.eval x] = (do pure (Next.value (← Builtin.cap_ #[t] o.type #[A.eval x]))) := rfl
        rw [hb]
        split at h
        · rename_i hcap
          exact OpS.of_val (sim_cap t o.type (eval_rel hA x e3) hcap) hr h hfr
        · cases h
      · rename_i x y t u h1 h2
        obtain ⟨e1, e2, e3, e4⟩ := key2 x y t u h1 h2
        rw [e1, e2]
        have hb : builtin .append #[t, u] o.type cs #[A.eval x, A.eval y] = (do pure (Next.value (← Builtin.append_ #[t, u] o.type #[A.eval x, A.eval y]))) := rfl
        rw [hb]
        split at h
        · rename_i hin
          exact OpS.of_val (sim_appendIn t u o.type (eval_rel hA x e3) (eval_rel hA y e4) hin) hr h hfr
        · unfold sv at h
          rw [Option.map_eq_some_iff] at h
          obtain ⟨⟨v, s2⟩, g1, g2⟩ := h
          cases g2
          obtain ⟨κ, v', w1, r1, r2, r3, r4, r5⟩ := aAppend_sound (ty := o.type) hr (eval_rel hA x e3) (eval_rel hA y e4) g1 hfr
          exact ⟨κ, .value v', w1, by rw [Sem.run_bind, r1]; rfl, r2, r3, r4, r5⟩
      · rename_i x y t u h1 h2
        obtain ⟨e1, e2, e3, e4⟩ := key2 x y t u h1 h2
        rw [e1, e2]
        have hb : builtin .copy #[t, u] o.type cs #[A.eval x, A.eval y] = (do pure (Next.value (← Builtin.copy_ #[t, u] o.type #[A.eval x, A.eval y]))) := rfl
        rw [hb]
        exact OpS.of_val (sim_copy t u o.type (eval_rel hA x e3) (eval_rel hA y e4)) hr h hfr
      · rename_i x y t u h1 h2
        obtain ⟨e1, e2, e3, e4⟩ := key2 x y t u h1 h2
        rw [e1, e2]
        rw [Option.map_eq_some_iff] at h
        obtain ⟨s2, g1, g2⟩ := h
        cases g2
        obtain ⟨w1, r1, r2, r3, r4⟩ := aDelete_sound (ty := o.type) (kk := u) hr (eval_rel hA x e3) (eval_rel hA y e4) g1
        have hb : builtin .delete #[t, u] o.type cs #[A.eval x, A.eval y] = (do pure (Next.value (← Builtin.delete_ #[t, u] o.type #[A.eval x, A.eval y]))) := rfl
        rw [hb]
        exact OpS.of_st (n' := .value (.tuple #[])) (by rw [Sem.run_bind, r1]; rfl) r2 (undef_rel ι) r3
      · cases h
  · cases h

theorem aexec_sound {P : Program} {base : Nat → Prop} {ι : Ren} {a A : Act} {o : Oper} {s s1 : St} {w : World} {n : Next} (hA : ActRel ι a A) (hr : Rep P base ι s.look w) (h : aexec P a o s = some (n, s1))
    (hfr : ∀ id, 4 * s.next ≤ id → id < 4 * s1.next → ι id = none) : OpS P base ι s s1 w n (execOp A.eval o) := by
  obtain ⟨dst, op, ty, pos, after, guard⟩ := o
  cases op with
  | move x =>
    simp only [aexec] at h
    split at h
    · rename_i hx; cases h; exact OpS.of_pure hr (n' := .value (A.eval x)) rfl (eval_rel hA x hx)
    · cases h
  | assign x =>
    simp only [aexec] at h
    split at h
    · rename_i hx; cases h; exact OpS.of_pure hr (n' := .value (A.eval x)) rfl (eval_rel hA x hx)
    · cases h
  | pick c x y =>
    simp only [aexec] at h
    split at h
    · rename_i hx
      obtain ⟨h1, h2, h3⟩ := ok3 hx
      have hc := eval_rel hA c h1
      split at h
      · rename_i b hb
        cases h
        rw [hb] at hc
        generalize hAc : A.eval c = Ac at hc
        cases hc
        refine OpS.of_pure hr (n' := .value (if b then A.eval x else A.eval y)) ?_ ?_
        · show (do pure (Next.value (if ← asBool (A.eval c) then A.eval x else A.eval y)) : Sem Next).run P w = _
          rw [hAc]
          rfl
        · cases b
          · exact eval_rel hA y h3
          · exact eval_rel hA x h2
      · cases h
    · cases h
  | alloc t =>
    simp only [aexec] at h
    split at h
    · rename_i hz; exact OpS.of_val (sim_alloc t hz) hr h hfr
    · cases h
  | box t x =>
    simp only [aexec] at h
    split at h
    · rename_i hx; exact OpS.of_val (sim_box t (eval_rel hA x hx)) hr h hfr
    · cases h
  | build t ps =>
    simp only [aexec] at h
    split at h
    · rename_i hx
      rw [Bool.and_eq_true] at hx
      exact OpS.of_val (sim_build t hx.1 (evp_rel hA hx.2)) hr h hfr
    · cases h
  | buildSlice t k ps =>
    simp only [aexec] at h
    split at h
    · rename_i hx
      rw [Bool.and_eq_true, Bool.and_eq_true] at hx
      exact OpS.of_val (sim_buildSlice t k hx.1.1 hx.1.2 (evp_rel hA hx.2)) hr h hfr
    · cases h
  | load t x =>
    simp only [aexec] at h
    split at h
    · rename_i hx; exact OpS.of_val (sim_loadAt t (eval_rel hA x hx)) hr h hfr
    · cases h
  | store t x y =>
    simp only [aexec] at h
    split at h
    · rename_i hx
      obtain ⟨h1, h2⟩ := ok2 hx
      exact OpS.of_unit (sim_storeAt t (eval_rel hA x h1) (eval_rel hA y h2)) hr h hfr
    · cases h
  | nilCheck x =>
    simp only [aexec] at h
    split at h
    · rename_i hx
      have hv := eval_rel hA x hx
      split at h
      · rename_i b hb
        cases h
        have hv2 := hv
        rw [hb] at hv
        generalize hAx : A.eval x = Ax at hv
        refine OpS.of_pure hr (n' := .value (A.eval x)) ?_ hv2
        cases hv
        simp only [execOp, hAx]
        rfl
      · rename_i f g c hb
        cases h
        have hv2 := hv
        rw [hb] at hv
        generalize hAx : A.eval x = Ax at hv
        refine OpS.of_pure hr (n' := .value (A.eval x)) ?_ hv2
        cases hv
        simp only [execOp, hAx]
        rfl
      · rename_i t v hb
        cases h
        have hv2 := hv
        rw [hb] at hv
        generalize hAx : A.eval x = Ax at hv
        refine OpS.of_pure hr (n' := .value (A.eval x)) ?_ hv2
        cases hv
        simp only [execOp, hAx]
        rfl
      · cases h
    · cases h
  | binOp op t x y yt =>
    simp only [aexec] at h
    split at h
    · rename_i r hf
      cases h
      exact aFlat_sound hA hr hf
    · split at h
      · rename_i hok
        obtain ⟨h1, h2⟩ := ok2 hok
        split at h
        · rename_i hc
          have hn := run_nilEq (P := P) (ox := x) (oy := y) (aNilEq_rel (eval_rel hA x h1) (eval_rel hA y h2) hc) w
          split at h
          · cases h
            refine OpS.of_pure hr (n' := .value (.bool false)) ?_ (.bool false)
            show (do pure (Next.value (← (do eqGuard .eql t x y (A.eval x) (A.eval y); binOp .eql t (A.eval x) (A.eval y)))) : Sem Next).run P w = _
            rw [Sem.run_bind, hn.1]
            rfl
          · cases h
            refine OpS.of_pure hr (n' := .value (.bool true)) ?_ (.bool true)
            show (do pure (Next.value (← (do eqGuard .neq t x y (A.eval x) (A.eval y); binOp .neq t (A.eval x) (A.eval y)))) : Sem Next).run P w = _
            rw [Sem.run_bind, hn.2]
            rfl
          · cases h
        · unfold sBin at h
          rw [Option.map_eq_some_iff] at h
          obtain ⟨r, hb, hh⟩ := h
          cases hh
          obtain ⟨k1, k2, k3, k4⟩ := Sig.bin_ok _ _ _ _ hb
          refine OpS.of_pure hr (n' := .value (cvV Sig.val r)) ?_ (sym_rel k3)
          show (do pure (Next.value (← (do eqGuard op t x y (A.eval x) (A.eval y); binOp op t (A.eval x) (A.eval y)))) : Sem Next).run P w = _
          rw [sym_eq (eval_rel hA x h1) k1, sym_eq (eval_rel hA y h2) k2, k4]
          rfl
      · cases h
  | unOp op t x =>
    simp only [aexec] at h
    split at h
    · rename_i r hf
      cases h
      exact aFlat_sound hA hr hf
    · split at h
      · rename_i hx
        unfold sUna at h
        rw [Option.map_eq_some_iff] at h
        obtain ⟨r, hb, hh⟩ := h
        cases hh
        obtain ⟨k1, k3, k4⟩ := Sig.una_ok _ _ _ hb
        refine OpS.of_pure hr (n' := .value (cvV Sig.val r)) ?_ (sym_rel k3)
        show (do pure (Next.value (← Op.unary op (A.eval x))) : Sem Next).run P w = _
        rw [sym_eq (eval_rel hA x hx) k1, k4]
        rfl
      · cases h
  | convert t u x =>
    simp only [aexec] at h
    split at h
    · rename_i r hf
      cases h
      exact aFlat_sound hA hr hf
    · split at h
      · rename_i hx
        unfold sCnv at h
        split at h
        · rename_i k0 k hu1 hu2
          rw [Option.map_eq_some_iff] at h
          obtain ⟨r, hb, hh⟩ := h
          cases hh
          obtain ⟨k1, k3, kk, nn, k4, k5⟩ := Sig.cnv_ok _ _ _ hb
          refine OpS.of_pure hr (n' := .value (cvV Sig.val r)) ?_ (sym_rel k3)
          show (do pure (Next.value (← convert t u (A.eval x))) : Sem Next).run P w = _
          rw [sym_eq (eval_rel hA x hx) k1, k4, k5]
          have e : (convert t u (.int kk nn)).run P w = .ok (.int k (k.wrap nn)) w := by
            unfold convert
            rw [Sem.run_bind, run_underlying' hu1]
            dsimp only [Result.andThen]
            rw [Sem.run_bind, run_underlying' hu2]
            rfl
          rw [Sem.run_bind, e]
          rfl
        · cases h
      · cases h
  | makeInterface t x =>
    simp only [aexec] at h
    split at h
    · rename_i hx; exact OpS.of_val (sim_makeInterface t (eval_rel hA x hx)) hr h hfr
    · cases h
  | makeFunc fn first captured =>
    cases fn with
    | func f =>
      simp only [aexec] at h
      split at h
      · rename_i hx
        rw [Bool.and_eq_true] at hx
        cases h
        have h1 := evs_rel hA (xs := first) (by have := hx.1; unfold allOk at this; rw [List.all_eq_true] at this; exact this)
        have h2 := evs_rel hA (xs := captured) (by have := hx.2; unfold allOk at this; rw [List.all_eq_true] at this; exact this)
        exact OpS.of_pure hr (n' := .value (.func (.func f) (first.map A.eval) (captured.map A.eval))) rfl (.func _ _ _ _ _ (by intro l e; cases e) h1.1 h2.1 h1.2 h2.2)
      · cases h
    | _ => simp [aexec] at h
  | makeMap t r =>
    cases r with
    | none =>
      simp only [aexec] at h
      exact OpS.of_val (sim_makeMap (r := none) (r' := none) t trivial) hr h hfr
    | some x =>
      simp only [aexec] at h
      split at h
      · rename_i hx; exact OpS.of_val (sim_makeMap (r := some _) (r' := some _) t (eval_rel hA x hx)) hr h hfr
      · cases h
  | makeSlice t l c =>
    simp only [aexec] at h
    split at h
    · rename_i hx
      rw [Bool.and_eq_true, Bool.and_eq_true] at hx
      obtain ⟨h1, h2⟩ := ok2 hx.2
      exact OpS.of_val (sim_makeSlice t hx.1.1 hx.1.2 (eval_rel hA l h1) (eval_rel hA c h2)) hr h hfr
    · cases h
  | slice t x lo hi mx =>
    simp only [aexec] at h
    split at h
    · rename_i hx
      simp only [Bool.and_eq_true] at hx
      obtain ⟨⟨⟨⟨⟨g1, g2⟩, g3⟩, g4⟩, g5⟩, g6⟩ := hx
      split at h
      · rename_i v s2 hrun
        split at h
        · rename_i hres
          cases h
          obtain ⟨κ, v', w1, r1, r2, r3, r4, r5⟩ := sim_sliceAt (P := P) (base := base) t (eval_rel hA x g2) (ov_rel hA g3) (ov_rel hA g4) (ov_rel hA g5) g6 g1 s w v s1 hr hrun hfr
          refine ⟨κ, .value v', w1, ?_, r2, r3, r4 hres, r5⟩
          show (do pure (Next.value (← Instr.sliceAt t (A.eval x) (lo.map A.eval) (hi.map A.eval) (mx.map A.eval))) : Sem Next).run P w = _
          rw [Sem.run_bind, r1]
          rfl
        · cases h
      · cases h
    · cases h
  | fieldAddr t x f =>
    simp only [aexec] at h
    split at h
    · rename_i hx
      rw [Bool.and_eq_true] at hx
      exact OpS.of_val (sim_fieldAt t f (eval_rel hA x hx.1) hx.2) hr h hfr
    · cases h
  | field t x f =>
    simp only [aexec] at h
    split at h
    · rename_i hx; exact OpS.of_val (sim_field t f (eval_rel hA x hx)) hr h hfr
    · cases h
  | indexAddr t x i =>
    simp only [aexec] at h
    split at h
    · rename_i hx
      obtain ⟨h1, h2⟩ := ok2 hx
      exact OpS.of_val (sim_indexAt t (eval_rel hA x h1) (eval_rel hA i h2)) hr h hfr
    · cases h
  | index t x i =>
    simp only [aexec] at h
    split at h
    · rename_i hx
      obtain ⟨h1, h2⟩ := ok2 hx
      exact OpS.of_val (sim_index t (eval_rel hA x h1) (eval_rel hA i h2)) hr h hfr
    · cases h
  | lookup t m k ok =>
    simp only [aexec] at h
    split at h
    · rename_i hx
      obtain ⟨h1, h2⟩ := ok2 hx
      unfold sv at h
      rw [Option.map_eq_some_iff] at h
      obtain ⟨⟨v, s2⟩, g1, g2⟩ := h
      cases g2
      obtain ⟨v', r1, r2, r3, r4⟩ := aLookup_sound hr (eval_rel hA m h1) (eval_rel hA k h2) g1
      refine OpS.of_st (n' := .value v') (w1 := w) ?_ (by rw [r3]; exact hr) r2 (Out.refl _ _)
      show (do pure (Next.value (← Instr.lookup t (A.eval m) (A.eval k) ok)) : Sem Next).run P w = _
      rw [Sem.run_bind, r1]
      rfl
    · cases h
  | mapUpdate t m k v =>
    simp only [aexec] at h
    split at h
    · rename_i hx
      obtain ⟨h1, h2, h3⟩ := ok3 hx
      rw [Option.map_eq_some_iff] at h
      obtain ⟨s2, g1, g2⟩ := h
      cases g2
      obtain ⟨w1, r1, r2, r3, r4⟩ := aUpdate_sound hr (eval_rel hA m h1) (eval_rel hA k h2) (eval_rel hA v h3) g1
      refine OpS.of_st (n' := .skip) (w1 := w1) ?_ r2 trivial r3
      show (do Instr.mapUpdate t (A.eval m) (A.eval k) (A.eval v); pure .skip : Sem Next).run P w = _
      rw [Sem.run_bind, r1]
      rfl
    · cases h
  | insert t m k v =>
    simp only [aexec] at h
    split at h
    · rename_i hx
      obtain ⟨h1, h2, h3⟩ := ok3 hx
      rw [Option.map_eq_some_iff] at h
      obtain ⟨s2, g1, g2⟩ := h
      cases g2
      obtain ⟨w1, r1, r2, r3, r4⟩ := aUpdate_sound hr (eval_rel hA m h1) (eval_rel hA k h2) (eval_rel hA v h3) g1
      refine OpS.of_st (n' := .skip) (w1 := w1) ?_ r2 trivial r3
      show (do Instr.mapUpdate t (A.eval m) (A.eval k) (A.eval v); pure .skip : Sem Next).run P w = _
      rw [Sem.run_bind, r1]
      rfl
    · cases h
  | mapEntry t m k =>
    simp only [aexec] at h
    split at h
    · rename_i hx
      obtain ⟨h1, h2⟩ := ok2 hx
      unfold sv at h
      rw [Option.map_eq_some_iff] at h
      obtain ⟨⟨v, s2⟩, g1, g2⟩ := h
      cases g2
      obtain ⟨v', w1, r1, r2, r3, r4, r5⟩ := aEntry_sound hr (eval_rel hA m h1) (eval_rel hA k h2) g1
      refine OpS.of_st (n' := .value v') (w1 := w1) ?_ r3 r2 r4
      show (do pure (Next.value (← Instr.mapEntry t (A.eval m) (A.eval k))) : Sem Next).run P w = _
      rw [Sem.run_bind, r1]
      rfl
    · cases h
  | entryStore t m st v =>
    simp only [aexec] at h
    split at h
    · rename_i hx
      obtain ⟨h1, h2, h3⟩ := ok3 hx
      rw [Option.map_eq_some_iff] at h
      obtain ⟨s2, g1, g2⟩ := h
      cases g2
      obtain ⟨w1, r1, r2, r3, r4⟩ := aStamp_sound (t := t) hr (eval_rel hA m h1) (eval_rel hA st h2) (eval_rel hA v h3) g1
      refine OpS.of_st (n' := .skip) (w1 := w1) ?_ r2 trivial r3
      show (do Instr.entryStore t (A.eval m) (A.eval st) (A.eval v); pure .skip : Sem Next).run P w = _
      rw [Sem.run_bind, r1]
      rfl
    · cases h
  | range t x =>
    simp only [aexec] at h
    split at h
    · rename_i hx; exact OpS.of_val (sim_range t (eval_rel hA x hx)) hr h hfr
    · cases h
  | next x str =>
    simp only [aexec] at h
    split at h
    · rename_i hx; exact OpS.of_val (sim_next str ty (eval_rel hA x hx)) hr h hfr
    · cases h
  | entry x =>
    simp only [aexec] at h
    split at h
    · rename_i hx; exact OpS.of_val (sim_entry (eval_rel hA x hx)) hr h hfr
    · cases h
  | typeAssert x t u ok =>
    simp only [aexec] at h
    split at h
    · rename_i hx
      rw [Bool.and_eq_true] at hx
      exact OpS.of_val (sim_typeAssert t u ok (fun e => by rw [e] at hx; simpa using hx.2) (eval_rel hA x hx.1)) hr h hfr
    · cases h
  | extract x i =>
    simp only [aexec] at h
    split at h
    · rename_i hx; exact OpS.of_val (sim_extract i (eval_rel hA x hx)) hr h hfr
    · cases h
  | call c =>
    simp only [aexec] at h
    split at h
    · rename_i r hf
      cases h
      exact aFlat_sound hA hr hf
    · exact aCall_sound rfl hA hr h hfr
  | _ => simp [aexec] at h
end Go.Ev
