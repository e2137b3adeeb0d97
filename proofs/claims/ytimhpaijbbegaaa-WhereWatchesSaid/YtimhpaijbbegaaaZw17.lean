/- 'WhereWatches' returns true, whatever its arguments are (at most 20 snaps of at most 20 rows of at most 20 numbers are looked at), and leaves them as they were. -/
import Derived.Test.YtimhpaijbbegaaaZw16
import Derived.Test.YtimhpaijbbegaaaRows
import Derived.Test.YtimhpaijbbegaaaZw6
import Derived.Test.YtimhpaijbbegaaaZw7
import Derived.Deep.Slices
import Derived.ChangeSame
namespace Go.Ev
open Go.RowKit
set_option linter.unusedVariables false
set_option linter.unusedSimpArgs false
set_option linter.unusedSectionVars false
variable [Sig]
structure Env (n:Nat) (t:TV) (d:List Deferred) (a:Act) : Prop where
 sz:a.tmps.size=n
 lim:n≤4094
 df:a.defers=d
 get:∀ i,t.get i=a.tmps.getD i undef
theorem Env.eval {n:Nat} {t:TV} {df:List Deferred} {a:Act} (h:Env n t df a) : feval t=a.eval:=by
 funext x
 cases x with
 | tmp i=>exact h.get i
 | _=>rfl
theorem fput_ok {β:Type} {n:Nat} {t:TV} {df:List Deferred} {a:Act} (h:Env n t df a) (d:Option Tmp) (v:Value) (k:TV→β) : ∃ t1,fput n t d v k=k t1∧Env n t1 df (a.put d v):=by
 cases d with
 | none=>exact ⟨t,rfl,h⟩
 | some d =>
  show ∃ t1,@Bool.rec (fun _=>β) (k t) (frcV v (fun v=>TV.setK 12 t d v k)) (Nat.blt d n)=k t1∧_
  rw [brec]
  by_cases hd:@LT.lt Nat instLTNat d n
  ·have hb:Nat.blt d n=true:=Nat.ble_eq_true_of_le hd
   have hl:=h.lim
   rw [if_pos hb,frcV_eq,TV.setK_eq]
   refine ⟨_,rfl,by simp [Act.put,h.sz],h.lim,h.df,fun i=>?_⟩
   rw [TV.get_set _ _ _ _ _ (by omega)]
   simp only [Act.put,Array.getD_eq_getD_getElem?]
   rw [Array.getElem?_setIfInBounds]
   by_cases e:d=i
   ·subst e
    rw [if_pos rfl,if_pos rfl,if_pos (by rw [h.sz]; exact hd)]
    rfl
   ·rw [if_neg (fun e'=>e e'.symm),if_neg e,h.get i,Array.getD_eq_getD_getElem?]
  ·have hb:¬ Nat.blt d n=true:=fun hh=>hd (Nat.le_of_ble_eq_true hh)
   rw [if_neg hb]
   refine ⟨t,rfl,by simp [Act.put,h.sz],h.lim,h.df,fun i=>?_⟩
   rw [h.get i]
   simp only [Act.put,Array.getD_eq_getD_getElem?]
   rw [Array.getElem?_setIfInBounds]
   by_cases e:d=i
   ·subst e
    rw [if_pos rfl,if_neg (by rw [h.sz]; exact hd),Array.getElem?_eq_none (by rw [h.sz]; omega)]
   ·rw [if_neg e]
def CallRef (call:FCaller) (call':Caller) : Prop:=∀ c s v s1,call c s=some (v,s1)→call' c s=some (v,s1)
theorem fstep_ok {β:Type} {B:Base} (hB:BOK B) {call:FCaller} {call':Caller} (hc:CallRef call call') {n:Nat} {t:TV} {df:List Deferred} {a:Act} (h:Env n t df a) {o:Oper} {s:St} {k:TV→St→Option β} {r:β}
  (hr:fstep B call n t o s k=some r) : ∃ t1 a1 s1,astep B.P call' a o s=some (a1,s1)∧Env n t1 df a1∧k t1 s1=some r:=by
 have key:∀ x,fexec B t o s=some x→aexec B.P a o s=some x:=by
  intro x hx
  have:=fexec_ok hB hx
  rw [h.eval,rexec_eq] at this
  exact this
 have eg:fargs t o.op.operands.toList=gvals a o.op:=by
  rw [fargs_eq,h.eval]
  rfl
 unfold fstep at hr
 unfold astep
 rw [eg] at hr
 split at hr
 ·rename_i q hq
  obtain ⟨h1,h2⟩:=brec_some hr
  rw [hq]
  dsimp only
  unfold agops
  rw [if_pos h1]
  split at h2
  ·rename_i v s1 he
   obtain ⟨t1,e1,h3⟩:=fput_ok h o.dst v (fun t1=>k t1 s1)
   rw [e1] at h2
   rw [he]
   exact ⟨t1,_,s1,rfl,h3,h2⟩
  ·cases h2
 rename_i hq
 rw [hq]
 dsimp only
 split at hr
 ·rename_i v s1 he
  rw [key _ he]
  obtain ⟨t1,e1,h1⟩:=fput_ok h o.dst v (fun t1=>k t1 s1)
  rw [e1] at hr
  exact ⟨t1,_,s1,rfl,h1,hr⟩
 ·rename_i s1 he
  rw [key _ he]
  obtain ⟨t1,e1,h1⟩:=fput_ok h o.dst undef (fun t1=>k t1 s1)
  rw [e1] at hr
  exact ⟨t1,_,s1,rfl,h1,hr⟩
 ·rename_i f args s1 he
  rw [key _ he]
  split at hr
  ·rename_i v s2 hcl
   obtain ⟨t1,e1,h1⟩:=fput_ok h o.dst v (fun t1=>k t1 s2)
   rw [e1] at hr
   dsimp only
   rw [hc _ _ _ _ hcl]
   exact ⟨t1,_,s2,rfl,h1,hr⟩
  ·cases hr
 ·rename_i l fn tmps assign body s1 he
  rw [key _ he]
  split at hr
  ·rename_i v s2 hcl
   obtain ⟨t1,e1,h1⟩:=fput_ok h o.dst v (fun t1=>k t1 s2)
   rw [e1] at hr
   dsimp only
   rw [hc _ _ _ _ hcl]
   exact ⟨t1,_,s2,rfl,h1,hr⟩
  ·cases hr
 ·cases hr
theorem fyield_eq {n:Nat} {t:TV} {df:List Deferred} {a:Act} (h:Env n t df a) (ops:Array Oper) (j:Nat) : fyield ops t j=yielded ops a.tmps j:=by
 unfold fyield yielded
 cases (ops[j]?).bind (·.dst) with
 | none=>rfl
 | some d =>
  dsimp only [Option.bind]
  rw [h.get d,Array.getD_eq_getD_getElem?]
  cases a.tmps[d]? with
  | none=>rfl
  | some v=>cases v <;> rfl
theorem fwant_eq {n:Nat} {t:TV} {df:List Deferred} {a:Act} (h:Env n t df a) (ops:Array Oper) (o:Oper) : fwant ops t o=Region.wanted o (yielded ops a.tmps):=by
 unfold fwant Region.wanted
 cases o.guard with
 | none=>rfl
 | some g =>
  obtain ⟨j,w⟩:=g
  dsimp only
  rw [fyield_eq h]
  cases yielded ops a.tmps j with
  | none=>cases w <;> rfl
  | some b=>cases b <;> cases w <;> rfl
theorem flist_ok {B:Base} (hB:BOK B) {call:FCaller} {call':Caller} (hc:CallRef call call') {n:Nat} (ops:Array Oper) (df:List Deferred) : ∀ (l:List Oper) (t:TV) (a:Act) (s:St) (x:FRes),Env n t df a→flist B call n ops df l t s=some x →
  ∃ a1,alist B.P call' ops l a s=some (a1,x.2.2.2)∧Env n x.2.1 x.2.2.1 a1∧x.1=.normal:=by
 intro l
 induction l with
 | nil =>
  intro t a s x h hx
  cases hx
  exact ⟨a,rfl,h,rfl⟩
 | cons o l ih =>
  intro t a s x h hx
  have hx':@Bool.rec (fun _=>Option FRes) (fput n t o.dst undef (fun t1=>flist B call n ops df l t1 s)) (fstep B call n t o s (fun t1 s1=>flist B call n ops df l t1 s1)) (fwant ops t o)=some x:=hx
  rw [brec,fwant_eq h] at hx'
  unfold alist
  split at hx'
  ·rename_i hw
   rw [if_pos hw]
   obtain ⟨t1,a1,s1,e1,h1,hk⟩:=fstep_ok hB hc h hx'
   rw [e1]
   exact ih _ _ _ _ h1 hk
  ·rename_i hw
   rw [if_neg hw]
   obtain ⟨t1,e1,h1⟩:=fput_ok h o.dst undef (fun t1=>flist B call n ops df l t1 s)
   rw [e1] at hx'
   exact ih _ _ _ _ h1 hx'
theorem flogs_ok {B:Base} (hB:BOK B) {call:FCaller} {call':Caller} (hc:CallRef call call') {n:Nat} (ops:Array Oper) (df:List Deferred) : ∀ (l:List Oper) (t:TV) (a:Act) (s:St) (ls:List (List Touch)) (x:FRes),Env n t df a→flogs B call n ops df l t s ls=some x →
  ∃ a1 ls1,alogs B.P call' ops l a s ls=some (a1,x.2.2.2,ls1)∧(guardsOk ops && noClash (Region.before ops) ls1 (ops.size - 1))=true∧Env n x.2.1 x.2.2.1 a1∧x.1=.normal:=by
 intro l
 induction l with
 | nil =>
  intro t a s ls x h hx
  have hx':@Bool.rec (fun _=>Option FRes) none (some (.normal,t,df,s)) (guardsOk ops && noClash (Region.before ops) ls (ops.size - 1))=some x:=hx
  obtain ⟨h1,h2⟩:=brec_some hx'
  cases h2
  exact ⟨a,ls,rfl,h1,h,rfl⟩
 | cons o l ih =>
  intro t a s ls x h hx
  obtain ⟨hh,nx,lg⟩:=s
  have hx':@Bool.rec (fun _=>Option FRes) (fput n t o.dst undef (fun t1=>flogs B call n ops df l t1 ⟨hh,nx,lg⟩ ([]::ls)))
   (fstep B call n t o ⟨hh,nx,[]⟩ (fun t1 s1=>@St.rec (fun _=>Option FRes) (fun h1 nx1 lg1=>flogs B call n ops df l t1 ⟨h1,nx1,List.append lg1 lg⟩ (lg1::ls)) s1)) (fwant ops t o)=some x:=hx
  rw [brec,fwant_eq h] at hx'
  unfold alogs
  split at hx'
  ·rename_i hw
   rw [if_pos hw]
   obtain ⟨t1,a1,s1,e1,h1,hk⟩:=fstep_ok hB hc h hx'
   obtain ⟨h2,nx2,lg2⟩:=s1
   dsimp only
   rw [e1]
   exact ih _ _ _ _ _ h1 hk
  ·rename_i hw
   rw [if_neg hw]
   obtain ⟨t1,e1,h1⟩:=fput_ok h o.dst undef (fun t1=>flogs B call n ops df l t1 ⟨hh,nx,lg⟩ ([]::ls))
   rw [e1] at hx'
   exact ih _ _ _ _ _ h1 hx'
theorem fromK_ok {β:Type} : ∀ (l:List Value) (i:Nat) (t:TV) (k:TV→β),i+l.length≤4094→∃ t1,fromK l i t k=k t1∧∀ j,t1.get j=if i≤j∧j < i+l.length then (l[j - i]?).getD undef else t.get j:=by
 intro l
 induction l with
 | nil =>
  intro i t k hl
  refine ⟨t,rfl,fun j=>?_⟩
  rw [if_neg (by simp only [List.length_nil]; omega)]
 | cons v l ih =>
  intro i t k hl
  rw [List.length_cons] at hl
  obtain ⟨t1,e1,h1⟩:=ih (i+1) (TV.set 12 t i v) k (by omega)
  refine ⟨t1,?_,fun j=>?_⟩
  ·show TV.setK 12 t i v (fun t1=>fromK l (Nat.succ i) t1 k)=_
   rw [TV.setK_eq]
   exact e1
  ·rw [h1 j,TV.get_set _ _ _ _ _ (by omega),List.length_cons]
   by_cases hj:j=i
   ·subst hj
    rw [if_neg (by omega),if_pos rfl,if_pos (by omega)]
    simp
   ·rw [if_neg hj]
    by_cases hr:i+1≤j∧j < i+1+l.length
    ·rw [if_pos hr,if_pos (by omega),show j - i=(j - (i+1))+1 by omega]
     simp
    ·rw [if_neg hr,if_neg (by omega)]
theorem lst_eq (t:TV) : ∀ (k i:Nat),t.lst k i=(List.range' i k).map t.get:=by
 intro k
 induction k with
 | zero=>intro i; rfl
 | succ k ih =>
  intro i
  show t.get i::t.lst k (Nat.succ i)=_
  rw [ih,List.range'_succ]
  rfl
theorem act_eq {n:Nat} {t:TV} {df:List Deferred} {a:Act} (h:Env n t df a) : (t.act n).tmps=a.tmps:=by
 apply Array.ext'
 show t.lst n 0=_
 rw [lst_eq]
 apply List.ext_getElem?
 intro i
 rw [List.getElem?_map]
 by_cases hi:i < n
 ·rw [List.getElem?_range' hi,Array.getElem?_toList,Array.getElem?_eq_getElem (by rw [h.sz]; exact hi)]
  simp only [Option.map_some,Nat.one_mul,Nat.zero_add]
  rw [h.get i,Array.getD_eq_getD_getElem?,Array.getElem?_eq_getElem (by rw [h.sz]; exact hi)]
  rfl
 ·rw [List.getElem?_eq_none (by simp; omega),Array.getElem?_toList,Array.getElem?_eq_none (by rw [h.sz]; omega)]
  rfl
theorem fresL_ok {P:Program} {n:Nat} {t:TV} {df:List Deferred} {a:Act} (h:Env n t df a) (s:St) (f:ResultVar→Sem Value) (hf:∀ i,f (.tmp i)=pure (a.tmps.getD i undef)) : ∀ (l:List ResultVar) (vs:List Value),fresL t l=some vs →
  arun P (l.mapM f) s=some (vs,s):=by
 intro l
 induction l with
 | nil =>
  intro vs hv
  cases hv
  rfl
 | cons r l ih =>
  intro vs hv
  have hv':fresS t r (fresL t l)=some vs:=hv
  unfold fresS at hv'
  rw [List.mapM_cons,arun_bnd]
  split at hv'
  ·rename_i i ws hl
   cases hv'
   rw [hf]
   show arun P _ s=_
   rw [arun_bnd,ih ws hl,h.get i]
   rfl
  ·cases hv'
theorem arun_map {α β:Type} (P:Program) (f:α→β) (m:Sem α) (s:St) : arun P (Functor.map f m) s=(arun P m s).bind fun (a,s1)=>some (f a,s1):=by
 show arun P (m >>= fun a=>pure (f a)) s=_
 rw [arun_bnd]
 rfl
theorem fres_ok {P:Program} {fn:Func} {t:TV} {df:List Deferred} {a:Act} (h:Env fn.ntmps t df a) {s:St} {r:Value×St} (hr:fres P fn t s=some r) : aresults P fn a s=some r:=by
 have multi:∀ vs,fresL t fn.results.toList=some vs→aresults P fn a s=some (if h:vs.length=1 then vs[0] else .tuple ⟨vs⟩,s):=by
  intro vs hv
  unfold aresults results
  rw [arun_bnd,Array.mapM_eq_mapM_toList,arun_map,fresL_ok h s _ (fun i=>rfl) _ _ hv]
  rfl
 unfold fres at hr
 split at hr
 ·rename_i i hl
  cases hr
  have:=multi [t.get i] (by rw [hl]; rfl)
  rw [this]
  rfl
 ·rename_i hl
  cases hr
  have:=multi [] (by rw [hl]; rfl)
  rw [this]
  rfl
 ·rename_i x y l hl
  split at hr
  ·rename_i vs hv
   cases hr
   have:=multi vs (by rw [hl]; exact hv)
   rw [this,dif_neg]
   intro hlen
   have hlens:∀ (l:List ResultVar) (vs:List Value),fresL t l=some vs→vs.length=l.length:=by
    intro l
    induction l with
    | nil=>intro vs hv; cases hv; rfl
    | cons r l ih =>
     intro vs hv
     have hv':fresS t r (fresL t l)=some vs:=hv
     unfold fresS at hv'
     split at hv'
     ·rename_i i ws hl
      cases hv'
      rw [List.length_cons,List.length_cons,ih ws hl]
     ·cases hv'
   have:=hlens _ _ hv
   simp at this
   omega
  ·rw [act_eq h] at hr
   exact hr
 ·rw [act_eq h] at hr
  exact hr
theorem lstK_eq {β:Type} (t:TV) : ∀ (k i:Nat) (f:List Value→β),t.lstK k i f=f (t.lst k i):=by
 intro k
 induction k with
 | zero=>intro i f; rfl
 | succ k ih =>
  intro i f
  show frcV (t.get i) (fun v=>t.lstK k (Nat.succ i) (fun l=>f (v::l)))=f (t.get i::t.lst k (Nat.succ i))
  rw [frcV_eq,ih]
def RunRef (run:FRun) (run':Runner) : Prop:=∀ rd n c t d a s ex t1 d1 s1,Env n t d a→run rd n c t d s=some (ex,t1,d1,s1)→∃ a1,run' rd c a s=some (ex,a1,s1)∧Env n t1 d1 a1
theorem start_env {args:List Value} {n:Nat} (h1:args.length≤n) (h2:n≤4094) {β:Type} (k:TV→β) : ∃ t,fromK args 0 .leaf k=k t∧Env n t [] { tmps:=⟨args⟩++Array.replicate (n - args.length) undef,defers:=[] }:=by
 obtain ⟨t0,e0,g0⟩:=fromK_ok args 0 .leaf k (by omega)
 refine ⟨t0,e0,by simp; omega,h2,rfl,fun i=>?_⟩
 rw [g0 i,Array.getD_eq_getD_getElem?]
 by_cases hi:i < args.length
 ·rw [if_pos (by omega),Array.getElem?_append_left (by simpa using hi),Nat.sub_zero]
  simp
 ·rw [if_neg (by omega),Array.getElem?_append_right (by simpa using hi),Array.getElem?_replicate]
  split <;> rfl
theorem fend_ok {P:Program} {fn:Func} {t:TV} {d:List Deferred} {a:Act} (h:Env fn.ntmps t d a) {s:St} {r:Value×St} (hr:fend P fn t d s=some r) {e:Exit} (he:atEnd e=true) : aleave P fn e a s=some r:=by
 unfold fend at hr
 unfold aleave
 rw [he,h.df]
 dsimp only
 split at hr
 ·rename_i u s1 hm
  rw [hm]
  exact fres_ok h hr
 ·cases hr
theorem fcallF_ok {B:Base} (hB:BOK B) {run:FRun} {run':Runner} (hr:RunRef run run') (f:FuncId) (args:Array Value) (s:St) (v:Value) (s1:St) (h:fcallF B run f args.toList s=some (v,s1)) : acallF B.P run' f args s=some (v,s1):=by
 unfold fcallF at h
 unfold acallF
 split at h
 ·rename_i r hq
  rw [hq]
  exact h
 ·rename_i hq
  rw [hq]
  dsimp only
  split at h
  ·rename_i q hg
   rw [hg]
   exact h
  rename_i hg
  rw [hg]
  dsimp only
  split at h
  case h_2=>cases h
  rename_i fn hf
  split at h
  ·rename_i body hb
   obtain ⟨h1,h2⟩:=brec_some h
   rw [Bool.and_eq_true] at h1
   have hl1:args.toList.length≤fn.ntmps:=Nat.le_of_ble_eq_true h1.1
   have hl2:fn.ntmps≤4094:=Nat.le_of_ble_eq_true h1.2
   obtain ⟨t0,e0,env⟩:=start_env hl1 hl2 (fun t=>fret B.P fn (run none fn.ntmps body t [] s))
   rw [e0] at h2
   rw [hB.F _ _ hf]
   dsimp only
   rw [hb]
   dsimp only
   have env':Env fn.ntmps t0 [] { tmps:=args++Array.replicate (fn.ntmps - args.size) undef,defers:=[] }:=by
    have e:(⟨args.toList⟩ : Array Value)=args:=rfl
    rw [e,Array.length_toList] at env
    exact env
   unfold fret at h2
   split at h2
   ·rename_i t d s2 hrun
    obtain ⟨a1,q1,q2⟩:=hr _ _ _ _ _ _ _ _ _ _ _ env' hrun
    rw [q1]
    exact fend_ok q2 h2 rfl
   ·rename_i t d s2 hrun
    obtain ⟨a1,q1,q2⟩:=hr _ _ _ _ _ _ _ _ _ _ _ env' hrun
    rw [q1]
    exact fend_ok q2 h2 rfl
   ·cases h2
  ·cases h
theorem fcallR_ok {B:Base} {run:FRun} {run':Runner} (hr:RunRef run run') (l:Nat) (tmps:Array Value) (assign body:Code) (s:St) (v:Value) (s1:St) (h:fcallR B run l tmps.toList assign body s=some (v,s1)) : acallR B.P run' l tmps assign body s=some (v,s1):=by
 unfold fcallR at h
 rw [frcN_eq] at h
 obtain ⟨h1,h2⟩:=brec_some h
 have hl:tmps.toList.length≤4094:=Nat.le_of_ble_eq_true h1
 obtain ⟨t0,e0,env⟩:=start_env (Nat.le_refl _) hl (fun t=>frnd B run l tmps.toList.length body (run (some l) tmps.toList.length assign t [] s))
 rw [e0] at h2
 have env':Env tmps.toList.length t0 [] { tmps:=tmps,defers:=[] }:=by
  have e:(⟨tmps.toList⟩ : Array Value)++Array.replicate (tmps.toList.length - tmps.toList.length) undef=tmps:=by
   apply Array.ext'
   simp
  rw [e] at env
  exact env
 unfold acallR
 unfold frnd at h2
 split at h2
 ·rename_i t d s2 hrun
  obtain ⟨a1,q1,q2⟩:=hr _ _ _ _ _ _ _ _ _ _ _ env' hrun
  rw [q1]
  simp only [isNormal,if_true]
  split at h2
  ·rename_i u s3 hb
   rw [hb]
   dsimp only
   unfold frend at h2
   split at h2
   ·rename_i e t3 d3 s4 hrun2
    obtain ⟨a3,q3,q4⟩:=hr _ _ _ _ _ _ _ _ _ _ _ q2 hrun2
    rw [q3]
    exact h2
   ·cases h2
  ·cases h2
 ·cases h2
theorem fcall_ok {B:Base} (hB:BOK B) {run:FRun} {run':Runner} (hr:RunRef run run') : CallRef (fcall B run) (acall B.P run'):=by
 intro c s v s1 h
 cases c with
 | fn f args=>exact fcallF_ok hB hr f args s v s1 h
 | rnd l tmps assign body=>exact fcallR_ok hr l tmps assign body s v s1 h
theorem floopCall_ok {B:Base} (hB:BOK B) {n:Nat} {t:TV} {d:List Deferred} {a:Act} (h:Env n t d a) {g:Operand} {l:Nat} {f:FuncId} {args:List Value} (hr:floopCall B t g l=some (f,args)) : aloopCall B.P a g l=some (f,⟨args⟩):=by
 unfold floopCall at hr
 rw [h.eval] at hr
 unfold aloopCall
 split at hr
 ·rename_i f0 first captured hg
  obtain ⟨h1,h2⟩:=brec_some hr
  rw [Bool.and_eq_true] at h1
  cases h2
  rw [if_pos h1.1,hg]
  dsimp only
  rw [if_pos (fnF_ok hB h1.2)]
  congr 2
  apply Array.ext'
  simp
 ·cases hr
theorem frange_ok {B:Base} (hB:BOK B) {run:FRun} {run':Runner} (hr:RunRef run run') (rd:Option Nat) (n:Nat) (g:Operand) (ps:Array Tmp) (assign body:Code) (t:TV) (d:List Deferred) (a:Act) (s:St) (ex:Exit) (t1:TV) (d1:List Deferred) (s1:St) (h:Env n t d a)
  (hx:frange B run rd n g ps assign body t d s=some (ex,t1,d1,s1)) : ∃ a1,arange B.P run' rd g ps assign body a s=some (ex,a1,s1)∧Env n t1 d1 a1:=by
 unfold frange at hx
 rw [lstK_eq] at hx
 have e:(⟨t.lst n 0⟩ : Array Value)=a.tmps:=act_eq h
 rw [e] at hx
 unfold arange
 split at hx
 ·rename_i l mark s2 h1
  rw [h1]
  dsimp only
  split at hx
  ·rename_i f args h2
   rw [floopCall_ok hB h h2]
   dsimp only
   unfold frangeE at hx
   split at hx
   ·rename_i v s3 h3
    rw [fcallF_ok hB hr f ⟨args⟩ s2 v s3 h3]
    dsimp only
    split at hx
    ·rename_i j s4 h4
     rw [h4]
     obtain ⟨h5,h6⟩:=brec_some hx
     dsimp only
     rw [if_pos h5]
     have env:Env n t (List.append mark d) { a with defers:=mark++a.defers }:=⟨h.sz,h.lim,by rw [h.df]; rfl,h.get⟩
     unfold fjump at h6
     unfold ajump
     split at h6
     ·cases h6
      exact ⟨_,rfl,env⟩
     ·exact hr _ _ _ _ _ _ _ _ _ _ _ env h6
    ·cases hx
   ·cases hx
  ·cases hx
 ·cases hx
theorem fev_ok {B:Base} (hB:BOK B) : ∀ (m:Nat),RunRef (fev B m) (ev B.P m):=by
 intro m
 induction m with
 | zero=>intro rd n c t d a s ex t1 d1 s1 h hx; cases hx
 | succ m ih =>
  intro rd n c t d a s ex t1 d1 s1 h hx
  have hc:CallRef (fcall B (fev B m)) (acall B.P (ev B.P m)):=fcall_ok hB ih
  have hx':fcode B (fev B m) rd n c t d s=some (ex,t1,d1,s1):=hx
  have seq:∀ (x y:Code),fseq (fev B m rd n x t d s) (fun t1 d1 s1=>fev B m rd n y t1 d1 s1)=some (ex,t1,d1,s1) →
    ∃ a1,(match ev B.P m rd x a s with | some (.normal,a1,s1)=>ev B.P m rd y a1 s1 | r=>r)=some (ex,a1,s1)∧Env n t1 d1 a1:=by
   intro x y hs
   unfold fseq at hs
   split at hs
   ·rename_i t2 d2 s2 he
    obtain ⟨a2,q1,q2⟩:=ih _ _ _ _ _ _ _ _ _ _ _ h he
    rw [q1]
    exact ih _ _ _ _ _ _ _ _ _ _ _ q2 hs
   ·rename_i e t2 d2 s2 hne he
    cases hs
    obtain ⟨a2,q1,q2⟩:=ih _ _ _ _ _ _ _ _ _ _ _ h he
    rw [q1]
    refine ⟨a2,?_,q2⟩
    cases ex with
    | normal=>exact (hne rfl).elim
    | _=>rfl
   ·cases hs
  unfold fcode at hx'
  unfold ev
  split at hx'
  ·cases hx'; exact ⟨a,rfl,h⟩
  ·cases hx'; exact ⟨a,rfl,h⟩
  ·cases hx'; exact ⟨a,rfl,h⟩
  ·cases hx'; exact ⟨a,rfl,h⟩
  ·cases hx'; exact ⟨a,rfl,h⟩
  ·exact seq _ _ hx'
  ·rename_i c x y
   obtain ⟨h1,h2⟩:=brec_some hx'
   unfold fcond at h2
   split at h2
   ·rename_i b hb
    rw [h.eval] at hb
    dsimp only
    rw [h1,hb]
    dsimp only
    cases b with
    | false=>exact ih _ _ _ _ _ _ _ _ _ _ _ h h2
    | true=>exact ih _ _ _ _ _ _ _ _ _ _ _ h h2
   ·cases h2
  ·rename_i id body
   unfold fblock at hx'
   split at hx'
   ·rename_i i t2 d2 s2 he
    obtain ⟨a2,q1,q2⟩:=ih _ _ _ _ _ _ _ _ _ _ _ h he
    dsimp only
    rw [q1]
    dsimp only
    rw [brec] at hx'
    split at hx'
    ·rename_i hi
     cases hx'
     rw [if_pos (Nat.eq_of_beq_eq_true hi)]
     exact ⟨a2,rfl,q2⟩
    ·rename_i hi
     cases hx'
     rw [if_neg (fun e=>hi (by rw [e]; exact Nat.beq_refl _))]
     exact ⟨a2,rfl,q2⟩
   ·rename_i e t2 d2 s2 hne he
    cases hx'
    obtain ⟨a2,q1,q2⟩:=ih _ _ _ _ _ _ _ _ _ _ _ h he
    dsimp only
    rw [q1]
    refine ⟨a2,?_,q2⟩
    cases ex with
    | exit i=>exact (hne i rfl).elim
    | _=>rfl
   ·cases hx'
  ·exact seq _ _ hx'
  ·rename_i body
   split at hx'
   ·unfold fscope at hx'
    split at hx'
    ·rename_i l t2 d2 s2 he
     obtain ⟨a2,q1,q2⟩:=ih _ _ _ _ _ _ _ _ _ _ _ h he
     dsimp only
     rw [q1]
     unfold ascope
     split at hx'
     case h_2=>cases hx'
     rename_i rest hf
     simp only [hf]
     unfold fscopeJ at hx'
     split at hx'
     ·cases hx'
     ·rename_i e t3 d3 s3 hne he3
      cases hx'
      obtain ⟨a3,q3,q4⟩:=ih _ _ _ _ _ _ _ _ _ _ _ q2 he3
      rw [q3]
      refine ⟨a3,?_,q4⟩
      cases ex with
      | goto i=>exact (hne i rfl).elim
      | _=>rfl
     ·cases hx'
    ·rename_i e t2 d2 s2 hne he
     cases hx'
     obtain ⟨a2,q1,q2⟩:=ih _ _ _ _ _ _ _ _ _ _ _ h he
     dsimp only
     rw [q1]
     refine ⟨a2,?_,q2⟩
     cases ex with
     | goto i=>exact (hne i rfl).elim
     | _=>rfl
    ·cases hx'
   ·cases hx'
  ·rename_i g ps assign body
   exact frange_ok hB ih _ _ _ _ _ _ _ _ _ _ _ _ _ _ h hx'
  ·rename_i id ops draw
   dsimp only
   cases draw with
   | false =>
    obtain ⟨a1,q1,q2,q3⟩:=flist_ok hB hc ops _ _ _ _ _ _ h hx'
    dsimp only at q1 q2 q3
    subst q3
    have:aregion B.P (acall B.P (ev B.P m)) ops false a s=some (a1,s1):=by
     simp only [aregion,Bool.false_eq_true,if_false]
     exact q1
    rw [this]
    exact ⟨a1,rfl,q2⟩
   | true =>
    obtain ⟨a1,ls1,q1,q4,q2,q3⟩:=flogs_ok hB hc ops _ _ _ _ _ _ _ h hx'
    dsimp only at q1 q2 q3
    subst q3
    have:aregion B.P (acall B.P (ev B.P m)) ops true a s=some (a1,s1):=by
     simp only [aregion,if_true]
     rw [q1]
     dsimp only
     rw [if_pos q4]
    rw [this]
    exact ⟨a1,rfl,q2⟩
  ·cases hx'
theorem fast_bool {P:Program} (hP:P.check=.ok ()) (hcal:CalOK P) (hm:P.follows .mixedOrders=true) {n:Nat} {f:FuncId} {args args':Array Value} (h:withB P (fun B=>isTrue (fcallF B (fev B n) f args.toList s0))=true) (ha:ARel (fun _=>none) args args') (w:World) :
  Calls P f args' w fun e w1=>e=.returned (.bool true)∧Below w.heap.size w w1:=by
 obtain ⟨B,hB,hBP,e⟩:=withB_ok P (fun B=>isTrue (fcallF B (fev B n) f args.toList s0))
 rw [e] at h
 subst hBP
 refine closed_bool hP hcal hm (n:=n) (f:=f) (args:=args) ?_ ha w
 unfold isTrue at h
 split at h
 ·rename_i b s1 hc
  have:=fcallF_ok hB (fev_ok hB n) f args s0 _ _ hc
  show isTrue (acallF B.P (ev B.P n) f args s0)=true
  rw [this]
  exact h
 ·cases h
end Go.Ev
namespace Go.Proofs.Ytimhpaijbbegaaa
open Go.RowKit
set_option linter.unusedVariables false
theorem mixed_ok:Try.prog.follows .mixedOrders=true:=by kernel_rfl
theorem noArgs:@Ev.ARel Ev.noSig (fun _=>none) #[] #[]:=⟨rfl,fun i v v' h=>by simp at h⟩
theorem works_runs:Ev.withB Try.prog (fun B=>Ev.isTrue (@Ev.fcallF Ev.noSig B (@Ev.fev Ev.noSig B 200) 5 [] Ev.s0))=true:=by kernel_rfl
theorem works_any (w:World) : Calls Try.prog 5 #[] w fun e w'=>e=.returned (.bool true)∧Below w.heap.size w w' :=
 @Ev.fast_bool Ev.noSig _ Try.codeOk (@Ev.noCal Ev.noSig _) mixed_ok 200 _ #[] _ works_runs noArgs w
end Go.Proofs.Ytimhpaijbbegaaa
namespace Go.Proofs.Ytimhpaijbbegaaa
open Go.ChangeShapes Go.WideShapes Go.ChangeAt Go.RowKit Go.Deep
set_option linter.unusedVariables false
set_option linter.unusedSimpArgs false
set_option maxRecDepth 100000
section
variable {H:Type} {enc:TypeId×Value→H} {w:World}
theorem cell_lt {a:Addr} {v:Value} (h:w.cell? a=some v) : a.block < w.heap.size:=by
 unfold World.cell? at h
 cases hb:w.heap[a.block]? with
 | none=>rw [hb] at h; cases h
 | some o=>exact (Array.getElem?_eq_some_iff.1 hb).1
theorem open_row {fuel:Nat} {v:Value} {x:DataW H×List MemPlace} (h:DataW.trod enc Try.prog w 0 (fun _=>true) true fuel 35 [v]=some x) :
  ∃ zs:List Int,SlM 1 w.heap.size w v zs.length (iV zs):=by
 rcases open_ints Try.underlying35 Try.underlying3 (by kernel_rfl) h with ⟨hcs,_⟩ | ⟨a,len,cap,zs,hcs,_,hl,_,hz,_,hc,hwz⟩
 ·simp only [List.cons.injEq,and_true] at hcs
  exact ⟨[],rfl,.inl ⟨rfl,none,0,hcs⟩⟩
 ·simp only [List.cons.injEq,and_true] at hcs
  simp only [if_true] at hz
  have hlen:(zs.take len).length=len:=by rw [List.length_take]; omega
  refine ⟨zs.take len,by simp,?_⟩
  rw [hlen]
  rcases Nat.eq_zero_or_pos len with h0 | h0
  ·subst h0
   exact .inl ⟨rfl,some a,cap,hcs⟩
  ·have h1:=hc 0 (by omega)
   have hs:a.spot=none:=by simpa [Addr.add] using World.cell?_spot h1
   obtain ⟨b,off,spot⟩:=a
   simp only at hs
   subst hs
   have hb:b < w.heap.size:=by
    have:=cell_lt h1
    rw [add_mk] at this
    exact this
   refine .inr ⟨b,off,cap,hcs,hb,fun j hj=>?_⟩
   have h2:=hc j (by omega)
   rw [add_mk] at h2
   rw [h2,List.getElem?_map,List.getElem?_take,if_pos (by omega),List.getElem?_eq_getElem (by omega)]
   simp [List.getD_eq_getElem?_getD,List.getElem?_eq_getElem (show j < zs.length by omega)]
theorem list_of {α:Type} {n:Nat} {Q:Nat→α→Prop} (h:∀ i,i < n→∃ s,Q i s) : ∃ ss:List α,ss.length=n∧∀ (i:Nat) s,ss[i]? = some s→Q i s:=by
 induction n with
 | zero=>exact ⟨[],rfl,fun i s h=>by cases h⟩
 | succ n ih =>
  obtain ⟨ss,h1,h2⟩:=ih (fun i hi=>h i (by omega))
  obtain ⟨s,hs⟩:=h n (by omega)
  refine ⟨ss++[s],by simp [h1],fun i x hx=>?_⟩
  rcases Nat.lt_or_ge i ss.length with hi | hi
  ·rw [List.getElem?_append_left hi] at hx
   exact h2 i x hx
  ·rw [List.getElem?_append_right hi] at hx
   cases hk:i - ss.length with
   | zero =>
    rw [hk] at hx
    cases hx
    obtain rfl:i=n:=by omega
    exact hs
   | succ m=>rw [hk] at hx; cases hx
theorem open_rows {fuel:Nat} {v:Value} {x:DataW H×List MemPlace} (h:DataW.trod enc Try.prog w 0 (fun _=>true) true fuel 36 [v]=some x) :
  ∃ rs:List (List Int),RwM w.heap.size w v rs:=by
 have hC:Try.prog.cellsOf 35 = 1:=by kernel_rfl
 rcases open_slice Try.underlying36 h with ⟨hcs,_⟩ | ⟨a,len,cap,m,n,D,Pl,hcs,_,hl,_,hm,_,hi⟩
 ·simp only [List.cons.injEq,and_true] at hcs
  exact ⟨[],[],rfl,⟨rfl,.inl ⟨rfl,none,0,hcs⟩⟩,fun k hk=>absurd hk (Nat.not_lt_zero _)⟩
 ·simp only [List.cons.injEq,and_true] at hcs
  simp only [if_true] at hm
  subst hm
  rw [hC] at hi
  obtain ⟨ps,h1,h2⟩:=list_of (n:=len) (Q:=fun i (p:Value×List Int)=>w.cells? 0 (a.add (i * 1)) 1=some [p.1]∧SlM 1 w.heap.size w p.1 p.2.length (iV p.2)) (fun i hlt=>by
   obtain ⟨cs',hc,ht⟩:=hi i (by omega)
   have hcl:cs'.length=1:=(World.cells?_some hc).2.1
   obtain ⟨u,rfl⟩:=List.length_eq_one_iff.1 hcl
   obtain ⟨zs,hz⟩:=open_row ht
   exact ⟨(u,zs),hc,hz⟩)
  refine ⟨ps.map (·.2),ps.map (·.1),by simp,?_,fun k hk=>?_⟩
  ·refine ⟨by simp,?_⟩
   simp only [List.length_map,h1]
   rcases Nat.eq_zero_or_pos len with h0 | h0
   ·subst h0
    exact .inl ⟨rfl,_,_,hcs⟩
   ·have hat:∀ (i:Nat) (p:Value×List Int),ps[i]? = some p→w.cell? (a.add i)=some p.1:=fun i p hp=>by
     have:=(World.cells?_some (h2 i p hp).1).2.2 0 (by omega)
     rw [Nat.mul_one] at this
     simpa [Addr.add] using this
    have e0:=hat 0 _ (List.getElem?_eq_getElem (by omega))
    have hs:a.spot=none:=by simpa [Addr.add] using World.cell?_spot e0
    have hb:=cell_lt e0
    obtain ⟨b,off,spot⟩:=a
    simp only at hs
    subst hs
    rw [add_mk] at hb
    refine .inr ⟨b,off,_,hcs,hb,fun j hj=>?_⟩
    have hj':j < ps.length:=by omega
    have e1:=hat j _ (List.getElem?_eq_getElem hj')
    rw [add_mk] at e1
    rw [e1,List.getElem?_map,List.getElem?_eq_getElem hj']
    rfl
  ·have hk':k < ps.length:=by simpa using hk
   refine ⟨ps[k].1,by rw [List.getElem?_map,List.getElem?_eq_getElem hk']; rfl,?_⟩
   rw [List.getElem_map]
   exact (h2 k _ (List.getElem?_eq_getElem hk')).2
theorem open_snap {fuel:Nat} {cs:List Value} {x:DataW H×List MemPlace} (h:DataW.trod enc Try.prog w 0 (fun _=>true) true fuel 38 cs=some x) :
  ∃ s:Sv,cs=s.cs∧SnM w.heap.size w s.v0 s.v1 s.v2 s.v3 s.v4 s.v5 s.s:=by
 obtain ⟨ys,n,_,_,hlen,hyl,hf⟩:=DataW.trod_struct Try.underlying38 h
 have hC:Try.prog.cellsOf 38 = 6:=by kernel_rfl
 rw [hC] at hlen
 match cs,hlen with
 | [c0,c1,c2,c3,c4,c5],_ =>
  have k0:=hf 0 _ rfl
  have k1:=hf 1 _ rfl
  have k2:=hf 2 _ rfl
  have k3:=hf 3 _ rfl
  have k4:=hf 4 _ rfl
  have k5:=hf 5 _ rfl
  have one:∀ t:TypeId,Try.prog.cellsOf t=1→∀ (c:Value) (l:List Value),(c::l).take (Try.prog.cellsOf t)=[c]:=fun t ht c l=>by rw [ht]; rfl
  have i1:Try.prog.cellsOf 35 = 1:=by kernel_rfl
  have i2:Try.prog.cellsOf 36 = 1:=by kernel_rfl
  have g:∀ i,i < 6→∃ y,ys[i]? = some y:=fun i hi=>⟨_,List.getElem?_eq_getElem (by rw [hyl]; exact hi)⟩
  obtain ⟨y0,e0⟩:=g 0 (by omega)
  obtain ⟨y1,e1⟩:=g 1 (by omega)
  obtain ⟨y2,e2⟩:=g 2 (by omega)
  obtain ⟨y3,e3⟩:=g 3 (by omega)
  obtain ⟨y4,e4⟩:=g 4 (by omega)
  obtain ⟨y5,e5⟩:=g 5 (by omega)
  replace k0:DataW.trod enc Try.prog w 0 (fun _=>true) true n 35 [c0]=some y0:=by rw [← e0,← k0,← one _ i1 c0 [c1,c2,c3,c4,c5]]; rfl
  replace k1:DataW.trod enc Try.prog w 0 (fun _=>true) true n 35 [c1]=some y1:=by rw [← e1,← k1,← one _ i1 c1 [c2,c3,c4,c5]]; rfl
  replace k2:DataW.trod enc Try.prog w 0 (fun _=>true) true n 36 [c2]=some y2:=by rw [← e2,← k2,← one _ i2 c2 [c3,c4,c5]]; rfl
  replace k3:DataW.trod enc Try.prog w 0 (fun _=>true) true n 35 [c3]=some y3:=by rw [← e3,← k3,← one _ i1 c3 [c4,c5]]; rfl
  replace k4:DataW.trod enc Try.prog w 0 (fun _=>true) true n 36 [c4]=some y4:=by rw [← e4,← k4,← one _ i2 c4 [c5]]; rfl
  replace k5:DataW.trod enc Try.prog w 0 (fun _=>true) true n 35 [c5]=some y5:=by rw [← e5,← k5,← one _ i1 c5 []]; rfl
  obtain ⟨l0,q0⟩:=open_row k0
  obtain ⟨l1,q1⟩:=open_row k1
  obtain ⟨l2,q2⟩:=open_rows k2
  obtain ⟨l3,q3⟩:=open_row k3
  obtain ⟨l4,q4⟩:=open_rows k4
  obtain ⟨l5,q5⟩:=open_row k5
  exact ⟨⟨c0,c1,c2,c3,c4,c5,⟨l0,l1,l2,l3,l4,l5⟩⟩,rfl,q0,q1,q2,q3,q4,q5⟩
theorem open_snaps {v:Value} {d:DataW H} {ps:List MemPlace} {r:Reach} {b0:Nat} (hv:Value.okWide Try.prog w r b0 22 v) (h:DataW.Trod enc Try.prog w 0 (fun _=>true) true 22 v d ps) :
  ∃ ss:List Sv,SlM 6 w.heap.size w v ss.length (svC ss)∧∀ x ∈ ss,SnM w.heap.size w x.v0 x.v1 x.v2 x.v3 x.v4 x.v5 x.s:=by
 have hC:Try.prog.cellsOf 38 = 6:=by kernel_rfl
 obtain ⟨a0,n0,c0,rfl⟩:=okWide_slice Try.underlying22 hv
 obtain ⟨fuel,hf⟩:=h
 rcases open_slice Try.underlying22 hf with ⟨hcs,_⟩ | ⟨a,len,cap,m,n,D,Pl,hcs,_,hl,_,hm,_,hi⟩
 ·simp [Value.cells] at hcs
  obtain ⟨rfl,rfl,rfl⟩:=hcs
  exact ⟨[],⟨rfl,.inl ⟨rfl,_,_,rfl⟩⟩,fun s hs=>by cases hs⟩
 ·simp [Value.cells] at hcs
  obtain ⟨rfl,rfl,rfl⟩:=hcs
  simp only [if_true] at hm
  subst hm
  rw [hC] at hi
  obtain ⟨ss,h1,h2⟩:=list_of (n:=n0) (Q:=fun i (s:Sv)=>w.cells? 0 (a.add (i * 6)) 6=some s.cs∧SnM w.heap.size w s.v0 s.v1 s.v2 s.v3 s.v4 s.v5 s.s) (fun i hlt=>by
   obtain ⟨cs',hc,ht⟩:=hi i (by omega)
   obtain ⟨s,rfl,h3⟩:=open_snap ht
   exact ⟨s,hc,h3⟩)
  refine ⟨ss,?_,fun s hs=>?_⟩
  ·refine ⟨svC_len ss,?_⟩
   rw [h1]
   rcases Nat.eq_zero_or_pos n0 with h0 | h0
   ·subst h0
    exact .inl ⟨rfl,_,_,rfl⟩
   ·have hat:∀ i s,ss[i]? = some s→∀ j,j < 6→w.cell? ((a.add (i * 6)).add j)=s.cs[j]?:=fun i s hs j hj=>(World.cells?_some (h2 i s hs).1).2.2 j hj
    have e0:=hat 0 ss[0] (List.getElem?_eq_getElem (by omega)) 0 (by omega)
    have hs:a.spot=none:=by
     have:=World.cell?_spot (e0.trans (show _=some ss[0].v0 from rfl))
     simpa [Addr.add] using this
    have hb:=cell_lt (e0.trans (show _=some ss[0].v0 from rfl))
    obtain ⟨b,off,spot⟩:=a
    simp only at hs
    subst hs
    rw [add_mk,add_mk] at hb
    refine .inr ⟨b,off,_,rfl,hb,fun j hj=>?_⟩
    have hq:j / 6 < ss.length:=by omega
    have e1:=hat (j / 6) ss[j / 6] (List.getElem?_eq_getElem hq) (j % 6) (by omega)
    rw [add_mk,add_mk] at e1
    rw [show off+j=off+j / 6 * 6+j % 6 by omega,e1]
    have e3:=svC_get ss (j / 6) (j % 6) hq (by omega)
    rw [show j / 6 * 6+j % 6=j by omega] at e3
    exact e3.symm
  ·obtain ⟨i,hi,e⟩:=List.getElem_of_mem hs
   exact (h2 i s (by rw [List.getElem?_eq_getElem hi,e])).2
theorem open_config {W:World} {base b0:Nat} {spare:Nat→Bool} {held:Bool} {r:Reach} {v:Value} {d:DataW H} {p:List MemPlace}
  (hv:Value.okWide Try.prog W r b0 24 v) (h:DataW.Trod enc Try.prog W base spare held 24 v d p) : ∃ a0:Int,∃ a1:Int,∃ a2:Int,∃ a3:Int,∃ a4:Int,∃ a5:Int,v=.agg #[.int .i64 a0,.int .i64 a1,.int .i64 a2,.int .i64 a3,.int .i64 a4,.int .i64 a5]:=by
 obtain ⟨cs,rfl,hsz,hf⟩:=open_cells Try.underlying24 (by kernel_rfl) (by kernel_rfl) hv h
 obtain ⟨l⟩:=cs
 have hl:l.length=6:=hsz
 match l,hl with
 | [c0,c1,c2,c3,c4,c5],_ =>
  obtain ⟨n0,y0,z0,hy0,hz0⟩:=hf 0 _ rfl
  cases hy0
  obtain ⟨m0,hm0,_,_⟩:=DataW.trod_int Try.underlying3 hz0
  cases hm0
  obtain ⟨n1,y1,z1,hy1,hz1⟩:=hf 1 _ rfl
  cases hy1
  obtain ⟨m1,hm1,_,_⟩:=DataW.trod_int Try.underlying3 hz1
  cases hm1
  obtain ⟨n2,y2,z2,hy2,hz2⟩:=hf 2 _ rfl
  cases hy2
  obtain ⟨m2,hm2,_,_⟩:=DataW.trod_int Try.underlying3 hz2
  cases hm2
  obtain ⟨n3,y3,z3,hy3,hz3⟩:=hf 3 _ rfl
  cases hy3
  obtain ⟨m3,hm3,_,_⟩:=DataW.trod_int Try.underlying3 hz3
  cases hm3
  obtain ⟨n4,y4,z4,hy4,hz4⟩:=hf 4 _ rfl
  cases hy4
  obtain ⟨m4,hm4,_,_⟩:=DataW.trod_int Try.underlying3 hz4
  cases hm4
  obtain ⟨n5,y5,z5,hy5,hz5⟩:=hf 5 _ rfl
  cases hy5
  obtain ⟨m5,hm5,_,_⟩:=DataW.trod_int Try.underlying3 hz5
  cases hm5
  exact ⟨m0,m1,m2,m3,m4,m5,rfl⟩
end
theorem own:ownKnob Try.prog.godebug=none:=by kernel_rfl
theorem laidOut:laidOutB Try.prog=true:=by kernel_rfl
theorem whereWatches_contract (H:Type) (enc:TypeId×Value→H) (W:World) (base:Nat) (args:Array Value) (ds gs:List (DataW H)) (before:List MemPlace)
  (hval:∀ (j:Nat) t v,Try.f3.params[j]? = some t→args[j]? = some v→Value.okWide Try.prog W .any base t v)
  (hW:DataW.Whole enc Try.prog Try.f3.params.toList Rows.whereWatchesSpec.vars false W args.toList ds gs before) :
  Calls Try.prog 3 args W fun e W'=>∃ v,e=.returned v∧Rows.whereWatchesSpec.post enc Try.prog Try.f3 false true false false W args v W':=by
 have hW':=hW
 obtain ⟨p,q,hA0,hV,rfl,hfz,hnd⟩:=hW
 have hA:DataW.TrodAll enc Try.prog W 0 (fun _=>true) true Try.f3.params.toList args.toList ds p:=hA0
 rw [Try.params3] at hA hval
 obtain ⟨v0,vs0,d0,ds0,p0,q0,hargs0,rfl,rfl,h0,r0⟩:=trodAll_cons hA
 obtain ⟨v1,vs1,d1,ds1,p1,q1,rfl,rfl,rfl,h1,r1⟩:=trodAll_cons r0
 obtain ⟨rfl,rfl,rfl⟩:=trodAll_nil r1
 obtain rfl:args = #[v0,v1]:=by cases args; simp_all
 obtain ⟨ss,hs,hok⟩:=open_snaps (hval 0 _ v0 rfl rfl) h0
 obtain ⟨k0,k1,k2,k3,k4,k5,rfl⟩:=open_config (hval 1 _ v1 rfl rfl) h1
 refine (callsIn_wide.1 (law_in 0 v0 ss k0 k1 k2 k3 k4 k5 W (fun m w=>callsIn_wide.2 (works_any w)) hs hok)).mono fun x W' ⟨he,hb⟩=>?_
 subst he
 exact ⟨_,rfl,law_post laidOut hW' rfl (by kernel_rfl) Try.underlying4 rfl (by
  rw [Try.params3]
  intro t ht
  simp only [List.mem_cons,List.not_mem_nil,or_false] at ht
  rcases ht with rfl | rfl <;> exact ⟨by kernel_rfl,of_decide_eq_true (by kernel_rfl)⟩) hb⟩
theorem whereWatches_lifted (os:Os) (started:os.Started) (H:Type) (enc:TypeId×Value→H) :
  ReturnsInHanded {} Try.checked os 3 .any (Rows.whereWatchesSpec.pre6 enc Try.prog Try.f3 Rows.whereWatchesRow.domain false) (Rows.whereWatchesSpec.post enc Try.prog Try.f3 false true false false):=by
 refine returnsInHanded_of_change (C:=Try.checked) own started (by kernel_rfl) Try.func3
  (ChangeSpec.witness6 (enc:=enc) (C:=Try.checked) false ⟨#[],#[.slice none 0 0,.agg #[.int .i64 0,.int .i64 0,.int .i64 0,.int .i64 0,.int .i64 0,.int .i64 0]],[]⟩ 8 (by kernel_rfl) (by kernel_rfl) (by kernel_rfl) (by kernel_rfl)) ?_
 intro W base args ds gs before hval hW _ _
 exact whereWatches_contract H enc W base args ds gs before hval hW
theorem whereWatches_holds:Rows.WhereWatchesSaid :=
 OpenClaim.holds_of_wide 3 Try.f3 rfl rfl rfl rfl rfl rfl rfl ⟨rfl,rfl,rfl,rfl,rfl⟩ rfl rfl rfl rfl rfl (by kernel_rfl) Try.func3 (by kernel_rfl)
  (of_decide_eq_true (by kernel_rfl)) (by unfold Func.isWrapper; first | (rw [if_pos (by decide +kernel)]; kernel_rfl) | (rw [if_neg (by decide +kernel)]; exact ⟨rfl,rfl⟩))
  (fun os started H enc _=>whereWatches_lifted os started H enc)
end Go.Proofs.Ytimhpaijbbegaaa
