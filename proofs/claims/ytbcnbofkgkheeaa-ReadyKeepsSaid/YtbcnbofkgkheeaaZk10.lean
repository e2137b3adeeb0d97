/- Part of a proof: see the last text. -/
import Derived.Test.YtbcnbofkgkheeaaZk9
import Derived.Test.YtbcnbofkgkheeaaRows
namespace Go.Ev
open Go.RowKit
set_option linter.unusedVariables false
set_option linter.unusedSimpArgs false
set_option linter.unusedSectionVars false
variable [Sig]
structure Env (n:Nat) (t:TV) (d:List Deferred) (a:Act) : Prop where
 sz:a.tmps.size=n
 lim:n≤4094
 df:a.defers=d
 get:∀ i,t.get i=a.tmps.getD i undef
theorem Env.eval {n:Nat} {t:TV} {df:List Deferred} {a:Act} (h:Env n t df a) : feval t=a.eval:=by
 funext x
 cases x with
 | tmp i=>exact h.get i
 | _=>rfl
theorem fput_ok {β:Type} {n:Nat} {t:TV} {df:List Deferred} {a:Act} (h:Env n t df a) (d:Option Tmp) (v:Value) (k:TV→β) : ∃ t1,fput n t d v k=k t1∧Env n t1 df (a.put d v):=by
 cases d with
 | none=>exact ⟨t,rfl,h⟩
 | some d =>
  show ∃ t1,@Bool.rec (fun _=>β) (k t) (frcV v (fun v=>TV.setK 12 t d v k)) (Nat.blt d n)=k t1∧_
  rw [brec]
  by_cases hd:@LT.lt Nat instLTNat d n
  ·have hb:Nat.blt d n=true:=Nat.ble_eq_true_of_le hd
   have hl:=h.lim
   rw [if_pos hb,frcV_eq,TV.setK_eq]
   refine ⟨_,rfl,by simp [Act.put,h.sz],h.lim,h.df,fun i=>?_⟩
   rw [TV.get_set _ _ _ _ _ (by omega)]
   simp only [Act.put,Array.getD_eq_getD_getElem?]
   rw [Array.getElem?_setIfInBounds]
   by_cases e:d=i
   ·subst e
    rw [if_pos rfl,if_pos rfl,if_pos (by rw [h.sz]; exact hd)]
    rfl
   ·rw [if_neg (fun e'=>e e'.symm),if_neg e,h.get i,Array.getD_eq_getD_getElem?]
  ·have hb:¬ Nat.blt d n=true:=fun hh=>hd (Nat.le_of_ble_eq_true hh)
   rw [if_neg hb]
   refine ⟨t,rfl,by simp [Act.put,h.sz],h.lim,h.df,fun i=>?_⟩
   rw [h.get i]
   simp only [Act.put,Array.getD_eq_getD_getElem?]
   rw [Array.getElem?_setIfInBounds]
   by_cases e:d=i
   ·subst e
    rw [if_pos rfl,if_neg (by rw [h.sz]; exact hd),Array.getElem?_eq_none (by rw [h.sz]; omega)]
   ·rw [if_neg e]
def CallRef (call:FCaller) (call':Caller) : Prop:=∀ c s v s1,call c s=some (v,s1)→call' c s=some (v,s1)
theorem fstep_ok {β:Type} {B:Base} (hB:BOK B) {call:FCaller} {call':Caller} (hc:CallRef call call') {n:Nat} {t:TV} {df:List Deferred} {a:Act} (h:Env n t df a) {o:Oper} {s:St} {k:TV→St→Option β} {r:β}
  (hr:fstep B call n t o s k=some r) : ∃ t1 a1 s1,astep B.P call' a o s=some (a1,s1)∧Env n t1 df a1∧k t1 s1=some r:=by
 have key:∀ x,fexec B t o s=some x→aexec B.P a o s=some x:=by
  intro x hx
  have:=fexec_ok hB hx
  rw [h.eval,rexec_eq] at this
  exact this
 have eg:fargs t o.op.operands.toList=gvals a o.op:=by
  rw [fargs_eq,h.eval]
  rfl
 unfold fstep at hr
 unfold astep
 rw [eg] at hr
 split at hr
 ·rename_i q hq
  obtain ⟨h1,h2⟩:=brec_some hr
  rw [hq]
  dsimp only
  unfold agops
  rw [if_pos h1]
  split at h2
  ·rename_i v s1 he
   obtain ⟨t1,e1,h3⟩:=fput_ok h o.dst v (fun t1=>k t1 s1)
   rw [e1] at h2
   rw [he]
   exact ⟨t1,_,s1,rfl,h3,h2⟩
  ·cases h2
 rename_i hq
 rw [hq]
 dsimp only
 split at hr
 ·rename_i v s1 he
  rw [key _ he]
  obtain ⟨t1,e1,h1⟩:=fput_ok h o.dst v (fun t1=>k t1 s1)
  rw [e1] at hr
  exact ⟨t1,_,s1,rfl,h1,hr⟩
 ·rename_i s1 he
  rw [key _ he]
  obtain ⟨t1,e1,h1⟩:=fput_ok h o.dst undef (fun t1=>k t1 s1)
  rw [e1] at hr
  exact ⟨t1,_,s1,rfl,h1,hr⟩
 ·rename_i f args s1 he
  rw [key _ he]
  split at hr
  ·rename_i v s2 hcl
   obtain ⟨t1,e1,h1⟩:=fput_ok h o.dst v (fun t1=>k t1 s2)
   rw [e1] at hr
   dsimp only
   rw [hc _ _ _ _ hcl]
   exact ⟨t1,_,s2,rfl,h1,hr⟩
  ·cases hr
 ·rename_i l fn tmps assign body s1 he
  rw [key _ he]
  split at hr
  ·rename_i v s2 hcl
   obtain ⟨t1,e1,h1⟩:=fput_ok h o.dst v (fun t1=>k t1 s2)
   rw [e1] at hr
   dsimp only
   rw [hc _ _ _ _ hcl]
   exact ⟨t1,_,s2,rfl,h1,hr⟩
  ·cases hr
 ·cases hr
theorem fyield_eq {n:Nat} {t:TV} {df:List Deferred} {a:Act} (h:Env n t df a) (ops:Array Oper) (j:Nat) : fyield ops t j=yielded ops a.tmps j:=by
 unfold fyield yielded
 cases (ops[j]?).bind (·.dst) with
 | none=>rfl
 | some d =>
  dsimp only [Option.bind]
  rw [h.get d,Array.getD_eq_getD_getElem?]
  cases a.tmps[d]? with
  | none=>rfl
  | some v=>cases v <;> rfl
theorem fwant_eq {n:Nat} {t:TV} {df:List Deferred} {a:Act} (h:Env n t df a) (ops:Array Oper) (o:Oper) : fwant ops t o=Region.wanted o (yielded ops a.tmps):=by
 unfold fwant Region.wanted
 cases o.guard with
 | none=>rfl
 | some g =>
  obtain ⟨j,w⟩:=g
  dsimp only
  rw [fyield_eq h]
  cases yielded ops a.tmps j with
  | none=>cases w <;> rfl
  | some b=>cases b <;> cases w <;> rfl
theorem flist_ok {B:Base} (hB:BOK B) {call:FCaller} {call':Caller} (hc:CallRef call call') {n:Nat} (ops:Array Oper) (df:List Deferred) : ∀ (l:List Oper) (t:TV) (a:Act) (s:St) (x:FRes),Env n t df a→flist B call n ops df l t s=some x →
  ∃ a1,alist B.P call' ops l a s=some (a1,x.2.2.2)∧Env n x.2.1 x.2.2.1 a1∧x.1=.normal:=by
 intro l
 induction l with
 | nil =>
  intro t a s x h hx
  cases hx
  exact ⟨a,rfl,h,rfl⟩
 | cons o l ih =>
  intro t a s x h hx
  have hx':@Bool.rec (fun _=>Option FRes) (fput n t o.dst undef (fun t1=>flist B call n ops df l t1 s)) (fstep B call n t o s (fun t1 s1=>flist B call n ops df l t1 s1)) (fwant ops t o)=some x:=hx
  rw [brec,fwant_eq h] at hx'
  unfold alist
  split at hx'
  ·rename_i hw
   rw [if_pos hw]
   obtain ⟨t1,a1,s1,e1,h1,hk⟩:=fstep_ok hB hc h hx'
   rw [e1]
   exact ih _ _ _ _ h1 hk
  ·rename_i hw
   rw [if_neg hw]
   obtain ⟨t1,e1,h1⟩:=fput_ok h o.dst undef (fun t1=>flist B call n ops df l t1 s)
   rw [e1] at hx'
   exact ih _ _ _ _ h1 hx'
theorem flogs_ok {B:Base} (hB:BOK B) {call:FCaller} {call':Caller} (hc:CallRef call call') {n:Nat} (ops:Array Oper) (df:List Deferred) : ∀ (l:List Oper) (t:TV) (a:Act) (s:St) (ls:List (List Touch)) (x:FRes),Env n t df a→flogs B call n ops df l t s ls=some x →
  ∃ a1 ls1,alogs B.P call' ops l a s ls=some (a1,x.2.2.2,ls1)∧(guardsOk ops && noClash (Region.before ops) ls1 (ops.size - 1))=true∧Env n x.2.1 x.2.2.1 a1∧x.1=.normal:=by
 intro l
 induction l with
 | nil =>
  intro t a s ls x h hx
  have hx':@Bool.rec (fun _=>Option FRes) none (some (.normal,t,df,s)) (guardsOk ops && noClash (Region.before ops) ls (ops.size - 1))=some x:=hx
  obtain ⟨h1,h2⟩:=brec_some hx'
  cases h2
  exact ⟨a,ls,rfl,h1,h,rfl⟩
 | cons o l ih =>
  intro t a s ls x h hx
  obtain ⟨hh,nx,lg⟩:=s
  have hx':@Bool.rec (fun _=>Option FRes) (fput n t o.dst undef (fun t1=>flogs B call n ops df l t1 ⟨hh,nx,lg⟩ ([]::ls)))
   (fstep B call n t o ⟨hh,nx,[]⟩ (fun t1 s1=>@St.rec (fun _=>Option FRes) (fun h1 nx1 lg1=>flogs B call n ops df l t1 ⟨h1,nx1,List.append lg1 lg⟩ (lg1::ls)) s1)) (fwant ops t o)=some x:=hx
  rw [brec,fwant_eq h] at hx'
  unfold alogs
  split at hx'
  ·rename_i hw
   rw [if_pos hw]
   obtain ⟨t1,a1,s1,e1,h1,hk⟩:=fstep_ok hB hc h hx'
   obtain ⟨h2,nx2,lg2⟩:=s1
   dsimp only
   rw [e1]
   exact ih _ _ _ _ _ h1 hk
  ·rename_i hw
   rw [if_neg hw]
   obtain ⟨t1,e1,h1⟩:=fput_ok h o.dst undef (fun t1=>flogs B call n ops df l t1 ⟨hh,nx,lg⟩ ([]::ls))
   rw [e1] at hx'
   exact ih _ _ _ _ _ h1 hx'
theorem fromK_ok {β:Type} : ∀ (l:List Value) (i:Nat) (t:TV) (k:TV→β),i+l.length≤4094→∃ t1,fromK l i t k=k t1∧∀ j,t1.get j=if i≤j∧j < i+l.length then (l[j - i]?).getD undef else t.get j:=by
 intro l
 induction l with
 | nil =>
  intro i t k hl
  refine ⟨t,rfl,fun j=>?_⟩
  rw [if_neg (by simp only [List.length_nil]; omega)]
 | cons v l ih =>
  intro i t k hl
  rw [List.length_cons] at hl
  obtain ⟨t1,e1,h1⟩:=ih (i+1) (TV.set 12 t i v) k (by omega)
  refine ⟨t1,?_,fun j=>?_⟩
  ·show TV.setK 12 t i v (fun t1=>fromK l (Nat.succ i) t1 k)=_
   rw [TV.setK_eq]
   exact e1
  ·rw [h1 j,TV.get_set _ _ _ _ _ (by omega),List.length_cons]
   by_cases hj:j=i
   ·subst hj
    rw [if_neg (by omega),if_pos rfl,if_pos (by omega)]
    simp
   ·rw [if_neg hj]
    by_cases hr:i+1≤j∧j < i+1+l.length
    ·rw [if_pos hr,if_pos (by omega),show j - i=(j - (i+1))+1 by omega]
     simp
    ·rw [if_neg hr,if_neg (by omega)]
theorem lst_eq (t:TV) : ∀ (k i:Nat),t.lst k i=(List.range' i k).map t.get:=by
 intro k
 induction k with
 | zero=>intro i; rfl
 | succ k ih =>
  intro i
  show t.get i::t.lst k (Nat.succ i)=_
  rw [ih,List.range'_succ]
  rfl
theorem act_eq {n:Nat} {t:TV} {df:List Deferred} {a:Act} (h:Env n t df a) : (t.act n).tmps=a.tmps:=by
 apply Array.ext'
 show t.lst n 0=_
 rw [lst_eq]
 apply List.ext_getElem?
 intro i
 rw [List.getElem?_map]
 by_cases hi:i < n
 ·rw [List.getElem?_range' hi,Array.getElem?_toList,Array.getElem?_eq_getElem (by rw [h.sz]; exact hi)]
  simp only [Option.map_some,Nat.one_mul,Nat.zero_add]
  rw [h.get i,Array.getD_eq_getD_getElem?,Array.getElem?_eq_getElem (by rw [h.sz]; exact hi)]
  rfl
 ·rw [List.getElem?_eq_none (by simp; omega),Array.getElem?_toList,Array.getElem?_eq_none (by rw [h.sz]; omega)]
  rfl
theorem fresL_ok {P:Program} {n:Nat} {t:TV} {df:List Deferred} {a:Act} (h:Env n t df a) (s:St) (f:ResultVar→Sem Value) (hf:∀ i,f (.tmp i)=pure (a.tmps.getD i undef)) : ∀ (l:List ResultVar) (vs:List Value),fresL t l=some vs →
  arun P (l.mapM f) s=some (vs,s):=by
 intro l
 induction l with
 | nil =>
  intro vs hv
  cases hv
  rfl
 | cons r l ih =>
  intro vs hv
  have hv':fresS t r (fresL t l)=some vs:=hv
  unfold fresS at hv'
  rw [List.mapM_cons,arun_bnd]
  split at hv'
  ·rename_i i ws hl
   cases hv'
   rw [hf]
   show arun P _ s=_
   rw [arun_bnd,ih ws hl,h.get i]
   rfl
  ·cases hv'
theorem arun_map {α β:Type} (P:Program) (f:α→β) (m:Sem α) (s:St) : arun P (Functor.map f m) s=(arun P m s).bind fun (a,s1)=>some (f a,s1):=by
 show arun P (m >>= fun a=>pure (f a)) s=_
 rw [arun_bnd]
 rfl
theorem fres_ok {P:Program} {fn:Func} {t:TV} {df:List Deferred} {a:Act} (h:Env fn.ntmps t df a) {s:St} {r:Value×St} (hr:fres P fn t s=some r) : aresults P fn a s=some r:=by
 have multi:∀ vs,fresL t fn.results.toList=some vs→aresults P fn a s=some (if h:vs.length=1 then vs[0] else .tuple ⟨vs⟩,s):=by
  intro vs hv
  unfold aresults results
  rw [arun_bnd,Array.mapM_eq_mapM_toList,arun_map,fresL_ok h s _ (fun i=>rfl) _ _ hv]
  rfl
 unfold fres at hr
 split at hr
 ·rename_i i hl
  cases hr
  have:=multi [t.get i] (by rw [hl]; rfl)
  rw [this]
  rfl
 ·rename_i hl
  cases hr
  have:=multi [] (by rw [hl]; rfl)
  rw [this]
  rfl
 ·rename_i x y l hl
  split at hr
  ·rename_i vs hv
   cases hr
   have:=multi vs (by rw [hl]; exact hv)
   rw [this,dif_neg]
   intro hlen
   have hlens:∀ (l:List ResultVar) (vs:List Value),fresL t l=some vs→vs.length=l.length:=by
    intro l
    induction l with
    | nil=>intro vs hv; cases hv; rfl
    | cons r l ih =>
     intro vs hv
     have hv':fresS t r (fresL t l)=some vs:=hv
     unfold fresS at hv'
     split at hv'
     ·rename_i i ws hl
      cases hv'
      rw [List.length_cons,List.length_cons,ih ws hl]
     ·cases hv'
   have:=hlens _ _ hv
   simp at this
   omega
  ·rw [act_eq h] at hr
   exact hr
 ·rw [act_eq h] at hr
  exact hr
theorem lstK_eq {β:Type} (t:TV) : ∀ (k i:Nat) (f:List Value→β),t.lstK k i f=f (t.lst k i):=by
 intro k
 induction k with
 | zero=>intro i f; rfl
 | succ k ih =>
  intro i f
  show frcV (t.get i) (fun v=>t.lstK k (Nat.succ i) (fun l=>f (v::l)))=f (t.get i::t.lst k (Nat.succ i))
  rw [frcV_eq,ih]
def RunRef (run:FRun) (run':Runner) : Prop:=∀ rd n c t d a s ex t1 d1 s1,Env n t d a→run rd n c t d s=some (ex,t1,d1,s1)→∃ a1,run' rd c a s=some (ex,a1,s1)∧Env n t1 d1 a1
theorem start_env {args:List Value} {n:Nat} (h1:args.length≤n) (h2:n≤4094) {β:Type} (k:TV→β) : ∃ t,fromK args 0 .leaf k=k t∧Env n t [] { tmps:=⟨args⟩++Array.replicate (n - args.length) undef,defers:=[] }:=by
 obtain ⟨t0,e0,g0⟩:=fromK_ok args 0 .leaf k (by omega)
 refine ⟨t0,e0,by simp; omega,h2,rfl,fun i=>?_⟩
 rw [g0 i,Array.getD_eq_getD_getElem?]
 by_cases hi:i < args.length
 ·rw [if_pos (by omega),Array.getElem?_append_left (by simpa using hi),Nat.sub_zero]
  simp
 ·rw [if_neg (by omega),Array.getElem?_append_right (by simpa using hi),Array.getElem?_replicate]
  split <;> rfl
theorem fend_ok {P:Program} {fn:Func} {t:TV} {d:List Deferred} {a:Act} (h:Env fn.ntmps t d a) {s:St} {r:Value×St} (hr:fend P fn t d s=some r) {e:Exit} (he:atEnd e=true) : aleave P fn e a s=some r:=by
 unfold fend at hr
 unfold aleave
 rw [he,h.df]
 dsimp only
 split at hr
 ·rename_i u s1 hm
  rw [hm]
  exact fres_ok h hr
 ·cases hr
theorem fcallF_ok {B:Base} (hB:BOK B) {run:FRun} {run':Runner} (hr:RunRef run run') (f:FuncId) (args:Array Value) (s:St) (v:Value) (s1:St) (h:fcallF B run f args.toList s=some (v,s1)) : acallF B.P run' f args s=some (v,s1):=by
 unfold fcallF at h
 unfold acallF
 split at h
 ·rename_i r hq
  rw [hq]
  exact h
 ·rename_i hq
  rw [hq]
  dsimp only
  split at h
  ·rename_i q hg
   rw [hg]
   exact h
  rename_i hg
  rw [hg]
  dsimp only
  split at h
  case h_2=>cases h
  rename_i fn hf
  split at h
  ·rename_i body hb
   obtain ⟨h1,h2⟩:=brec_some h
   rw [Bool.and_eq_true] at h1
   have hl1:args.toList.length≤fn.ntmps:=Nat.le_of_ble_eq_true h1.1
   have hl2:fn.ntmps≤4094:=Nat.le_of_ble_eq_true h1.2
   obtain ⟨t0,e0,env⟩:=start_env hl1 hl2 (fun t=>fret B.P fn (run none fn.ntmps body t [] s))
   rw [e0] at h2
   rw [hB.F _ _ hf]
   dsimp only
   rw [hb]
   dsimp only
   have env':Env fn.ntmps t0 [] { tmps:=args++Array.replicate (fn.ntmps - args.size) undef,defers:=[] }:=by
    have e:(⟨args.toList⟩ : Array Value)=args:=rfl
    rw [e,Array.length_toList] at env
    exact env
   unfold fret at h2
   split at h2
   ·rename_i t d s2 hrun
    obtain ⟨a1,q1,q2⟩:=hr _ _ _ _ _ _ _ _ _ _ _ env' hrun
    rw [q1]
    exact fend_ok q2 h2 rfl
   ·rename_i t d s2 hrun
    obtain ⟨a1,q1,q2⟩:=hr _ _ _ _ _ _ _ _ _ _ _ env' hrun
    rw [q1]
    exact fend_ok q2 h2 rfl
   ·cases h2
  ·cases h
theorem fcallR_ok {B:Base} {run:FRun} {run':Runner} (hr:RunRef run run') (l:Nat) (tmps:Array Value) (assign body:Code) (s:St) (v:Value) (s1:St) (h:fcallR B run l tmps.toList assign body s=some (v,s1)) : acallR B.P run' l tmps assign body s=some (v,s1):=by
 unfold fcallR at h
 rw [frcN_eq] at h
 obtain ⟨h1,h2⟩:=brec_some h
 have hl:tmps.toList.length≤4094:=Nat.le_of_ble_eq_true h1
 obtain ⟨t0,e0,env⟩:=start_env (Nat.le_refl _) hl (fun t=>frnd B run l tmps.toList.length body (run (some l) tmps.toList.length assign t [] s))
 rw [e0] at h2
 have env':Env tmps.toList.length t0 [] { tmps:=tmps,defers:=[] }:=by
  have e:(⟨tmps.toList⟩ : Array Value)++Array.replicate (tmps.toList.length - tmps.toList.length) undef=tmps:=by
   apply Array.ext'
   simp
  rw [e] at env
  exact env
 unfold acallR
 unfold frnd at h2
 split at h2
 ·rename_i t d s2 hrun
  obtain ⟨a1,q1,q2⟩:=hr _ _ _ _ _ _ _ _ _ _ _ env' hrun
  rw [q1]
  simp only [isNormal,if_true]
  split at h2
  ·rename_i u s3 hb
   rw [hb]
   dsimp only
   unfold frend at h2
   split at h2
   ·rename_i e t3 d3 s4 hrun2
    obtain ⟨a3,q3,q4⟩:=hr _ _ _ _ _ _ _ _ _ _ _ q2 hrun2
    rw [q3]
    exact h2
   ·cases h2
  ·cases h2
 ·cases h2
theorem fcall_ok {B:Base} (hB:BOK B) {run:FRun} {run':Runner} (hr:RunRef run run') : CallRef (fcall B run) (acall B.P run'):=by
 intro c s v s1 h
 cases c with
 | fn f args=>exact fcallF_ok hB hr f args s v s1 h
 | rnd l tmps assign body=>exact fcallR_ok hr l tmps assign body s v s1 h
theorem floopCall_ok {B:Base} (hB:BOK B) {n:Nat} {t:TV} {d:List Deferred} {a:Act} (h:Env n t d a) {g:Operand} {l:Nat} {f:FuncId} {args:List Value} (hr:floopCall B t g l=some (f,args)) : aloopCall B.P a g l=some (f,⟨args⟩):=by
 unfold floopCall at hr
 rw [h.eval] at hr
 unfold aloopCall
 split at hr
 ·rename_i f0 first captured hg
  obtain ⟨h1,h2⟩:=brec_some hr
  rw [Bool.and_eq_true] at h1
  cases h2
  rw [if_pos h1.1,hg]
  dsimp only
  rw [if_pos (fnF_ok hB h1.2)]
  congr 2
  apply Array.ext'
  simp
 ·cases hr
theorem frange_ok {B:Base} (hB:BOK B) {run:FRun} {run':Runner} (hr:RunRef run run') (rd:Option Nat) (n:Nat) (g:Operand) (ps:Array Tmp) (assign body:Code) (t:TV) (d:List Deferred) (a:Act) (s:St) (ex:Exit) (t1:TV) (d1:List Deferred) (s1:St) (h:Env n t d a)
  (hx:frange B run rd n g ps assign body t d s=some (ex,t1,d1,s1)) : ∃ a1,arange B.P run' rd g ps assign body a s=some (ex,a1,s1)∧Env n t1 d1 a1:=by
 unfold frange at hx
 rw [lstK_eq] at hx
 have e:(⟨t.lst n 0⟩ : Array Value)=a.tmps:=act_eq h
 rw [e] at hx
 unfold arange
 split at hx
 ·rename_i l mark s2 h1
  rw [h1]
  dsimp only
  split at hx
  ·rename_i f args h2
   rw [floopCall_ok hB h h2]
   dsimp only
   unfold frangeE at hx
   split at hx
   ·rename_i v s3 h3
    rw [fcallF_ok hB hr f ⟨args⟩ s2 v s3 h3]
    dsimp only
    split at hx
    ·rename_i j s4 h4
     rw [h4]
     obtain ⟨h5,h6⟩:=brec_some hx
     dsimp only
     rw [if_pos h5]
     have env:Env n t (List.append mark d) { a with defers:=mark++a.defers }:=⟨h.sz,h.lim,by rw [h.df]; rfl,h.get⟩
     unfold fjump at h6
     unfold ajump
     split at h6
     ·cases h6
      exact ⟨_,rfl,env⟩
     ·exact hr _ _ _ _ _ _ _ _ _ _ _ env h6
    ·cases hx
   ·cases hx
  ·cases hx
 ·cases hx
theorem fev_ok {B:Base} (hB:BOK B) : ∀ (m:Nat),RunRef (fev B m) (ev B.P m):=by
 intro m
 induction m with
 | zero=>intro rd n c t d a s ex t1 d1 s1 h hx; cases hx
 | succ m ih =>
  intro rd n c t d a s ex t1 d1 s1 h hx
  have hc:CallRef (fcall B (fev B m)) (acall B.P (ev B.P m)):=fcall_ok hB ih
  have hx':fcode B (fev B m) rd n c t d s=some (ex,t1,d1,s1):=hx
  have seq:∀ (x y:Code),fseq (fev B m rd n x t d s) (fun t1 d1 s1=>fev B m rd n y t1 d1 s1)=some (ex,t1,d1,s1) →
    ∃ a1,(match ev B.P m rd x a s with | some (.normal,a1,s1)=>ev B.P m rd y a1 s1 | r=>r)=some (ex,a1,s1)∧Env n t1 d1 a1:=by
   intro x y hs
   unfold fseq at hs
   split at hs
   ·rename_i t2 d2 s2 he
    obtain ⟨a2,q1,q2⟩:=ih _ _ _ _ _ _ _ _ _ _ _ h he
    rw [q1]
    exact ih _ _ _ _ _ _ _ _ _ _ _ q2 hs
   ·rename_i e t2 d2 s2 hne he
    cases hs
    obtain ⟨a2,q1,q2⟩:=ih _ _ _ _ _ _ _ _ _ _ _ h he
    rw [q1]
    refine ⟨a2,?_,q2⟩
    cases ex with
    | normal=>exact (hne rfl).elim
    | _=>rfl
   ·cases hs
  unfold fcode at hx'
  unfold ev
  split at hx'
  ·cases hx'; exact ⟨a,rfl,h⟩
  ·cases hx'; exact ⟨a,rfl,h⟩
  ·cases hx'; exact ⟨a,rfl,h⟩
  ·cases hx'; exact ⟨a,rfl,h⟩
  ·cases hx'; exact ⟨a,rfl,h⟩
  ·exact seq _ _ hx'
  ·rename_i c x y
   obtain ⟨h1,h2⟩:=brec_some hx'
   unfold fcond at h2
   split at h2
   ·rename_i b hb
    rw [h.eval] at hb
    dsimp only
    rw [h1,hb]
    dsimp only
    cases b with
    | false=>exact ih _ _ _ _ _ _ _ _ _ _ _ h h2
    | true=>exact ih _ _ _ _ _ _ _ _ _ _ _ h h2
   ·cases h2
  ·rename_i id body
   unfold fblock at hx'
   split at hx'
   ·rename_i i t2 d2 s2 he
    obtain ⟨a2,q1,q2⟩:=ih _ _ _ _ _ _ _ _ _ _ _ h he
    dsimp only
    rw [q1]
    dsimp only
    rw [brec] at hx'
    split at hx'
    ·rename_i hi
     cases hx'
     rw [if_pos (Nat.eq_of_beq_eq_true hi)]
     exact ⟨a2,rfl,q2⟩
    ·rename_i hi
     cases hx'
     rw [if_neg (fun e=>hi (by rw [e]; exact Nat.beq_refl _))]
     exact ⟨a2,rfl,q2⟩
   ·rename_i e t2 d2 s2 hne he
    cases hx'
    obtain ⟨a2,q1,q2⟩:=ih _ _ _ _ _ _ _ _ _ _ _ h he
    dsimp only
    rw [q1]
    refine ⟨a2,?_,q2⟩
    cases ex with
    | exit i=>exact (hne i rfl).elim
    | _=>rfl
   ·cases hx'
  ·exact seq _ _ hx'
  ·rename_i body
   split at hx'
   ·unfold fscope at hx'
    split at hx'
    ·rename_i l t2 d2 s2 he
     obtain ⟨a2,q1,q2⟩:=ih _ _ _ _ _ _ _ _ _ _ _ h he
     dsimp only
     rw [q1]
     unfold ascope
     split at hx'
     case h_2=>cases hx'
     rename_i rest hf
     simp only [hf]
     unfold fscopeJ at hx'
     split at hx'
     ·cases hx'
     ·rename_i e t3 d3 s3 hne he3
      cases hx'
      obtain ⟨a3,q3,q4⟩:=ih _ _ _ _ _ _ _ _ _ _ _ q2 he3
      rw [q3]
      refine ⟨a3,?_,q4⟩
      cases ex with
      | goto i=>exact (hne i rfl).elim
      | _=>rfl
     ·cases hx'
    ·rename_i e t2 d2 s2 hne he
     cases hx'
     obtain ⟨a2,q1,q2⟩:=ih _ _ _ _ _ _ _ _ _ _ _ h he
     dsimp only
     rw [q1]
     refine ⟨a2,?_,q2⟩
     cases ex with
     | goto i=>exact (hne i rfl).elim
     | _=>rfl
    ·cases hx'
   ·cases hx'
  ·rename_i g ps assign body
   exact frange_ok hB ih _ _ _ _ _ _ _ _ _ _ _ _ _ _ h hx'
  ·rename_i id ops draw
   dsimp only
   cases draw with
   | false =>
    obtain ⟨a1,q1,q2,q3⟩:=flist_ok hB hc ops _ _ _ _ _ _ h hx'
    dsimp only at q1 q2 q3
    subst q3
    have:aregion B.P (acall B.P (ev B.P m)) ops false a s=some (a1,s1):=by
     simp only [aregion,Bool.false_eq_true,if_false]
     exact q1
    rw [this]
    exact ⟨a1,rfl,q2⟩
   | true =>
    obtain ⟨a1,ls1,q1,q4,q2,q3⟩:=flogs_ok hB hc ops _ _ _ _ _ _ _ h hx'
    dsimp only at q1 q2 q3
    subst q3
    have:aregion B.P (acall B.P (ev B.P m)) ops true a s=some (a1,s1):=by
     simp only [aregion,if_true]
     rw [q1]
     dsimp only
     rw [if_pos q4]
    rw [this]
    exact ⟨a1,rfl,q2⟩
  ·cases hx'
theorem fast_bool {P:Program} (hP:P.check=.ok ()) (hcal:CalOK P) (hm:P.follows .mixedOrders=true) {n:Nat} {f:FuncId} {args args':Array Value} (h:withB P (fun B=>isTrue (fcallF B (fev B n) f args.toList s0))=true) (ha:ARel (fun _=>none) args args') (w:World) :
  Calls P f args' w fun e w1=>e=.returned (.bool true)∧Below w.heap.size w w1:=by
 obtain ⟨B,hB,hBP,e⟩:=withB_ok P (fun B=>isTrue (fcallF B (fev B n) f args.toList s0))
 rw [e] at h
 subst hBP
 refine closed_bool hP hcal hm (n:=n) (f:=f) (args:=args) ?_ ha w
 unfold isTrue at h
 split at h
 ·rename_i b s1 hc
  have:=fcallF_ok hB (fev_ok hB n) f args s0 _ _ hc
  show isTrue (acallF B.P (ev B.P n) f args s0)=true
  rw [this]
  exact h
 ·cases h
end Go.Ev
namespace Go.Proofs.Ytbcnbofkgkheeaa
open Go.RowKit
set_option linter.unusedVariables false
theorem mixed_ok:Try.prog.follows .mixedOrders=true:=by kernel_rfl
theorem noArgs:@Ev.ARel Ev.noSig (fun _=>none) #[] #[]:=⟨rfl,fun i v v' h=>by simp at h⟩
theorem works_runs:Ev.withB Try.prog (fun B=>Ev.isTrue (@Ev.fcallF Ev.noSig B (@Ev.fev Ev.noSig B 200) 6 [] Ev.s0))=true:=by kernel_rfl
theorem works_any (w:World) : Calls Try.prog 6 #[] w fun e w'=>e=.returned (.bool true)∧Below w.heap.size w w' :=
 @Ev.fast_bool Ev.noSig _ Try.codeOk (@Ev.noCal Ev.noSig _) mixed_ok 200 _ #[] _ works_runs noArgs w
end Go.Proofs.Ytbcnbofkgkheeaa
namespace Go.Ev
open Go.RowKit
set_option linter.unusedVariables false
set_option linter.unusedSimpArgs false
noncomputable def ikq (a b:IntKind) : Bool:=Nat.beq (ikn a) (ikn b)
def inq:Int→Int→Bool
 | .ofNat a,.ofNat b=>Nat.beq a b
 | .negSucc a,.negSucc b=>Nat.beq a b
 | _,_=>false
def bnn:BinOp→Nat
 | .add=>0 | .sub=>1 | .mul=>2 | .quo=>3 | .rem=>4 | .and=>5 | .or=>6 | .xor=>7 | .shl=>8 | .shr=>9 | .andNot=>10 | .eql=>11 | .neq=>12 | .lss=>13 | .leq=>14 | .gtr=>15 | .geq=>16
def unn:UnOp→Nat
 | .neg=>0 | .xor=>1 | .not=>2 | .plus=>3
noncomputable def sameV:Value→Value→Bool
 | .int k n,.int k' n'=>ikq k k' && inq n n'
 | .bool a,.bool b=>match a,b with | true,true=>true | false,false=>true | _,_=>false
 | .complex .f64 n 0,.complex .f64 n' 0=>Nat.beq n n'
 | .pointer none,.pointer none=>true
 | .slice none 0 0,.slice none 0 0=>true
 | .map none,.map none=>true
 | .nilFunc,.nilFunc=>true
 | .nilIface,.nilIface=>true
 | _,_=>false
noncomputable def sameL:List Value→List Value→Bool
 | [],[]=>true
 | x::l,y::m=>sameV x y && sameL l m
 | _,_=>false
noncomputable def sameD:Value→Value→Bool
 | .agg ⟨l⟩,.agg ⟨m⟩=>sameL l m
 | x,y=>sameV x y
noncomputable def sameA:List Value→List Value→Bool
 | [],[]=>true
 | x::l,y::m=>sameD x y && sameA l m
 | _,_=>false
theorem sameV_eq {x y:Value} (h:sameV x y=true) : x=y∧symV x=true:=by
 unfold sameV at h
 split at h
 ·rename_i k n k' n'
  rw [Bool.and_eq_true] at h
  have hk:=@ikn_eq noSig _ _ h.1
  have hn:n=n':=by
   have h2:=h.2
   unfold inq at h2
   split at h2
   ·rw [Nat.eq_of_beq_eq_true h2]
   ·rw [Nat.eq_of_beq_eq_true h2]
   ·cases h2
  rw [hk,hn]
  exact ⟨rfl,rfl⟩
 ·rename_i a b
  cases a <;> cases b <;> first | exact ⟨rfl,rfl⟩ | cases h
 ·rename_i n n'
  rw [Nat.eq_of_beq_eq_true h]
  exact ⟨rfl,rfl⟩
 ·exact ⟨rfl,rfl⟩
 ·exact ⟨rfl,rfl⟩
 ·exact ⟨rfl,rfl⟩
 ·exact ⟨rfl,rfl⟩
 ·exact ⟨rfl,rfl⟩
 ·cases h
theorem sameL_eq:∀ {l m:List Value},sameL l m=true→l=m∧l.all symV=true:=by
 intro l
 induction l with
 | nil =>
  intro m h
  cases m with
  | nil=>exact ⟨rfl,rfl⟩
  | cons y m=>cases h
 | cons x l ih =>
  intro m h
  cases m with
  | nil=>cases h
  | cons y m =>
   have h':(sameV x y && sameL l m)=true:=h
   rw [Bool.and_eq_true] at h'
   obtain ⟨h1,h2⟩:=sameV_eq h'.1
   obtain ⟨h3,h4⟩:=ih h'.2
   rw [h1,h3]
   refine ⟨rfl,?_⟩
   rw [← h1,← h3]
   simp [h2,h4]
def cvD (val:Nat→Value) : Value→Value
 | .agg cs=>.agg (cs.toList.map (cvV val)).toArray
 | v=>cvV val v
def symD:Value→Bool
 | .agg cs=>cs.toList.all symV
 | v=>symV v
theorem sameD_eq {x y:Value} (h:sameD x y=true) : x=y∧symD x=true:=by
 unfold sameD at h
 split at h
 ·rename_i l m
  obtain ⟨h1,h2⟩:=sameL_eq h
  subst h1
  exact ⟨rfl,h2⟩
 ·rename_i hne
  obtain ⟨h1,h2⟩:=sameV_eq h
  refine ⟨h1,?_⟩
  cases x <;> first | exact h2 | cases h2
theorem sameA_eq:∀ {l m:List Value},sameA l m=true→l=m∧∀ x ∈ l,symD x=true:=by
 intro l
 induction l with
 | nil =>
  intro m h
  cases m with
  | nil=>exact ⟨rfl,fun x hx=>by cases hx⟩
  | cons y m=>cases h
 | cons x l ih =>
  intro m h
  cases m with
  | nil=>cases h
  | cons y m =>
   have h':(sameD x y && sameA l m)=true:=h
   rw [Bool.and_eq_true] at h'
   obtain ⟨h1,h2⟩:=sameD_eq h'.1
   obtain ⟨h3,h4⟩:=ih h'.2
   subst h1 h3
   refine ⟨rfl,fun z hz=>?_⟩
   rcases List.mem_cons.1 hz with e | e
   ·rw [e]; exact h2
   ·exact h4 z e
abbrev BFact:=BinOp×Value×Value×Value
abbrev UFact:=UnOp×Value×Value
abbrev CFact:=IntKind×Value×Value
abbrev KFact:=FuncId×List Value×Value
noncomputable def findB (op:BinOp) (x y:Value) : List BFact→Option Value
 | []=>none
 | (o,a,b,r)::l=>if Nat.beq (bnn op) (bnn o) && (sameV x a && (sameV y b && symV r)) then some r else findB op x y l
noncomputable def findU (op:UnOp) (x:Value) : List UFact→Option Value
 | []=>none
 | (o,a,r)::l=>if Nat.beq (unn op) (unn o) && (sameV x a && symV r) then some r else findU op x l
noncomputable def findC (k:IntKind) (x:Value) : List CFact→Option Value
 | []=>none
 | (o,a,r)::l=>if ikq k o && (sameV x a && symV r) then some r else findC k x l
noncomputable def findK (f:FuncId) (l:List Value) : List KFact→Option Value
 | []=>none
 | (g,m,r)::ks=>if Nat.beq f g && (sameA l m && symV r) then some r else findK f l ks
theorem bnn_eq {a b:BinOp} (h:Nat.beq (bnn a) (bnn b)=true) : a=b:=by
 cases a <;> cases b <;> first | rfl | (simp [bnn] at h)
theorem unn_eq {a b:UnOp} (h:Nat.beq (unn a) (unn b)=true) : a=b:=by
 cases a <;> cases b <;> first | rfl | (simp [unn] at h)
theorem findB_ok {op:BinOp} {x y r:Value} : ∀ {l:List BFact},findB op x y l=some r→(op,x,y,r) ∈ l∧symV x=true∧symV y=true∧symV r=true:=by
 intro l
 induction l with
 | nil=>intro h; cases h
 | cons q l ih =>
  intro h
  obtain ⟨o,a,b,z⟩:=q
  simp only [findB] at h
  split at h
  ·rename_i hc
   simp only [Bool.and_eq_true] at hc
   cases h
   obtain ⟨h1,h2⟩:=sameV_eq hc.2.1
   obtain ⟨h3,h4⟩:=sameV_eq hc.2.2.1
   rw [bnn_eq hc.1,← h1,← h3]
   exact ⟨List.mem_cons_self ..,h2,h4,hc.2.2.2⟩
  ·obtain ⟨h1,h2⟩:=ih h
   exact ⟨List.mem_cons_of_mem _ h1,h2⟩
theorem findU_ok {op:UnOp} {x r:Value} : ∀ {l:List UFact},findU op x l=some r→(op,x,r) ∈ l∧symV x=true∧symV r=true:=by
 intro l
 induction l with
 | nil=>intro h; cases h
 | cons q l ih =>
  intro h
  obtain ⟨o,a,z⟩:=q
  simp only [findU] at h
  split at h
  ·rename_i hc
   simp only [Bool.and_eq_true] at hc
   cases h
   obtain ⟨h1,h2⟩:=sameV_eq hc.2.1
   rw [unn_eq hc.1,← h1]
   exact ⟨List.mem_cons_self ..,h2,hc.2.2⟩
  ·obtain ⟨h1,h2⟩:=ih h
   exact ⟨List.mem_cons_of_mem _ h1,h2⟩
theorem findC_ok {k:IntKind} {x r:Value} : ∀ {l:List CFact},findC k x l=some r→(k,x,r) ∈ l∧symV x=true∧symV r=true:=by
 intro l
 induction l with
 | nil=>intro h; cases h
 | cons q l ih =>
  intro h
  obtain ⟨o,a,z⟩:=q
  simp only [findC] at h
  split at h
  ·rename_i hc
   simp only [Bool.and_eq_true] at hc
   cases h
   obtain ⟨h1,h2⟩:=sameV_eq hc.2.1
   rw [@ikn_eq noSig _ _ hc.1,← h1]
   exact ⟨List.mem_cons_self ..,h2,hc.2.2⟩
  ·obtain ⟨h1,h2⟩:=ih h
   exact ⟨List.mem_cons_of_mem _ h1,h2⟩
theorem findK_ok {f:FuncId} {args:List Value} {r:Value} : ∀ {l:List KFact},findK f args l=some r→(f,args,r) ∈ l∧(∀ x ∈ args,symD x=true)∧symV r=true:=by
 intro l
 induction l with
 | nil=>intro h; cases h
 | cons q l ih =>
  intro h
  obtain ⟨o,a,z⟩:=q
  simp only [findK] at h
  split at h
  ·rename_i hc
   simp only [Bool.and_eq_true] at hc
   cases h
   obtain ⟨h1,h2⟩:=sameA_eq hc.2.1
   rw [Nat.eq_of_beq_eq_true hc.1,← h1]
   exact ⟨List.mem_cons_self ..,h2,hc.2.2⟩
  ·obtain ⟨h1,h2⟩:=ih h
   exact ⟨List.mem_cons_of_mem _ h1,h2⟩
def BTrue (val:Nat→Value) (q:BFact) : Prop:=∀ t ox oy,(do eqGuard q.1 t ox oy (cvV val q.2.1) (cvV val q.2.2.1); binOp q.1 t (cvV val q.2.1) (cvV val q.2.2.1) : Sem Value)=pure (cvV val q.2.2.2)
def UTrue (val:Nat→Value) (q:UFact) : Prop:=Op.unary q.1 (cvV val q.2.1)=pure (cvV val q.2.2)
def CTrue (val:Nat→Value) (q:CFact) : Prop:=∃ k0 n,cvV val q.2.1=.int k0 n∧cvV val q.2.2=.int q.1 (q.1.wrap n)
def KTrue (P:Program) (val:Nat→Value) (q:KFact) : Prop:=∀ w,Calls P q.1 (q.2.1.map (cvD val)).toArray w fun e w'=>e=.returned (cvV val q.2.2)∧Below w.heap.size w w'
theorem symD_eq [Sig] {ι:Ren} {x x':Value} (h:VRel ι x x') (hs:symD x=true) : x'=cvD Sig.val x:=by
 cases h with
 | agg f f' hf hr =>
  have hs':∀ y ∈ f.toList,symV y=true:=by
   have:f.toList.all symV=true:=hs
   rwa [List.all_eq_true] at this
  show Value.agg f'=.agg (f.toList.map (cvV Sig.val)).toArray
  congr 1
  apply Array.ext (by simp [hf])
  intro i h1 h2
  have h3:i < f.size:=by rw [hf]; exact h1
  have:=sym_eq (hr i _ _ (Array.getElem?_eq_getElem h3) (Array.getElem?_eq_getElem h1)) (hs' _ (by rw [Array.mem_toList_iff]; exact Array.getElem_mem h3))
  rw [this]
  simp
 | sym n m _ hh=>exact hh.symm
 | _=>first | rfl | cases hs
theorem guard_int (op:BinOp) (t:TypeId) (ox oy:Operand) (k k':IntKind) (x y:Int) : eqGuard op t ox oy (.int k x) (.int k' y)=pure ():=by
 unfold eqGuard
 split <;> rfl
theorem bt_cmp {op:BinOp} {t:TypeId} {ox oy:Operand} {k:IntKind} {x y:Int} {b:Bool} (h:Op.intCmp op x y=pure (.bool b)) (ho:op=.eql∨op=.neq∨op=.lss∨op=.leq∨op=.gtr∨op=.geq) : (do eqGuard op t ox oy (.int k x) (.int k y); binOp op t (.int k x) (.int k y) : Sem Value)=pure (.bool b):=by
  rw [guard_int]
  show binOp op t (.int k x) (.int k y)=_
  rcases ho with rfl | rfl | rfl | rfl | rfl | rfl <;> simp [binOp,h]
theorem bt_geq {t:TypeId} {ox oy:Operand} {k:IntKind} {x y:Int} {b:Bool} (h:decide (x ≥ y)=b) : (do eqGuard .geq t ox oy (.int k x) (.int k y); binOp .geq t (.int k x) (.int k y) : Sem Value)=pure (.bool b):=bt_cmp (by unfold Op.intCmp; rw [h]) (by simp)
theorem bt_leq {t:TypeId} {ox oy:Operand} {k:IntKind} {x y:Int} {b:Bool} (h:decide (x≤y)=b) : (do eqGuard .leq t ox oy (.int k x) (.int k y); binOp .leq t (.int k x) (.int k y) : Sem Value)=pure (.bool b):=bt_cmp (by unfold Op.intCmp; rw [h]) (by simp)
theorem bt_lss {t:TypeId} {ox oy:Operand} {k:IntKind} {x y:Int} {b:Bool} (h:decide (x < y)=b) : (do eqGuard .lss t ox oy (.int k x) (.int k y); binOp .lss t (.int k x) (.int k y) : Sem Value)=pure (.bool b):=bt_cmp (by unfold Op.intCmp; rw [h]) (by simp)
theorem bt_gtr {t:TypeId} {ox oy:Operand} {k:IntKind} {x y:Int} {b:Bool} (h:decide (x > y)=b) : (do eqGuard .gtr t ox oy (.int k x) (.int k y); binOp .gtr t (.int k x) (.int k y) : Sem Value)=pure (.bool b):=bt_cmp (by unfold Op.intCmp; rw [h]) (by simp)
theorem bt_eql {t:TypeId} {ox oy:Operand} {k:IntKind} {x y:Int} {b:Bool} (h:decide (x=y)=b) : (do eqGuard .eql t ox oy (.int k x) (.int k y); binOp .eql t (.int k x) (.int k y) : Sem Value)=pure (.bool b):=bt_cmp (by unfold Op.intCmp; rw [← h]; rfl) (by simp)
theorem bt_neq {t:TypeId} {ox oy:Operand} {k:IntKind} {x y:Int} {b:Bool} (h:decide (x ≠ y)=b) : (do eqGuard .neq t ox oy (.int k x) (.int k y); binOp .neq t (.int k x) (.int k y) : Sem Value)=pure (.bool b):=bt_cmp (by unfold Op.intCmp; rw [← h]; simp [bne]; rfl) (by simp)
theorem bt_add {t:TypeId} {ox oy:Operand} {k:IntKind} {x y z:Int} (h:k.wrap (x+y)=z) : (do eqGuard .add t ox oy (.int k x) (.int k y); binOp .add t (.int k x) (.int k y) : Sem Value)=pure (.int k z):=by
  rw [guard_int]
  show binOp .add t (.int k x) (.int k y)=_
  simp [binOp,Op.intArith,h]
theorem bt_sub {t:TypeId} {ox oy:Operand} {k:IntKind} {x y z:Int} (h:k.wrap (x - y)=z) : (do eqGuard .sub t ox oy (.int k x) (.int k y); binOp .sub t (.int k x) (.int k y) : Sem Value)=pure (.int k z):=by
  rw [guard_int]
  show binOp .sub t (.int k x) (.int k y)=_
  simp [binOp,Op.intArith,h]
theorem bt_mul {t:TypeId} {ox oy:Operand} {k:IntKind} {x y z:Int} (h:k.wrap (x * y)=z) : (do eqGuard .mul t ox oy (.int k x) (.int k y); binOp .mul t (.int k x) (.int k y) : Sem Value)=pure (.int k z):=by
  rw [guard_int]
  show binOp .mul t (.int k x) (.int k y)=_
  simp [binOp,Op.intArith,h]
theorem bt_quo {t:TypeId} {ox oy:Operand} {k:IntKind} {x y z:Int} (hy:y ≠ 0) (h:k.wrap (x.tdiv y)=z) : (do eqGuard .quo t ox oy (.int k x) (.int k y); binOp .quo t (.int k x) (.int k y) : Sem Value)=pure (.int k z):=by
  rw [guard_int]
  show binOp .quo t (.int k x) (.int k y)=_
  simp [binOp,Op.intDiv,h,hy]
theorem bt_rem {t:TypeId} {ox oy:Operand} {k:IntKind} {x y z:Int} (hy:y ≠ 0) (h:x.tmod y=z) : (do eqGuard .rem t ox oy (.int k x) (.int k y); binOp .rem t (.int k x) (.int k y) : Sem Value)=pure (.int k z):=by
  rw [guard_int]
  show binOp .rem t (.int k x) (.int k y)=_
  simp [binOp,Op.intDiv,h,hy]
theorem ut_neg {k:IntKind} {x z:Int} (h:k.wrap (0 - x)=z) : Op.unary .neg (.int k x)=pure (.int k z):=by
 simp only [Op.unary,Op.intArith,h]
abbrev sy (n:Nat) : Value:=.complex .f64 n 0
theorem ct_in {val:Nat→Value} {k k0:IntKind} {x r:Value} {n m:Int} (hx:cvV val x=.int k0 n) (hr:cvV val r=.int k m) (h:k.wrap n=m) : CTrue val (k,x,r):=⟨k0,n,hx,by rw [h]; exact hr⟩
end Go.Ev
namespace Go.Ev
open Go.RowKit
set_option linter.unusedVariables false
set_option linter.unusedSimpArgs false
set_option linter.unusedSectionVars false
noncomputable def eqA:Option Addr→Option Addr→Bool
 | none,none=>true
 | some ⟨b,o,none⟩,some ⟨b',o',none⟩=>Nat.beq b b' && Nat.beq o o'
 | _,_=>false
noncomputable def eqN:Option Nat→Option Nat→Bool
 | none,none=>true
 | some b,some b'=>Nat.beq b b'
 | _,_=>false
noncomputable def eqF:FloatKind→FloatKind→Bool
 | .f32,.f32=>true
 | .f64,.f64=>true
 | _,_=>false
noncomputable def allL (f:Value→Value→Bool) : List Value→List Value→Bool
 | [],[]=>true
 | x::l,y::m=>f x y && allL f l m
 | _,_=>false
noncomputable def eqV:Nat→Value→Value→Bool
 | 0,_,_=>false
 | n+1,x,y =>
  match x,y with
  | .bool a,.bool b=>(match a,b with | true,true=>true | false,false=>true | _,_=>false)
  | .int k a,.int k' b=>Nat.beq (ikn k) (ikn k') && ibeq a b
  | .complex k a b,.complex k' a' b'=>eqF k k' && (Nat.beq a a' && Nat.beq b b')
  | .pointer a,.pointer b=>eqA a b
  | .slice a n c,.slice a' n' c'=>eqA a a' && (Nat.beq n n' && Nat.beq c c')
  | .map a,.map b=>eqN a b
  | .nilFunc,.nilFunc=>true
  | .nilIface,.nilIface=>true
  | .iface t a,.iface t' a'=>Nat.beq t t' && eqV n a a'
  | .agg a,.agg b=>allL (eqV n) a.toList b.toList
  | .tuple a,.tuple b=>allL (eqV n) a.toList b.toList
  | _,_=>false
theorem eqA_eq {a b:Option Addr} (h:eqA a b=true) : a=b:=by
 unfold eqA at h
 split at h
 ·rfl
 ·rw [Bool.and_eq_true] at h
  rw [Nat.eq_of_beq_eq_true h.1,Nat.eq_of_beq_eq_true h.2]
 ·cases h
theorem eqN_eq {a b:Option Nat} (h:eqN a b=true) : a=b:=by
 unfold eqN at h
 split at h
 ·rfl
 ·rw [Nat.eq_of_beq_eq_true h]
 ·cases h
theorem eqF_eq {a b:FloatKind} (h:eqF a b=true) : a=b:=by cases a <;> cases b <;> first | rfl | cases h
theorem allL_eq {f:Value→Value→Bool} (hf:∀ x y,f x y=true→x=y) : ∀ {l m:List Value},allL f l m=true→l=m:=by
 intro l
 induction l with
 | nil=>intro m h; cases m with | nil=>rfl | cons y m=>cases h
 | cons x l ih =>
  intro m h
  cases m with
  | nil=>cases h
  | cons y m =>
   have h':(f x y && allL f l m)=true:=h
   rw [Bool.and_eq_true] at h'
   rw [hf x y h'.1,ih h'.2]
theorem eqV_eq:∀ (n:Nat) (x y:Value),eqV n x y=true→x=y:=by
 intro n
 induction n with
 | zero=>intro x y h; cases h
 | succ n ih =>
  intro x y h
  unfold eqV at h
  split at h
  ·split at h <;> first | rfl | cases h
  ·rw [Bool.and_eq_true] at h
   rw [@ikn_eq noSig _ _ h.1,show _=_ from of_decide_eq_true ((@ibeq_eq noSig _ _).symm.trans h.2)]
  ·simp only [Bool.and_eq_true] at h
   rw [eqF_eq h.1,Nat.eq_of_beq_eq_true h.2.1,Nat.eq_of_beq_eq_true h.2.2]
  ·rw [eqA_eq h]
  ·simp only [Bool.and_eq_true] at h
   rw [eqA_eq h.1,Nat.eq_of_beq_eq_true h.2.1,Nat.eq_of_beq_eq_true h.2.2]
  ·rw [eqN_eq h]
  ·rfl
  ·rfl
  ·rw [Bool.and_eq_true] at h
   rw [Nat.eq_of_beq_eq_true h.1,ih _ _ h.2]
  ·congr 1; exact Array.ext' (allL_eq ih h)
  ·congr 1; exact Array.ext' (allL_eq ih h)
  ·cases h
variable [Sig]
def stH:List (Nat×Obj)→Tr
 | []=>.leaf
 | (id,o)::l=>(stH l).set deep id (some o)
def stOf (l:List (Nat×Obj)) (n:Nat) : St:=⟨stH l,n,[]⟩
def renOf (l:List (Nat×Nat)) : Ren:=fun id=>(l.find? fun p=>p.1 == id).map (·.2)
theorem stOf_look (n:Nat) : ∀ (l:List (Nat×Obj)) (id:Nat),(∀ p ∈ l,p.1 < lim)→(stOf l n).look id=(l.find? fun p=>p.1 == id).map (·.2):=by
 intro l
 induction l with
 | nil=>intro id _; exact Tr.get_leaf _ _
 | cons p l ih =>
  intro id h
  obtain ⟨j,o⟩:=p
  have hl:j < lim:=h (j,o) (List.mem_cons_self ..)
  show ((stH l).set deep j (some o)).get deep id=_
  rw [List.find?_cons]
  by_cases e:j=id
  ·subst e
   simp only [beq_self_eq_true]
   exact Tr.get_set_same 29 _ _ _ hl
  ·rw [show ((j,o).1 == id)=false by simpa using e]
   rw [Tr.get_set_other _ _ _ _ _ (fun e'=>e e'.symm)]
   exact ih id (fun p hp=>h p (List.mem_cons_of_mem _ hp))
theorem renOf_mem {l:List (Nat×Nat)} {id b:Nat} (h:renOf l id=some b) : (id,b) ∈ l:=by
 unfold renOf at h
 cases hf:l.find? (fun p=>p.1 == id) with
 | none=>rw [hf] at h; cases h
 | some p =>
  rw [hf] at h
  cases h
  have h1:=List.find?_some hf
  have h2:=List.mem_of_find?_eq_some hf
  obtain ⟨x,y⟩:=p
  simp only [beq_iff_eq] at h1
  subst h1
  exact h2
theorem find_mem {l:List (Nat×Obj)} {id:Nat} {o:Obj} (h:(l.find? fun p=>p.1 == id).map (·.2)=some o) : (id,o) ∈ l:=by
 cases hf:l.find? (fun p=>p.1 == id) with
 | none=>rw [hf] at h; cases h
 | some p =>
  rw [hf] at h
  cases h
  have h1:=List.find?_some hf
  have h2:=List.mem_of_find?_eq_some hf
  obtain ⟨x,y⟩:=p
  simp only [beq_iff_eq] at h1
  subst h1
  exact h2
def Rest (l:List (Nat×Nat)) (F:Nat→Prop) (w:World) (j:Nat) : Prop:=j < w.heap.size∧¬ F j∧∀ p ∈ l,p.2 ≠ j
theorem open_start {P:Program} {w:World} {objs:List (Nat×Obj)} {l:List (Nat×Nat)} {n:Nat} {F:Nat→Prop} (hlim:∀ p ∈ objs,p.1 < lim)
  (hobj:∀ p ∈ objs,gnum p.2=none→∃ b o',renOf l p.1=some b∧w.heap[b]? = some o'∧ORel P (renOf l) p.1 p.2 o') (hinj:∀ p ∈ l,∀ q ∈ l,p.2=q.2→p.1=q.1)
  (hF:∀ j,F j→j < w.heap.size) (hFl:∀ p ∈ l,¬ F p.2)
  (hg:∀ p ∈ objs,∀ g,gnum p.2=some g→p.1=3∧renOf l 3=none∧Sig.GR g (renOf l) F w) : Rep P (Rest l F w) (renOf l) (stOf objs n).look w:=by
 refine ⟨fun id id' o o' b _ _ h1 h2=>?_,fun id o ho hrl=>?_,fun k hk=>hk.1,fun id o g ho hgn=>?_⟩
 ·exact hinj _ (renOf_mem h1) _ (renOf_mem h2) rfl
 ·rw [stOf_look n objs id hlim] at ho
  obtain ⟨b,o',h1,h2,h3⟩:=hobj _ (find_mem ho) hrl
  exact ⟨b,o',h1,h2,h3,fun hk=>hk.2.2 _ (renOf_mem h1) rfl⟩
 ·rw [stOf_look n objs id hlim] at ho
  obtain ⟨h1,h2,h3⟩:=hg _ (find_mem ho) g hgn
  exact ⟨h1,h2,F,h3,fun j hj=>⟨hF j hj,fun hk=>hk.2.1 hj⟩,fun x ox b _ h5=>hFl _ (renOf_mem h5)⟩
theorem open_call {P:Program} (hP:P.check=.ok ()) (hcal:CalOK P) (hm:P.follows .mixedOrders=true) {n m:Nat} {f:FuncId} {args args':Array Value} {objs:List (Nat×Obj)} {l:List (Nat×Nat)} {F:Nat→Prop} {c:Option (Value×St)→Bool}
  (h:withB P (fun B=>c (fcallF B (fev B n) f args.toList (stOf objs m)))=true) (hc:c none=false) {w:World} (hlim:∀ p ∈ objs,p.1 < lim) (hnew:∀ p ∈ objs,p.1 < 4 * m) (hren:∀ p ∈ l,p.1 < 4 * m)
  (hr:Rep P (Rest l F w) (renOf l) (stOf objs m).look w) (ha:ARel (renOf l) args args') :
  Calls P f args' w fun e w1=>∃ κ v v' s1,c (some (v,s1))=true∧e=.returned v'∧Goes P (Rest l F w) (renOf l) κ (stOf objs m) s1 w w1∧VRel κ v v':=by
 obtain ⟨B,hB,hBP,e⟩:=withB_ok P (fun B=>c (fcallF B (fev B n) f args.toList (stOf objs m)))
 rw [e] at h
 subst hBP
 cases hx:fcallF B (fev B n) f args.toList (stOf objs m) with
 | none=>rw [hx,hc] at h; cases h
 | some x =>
  obtain ⟨v,s1⟩:=x
  rw [hx] at h
  have h1:=fcallF_ok hB (fev_ok hB n) f args _ _ _ hx
  refine ((call_ok hP hcal hm n).1 f args _ v s1 h1 (fun id x y=>?_) (renOf l) args' w hr ha (fun id x y=>?_)).mono ?_
  ·rw [stOf_look m objs id hlim]
   cases hf:(objs.find? fun p=>p.1 == id).map (·.2) with
   | none=>rfl
   | some o =>
    have:=hnew _ (find_mem hf)
    have x':4 * m≤id:=x
    simp only at this
    omega
  ·cases hf:renOf l id with
   | none=>rfl
   | some b =>
    have:=hren _ (renOf_mem hf)
    have x':4 * m≤id:=x
    simp only at this
    omega
  ·rintro e w1 ⟨κ,v',rfl,g,hv⟩
   exact ⟨κ,v,v',s1,h,rfl,g,hv⟩
def knV:Value→Bool
 | .pointer (some ⟨_,_,none⟩)=>true
 | .pointer none | .slice none 0 0 | .map none | .nilFunc | .nilIface=>true
 | .complex .f32 _ 0=>true
 | .complex .f32 _ (_+2)=>true
 | v=>symV v
def conc (κ:Ren) : Value→Value
 | .pointer (some ⟨id,off,none⟩)=>.pointer (some ⟨(κ id).getD 0,off,none⟩)
 | .complex .f32 id 0=>dec ((κ id).getD 0)
 | .complex .f32 id (j+2)=>subV j (dec ((κ id).getD 0))
 | v=>cvV Sig.val v
theorem conc_eq {κ:Ren} {v v':Value} (h:VRel κ v v') (hk:knV v=true) : v'=conc κ v:=by
 cases h with
 | ptr id off b h=>simp [conc,h]
 | ptr0=>rfl
 | slice0=>rfl
 | map0=>rfl
 | nilFunc=>rfl
 | nilIface=>rfl
 | sym n m _ h=>exact h.symm
 | dyn id c _ h h'=>simp [conc,h,h']
 | dyn3 id c j _ h h'=>simp [conc,h,h']
 | bool=>rfl
 | int=>rfl
 | float=>rfl
 | string=>rfl
 | _=>first | cases hk | (simp [knV,symV] at hk)
theorem left_cells {P:Program} {base:Nat→Prop} {ι κ:Ren} {s s1:St} {w w1:World} (g:Goes P base ι κ s s1 w w1) {id:Nat} {c:Array Value} {e:TypeId} (h:s1.look id=some (.cells c e (0,0))) (hg:gro id=false) :
  ∃ b c',κ id=some b∧w1.heap[b]? = some (.cells c' e (0,0))∧¬ base b∧ARel κ c c':=by
 obtain ⟨b,o',h1,h2,h3,h4⟩:=g.rep.there id _ h rfl
 obtain ⟨_,c',rfl,k1,k2,k3,_⟩:=h3
 exact ⟨b,c',h1,h2,h4,k2 hg,k3⟩
theorem conc_cells {κ:Ren} {c c':Array Value} (h:ARel κ c c') (hk:c.toList.all knV=true) : c'=(c.toList.map (conc κ)).toArray:=by
 rw [List.all_eq_true] at hk
 apply Array.ext (by simp [h.1])
 intro i h1 h2
 have h3:i < c.size:=by rw [h.1]; exact h1
 rw [conc_eq (h.2 i _ _ (Array.getElem?_eq_getElem h3) (Array.getElem?_eq_getElem h1)) (hk _ (by rw [Array.mem_toList_iff]; exact Array.getElem_mem h3))]
 simp
theorem left_state {P:Program} {base:Nat→Prop} {ι κ:Ren} {s s1:St} {w w1:World} (g:Goes P base ι κ s s1 w w1) {k:Nat} (h:s1.look 3=some (gobj k)) :
  ∃ F:Nat→Prop,Sig.GR k κ F w1∧(∀ j,F j→j < w1.heap.size∧¬ base j)∧∀ x ox b,s1.look x=some ox→κ x=some b→¬ F b:=by
 obtain ⟨_,_,F,h1,h2,h3⟩:=g.rep.gh 3 _ k h rfl
 exact ⟨F,h1,h2,h3⟩
abbrev Blk:=Nat×List Value×TypeId
noncomputable def blkIs (s:St) (q:Blk) : Bool :=
 match Tr.gt deep s.heap q.1 with
 | some (.cells c e (0,0))=>allL (eqV 4) c.toList q.2.1 && Nat.beq e q.2.2
 | _=>false
noncomputable def ghIs (s:St) : Option Nat→Bool
 | none=>true
 | some g=>(match Tr.gt deep s.heap 3 with | some (.view ⟨b,0,none⟩ 0)=>Nat.beq b g | _=>false)
noncomputable def outIs (r:Value) (bl:List Blk) (g:Option Nat) : Option (Value×St)→Bool
 | some (v,s)=>eqV 4 v r && (bl.all (blkIs s) && ghIs s g)
 | none=>false
theorem outIs_ok {r:Value} {bl:List Blk} {g:Option Nat} {v:Value} {s:St} (h:outIs r bl g (some (v,s))=true) :
  v=r∧(∀ q ∈ bl,s.look q.1=some (.cells q.2.1.toArray q.2.2 (0,0)))∧∀ k,g=some k→s.look 3=some (gobj k):=by
 unfold outIs at h
 simp only [Bool.and_eq_true] at h
 obtain ⟨h1,h2,h3⟩:=h
 rw [List.all_eq_true] at h2
 refine ⟨eqV_eq _ _ _ h1,fun q hq=>?_,fun k hk=>?_⟩
 ·have:=h2 q hq
  unfold blkIs at this
  split at this
  ·rename_i c e hl
   rw [Bool.and_eq_true] at this
   rw [Tr.gt_eq] at hl
   show s.heap.get deep q.1=_
   rw [hl,← allL_eq (eqV_eq 4) this.1,Nat.eq_of_beq_eq_true this.2]
  ·cases this
 ·subst hk
  simp only [ghIs] at h3
  split at h3
  ·rename_i b hl
   rw [Tr.gt_eq] at hl
   show s.heap.get deep 3=_
   rw [hl,Nat.eq_of_beq_eq_true h3]
   rfl
  ·cases h3
theorem open_one {P:Program} (hP:P.check=.ok ()) (hcal:CalOK P) (hm:P.follows .mixedOrders=true) {n m:Nat} {f:FuncId} {args args':Array Value} {cs c1:List Value} {T:TypeId} {g g':Nat} {r:Value} {bm:Nat} {F:Nat→Prop} {w:World}
  (h:withB P (fun B=>outIs r [(4,c1,T)] (some g') (fcallF B (fev B n) f args.toList (stOf [(4,.cells cs.toArray T (0,0)),(3,gobj g)] m)))=true) (h4:2≤m) {cs':List Value} (hb:w.heap[bm]? = some (.cells cs'.toArray T (0,0)))
  (hcs:LRel (renOf [(4,bm)]) cs cs') (hg:Sig.GR g (renOf [(4,bm)]) F w) (hF:∀ j,F j→j < w.heap.size) (hFb:¬ F bm) (ha:ARel (renOf [(4,bm)]) args args') (hk:c1.all knV=true) :
  Calls P f args' w fun e w1=>∃ κ v',e=.returned v'∧VRel κ r v'∧κ 4=some bm∧w1.heap[bm]? = some (.cells (c1.map (conc κ)).toArray T (0,0))∧(∃ F':Nat→Prop,Sig.GR g' κ F' w1∧¬ F' bm∧(∀ j,F' j→j < w1.heap.size∧(F j∨w.heap.size≤j)))∧Turn (fun j=>j=bm∨F j) w w1:=by
 have hbl:bm < w.heap.size:=(Array.getElem?_eq_some_iff.1 hb).1
 have r4:renOf [(4,bm)] 4=some bm:=rfl
 have hr:Rep P (Rest [(4,bm)] F w) (renOf [(4,bm)]) (stOf [(4,.cells cs.toArray T (0,0)),(3,gobj g)] m).look w:=by
  refine open_start ?_ ?_ ?_ hF ?_ ?_
  ·intro p hp
   simp only [List.mem_cons,List.not_mem_nil,or_false] at hp
   rcases hp with rfl | rfl <;> (show _ < lim; unfold lim; omega)
  ·intro p hp hgn
   simp only [List.mem_cons,List.not_mem_nil,or_false] at hp
   rcases hp with rfl | rfl
   ·refine ⟨bm,_,r4,hb,rfl,cs'.toArray,rfl,by simp [hcs.1],(fun _=>by simp [hcs.1]),fun i v v' h1 h2=>hcs.2 i v v' (by simpa using h1) (by simpa using h2),fun h=>absurd h (by show ¬ gro 4=true; decide)⟩
   ·cases hgn
  ·intro p hp q hq _
   simp only [List.mem_cons,List.not_mem_nil,or_false] at hp hq
   rw [hp,hq]
  ·intro p hp
   simp only [List.mem_cons,List.not_mem_nil,or_false] at hp
   rw [hp]
   exact hFb
  ·intro p hp k hk
   simp only [List.mem_cons,List.not_mem_nil,or_false] at hp
   rcases hp with rfl | rfl
   ·cases hk
   ·cases hk
    exact ⟨rfl,rfl,hg⟩
 refine (open_call hP hcal hm h rfl ?_ ?_ ?_ hr ha).mono ?_
 ·intro p hp
  simp only [List.mem_cons,List.not_mem_nil,or_false] at hp
  rcases hp with rfl | rfl <;> (show _ < lim; unfold lim; omega)
 ·intro p hp
  simp only [List.mem_cons,List.not_mem_nil,or_false] at hp
  rcases hp with rfl | rfl <;> (show _ < 4 * m; omega)
 ·intro p hp
  simp only [List.mem_cons,List.not_mem_nil,or_false] at hp
  rw [hp]
  show 4 < 4 * m
  omega
 ·rintro e w1 ⟨κ,v,v',s1,ho,rfl,gg,hv⟩
  obtain ⟨rfl,o1,o2⟩:=outIs_ok ho
  have l4:=o1 _ (List.mem_singleton.2 rfl)
  obtain ⟨b,c',k1,k2,k3,k4⟩:=left_cells gg l4 (by show gro 4=false; decide)
  have e4:κ 4=some bm:=by
   rw [gg.ext 4 (.inl (by show 4 < 4 * m; omega))]
   rfl
  rw [e4] at k1
  cases k1
  obtain ⟨F',q1,q2,q3⟩:=left_state gg (o2 g' rfl)
  refine ⟨κ,v',rfl,hv,e4,?_,⟨F',q1,q3 4 _ bm l4 e4,fun j hj=>⟨(q2 j hj).1,?_⟩⟩,⟨gg.below.os,gg.below.tape,gg.below.output,gg.below.size,fun k hk hn=>?_⟩⟩
  ·rw [k2,conc_cells k4 (by simpa using hk)]
  ·by_cases hFj:F j
   ·exact .inl hFj
   ·refine .inr ?_
    rcases Nat.lt_or_ge j w.heap.size with hlt | hge
    ·exfalso
     have hjb:j ≠ bm:=fun e=>q3 4 _ bm l4 e4 (e ▸ hj)
     exact (q2 j hj).2 ⟨hlt,hFj,fun p hp=>by
      simp only [List.mem_cons,List.not_mem_nil,or_false] at hp
      rw [hp]
      exact fun e=>hjb e.symm⟩
    ·exact hge
  ·refine gg.below.block k ⟨hk,fun h=>hn (.inr h),fun p hp e=>?_⟩
   simp only [List.mem_cons,List.not_mem_nil,or_false] at hp
   rw [hp] at e
   exact hn (.inl e.symm)
end Go.Ev
