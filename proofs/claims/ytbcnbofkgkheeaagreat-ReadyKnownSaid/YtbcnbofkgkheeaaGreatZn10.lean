/- Part of a proof: see the last text. -/
import Derived.Test.YtbcnbofkgkheeaaGreatZn9
import Derived.Test.YtbcnbofkgkheeaaGreatRows
set_option linter.unusedSectionVars false
set_option linter.unusedSimpArgs false
set_option linter.unusedVariables false
namespace Go.Ev
open Go.RowKit
variable[aP]
structure Env(n:Nat)(t:TV)(d:List Deferred)(a:Act):Prop where
 sz:a.tmps.size=n
 lim:n<=4094
 df:a.defers=d
 get:∀ i,t.get i=a.tmps.getD i undef
theorem Env.eval{n:Nat}{t:TV}{df:List Deferred}{a:Act}(h:Env n t df a):db t=a.eval:=by
 funext x
 cases x with
 | tmp i=>exact h.get i
 | _=>rfl
theorem k8{β:Type}{n:Nat}{t:TV}{df:List Deferred}{a:Act}(h:Env n t df a)(d:Option Tmp)(v:Value)(k:TV->β):∃ t1,vp n t d v k=k t1/\Env n t1 df (a.put d v):=by
 cases d with
 | none=>exact⟨t,rfl,h⟩
 | some d =>
  show ∃ t1,@Bool.rec (λ_=>β) (k t) (Hp v (λv=>TV.mc 12 t d v k)) (Nat.blt d n)=k t1/\_;rw[je]
  by_cases hd:@LT.lt Nat instLTNat d n
  ·have hb:Nat.blt d n=true:=Nat.ble_eq_true_of_le hd
   have hl:=h.lim;rw[if_pos hb,D9,TV.D7];refine⟨_,rfl,by simp[Act.put,h.sz],h.lim,h.df,λi=>?_⟩;rw[TV.jC _ _ _ _ _ (by omega)];simp only[Act.put,Array.getD_eq_getD_getElem?];rw[Array.getElem?_setIfInBounds]
   by_cases e:d=i
   ·subst e
    rw[if_pos rfl,if_pos rfl,if_pos (by rw[h.sz];exact hd)];rfl
   ·rw[if_neg (λe'=>e e'.symm),if_neg e,h.get i,Array.getD_eq_getD_getElem?]
  ·have hb:¬ Nat.blt d n=true:=λhh=>hd (Nat.le_of_ble_eq_true hh)
   rw[if_neg hb];refine⟨t,rfl,by simp[Act.put,h.sz],h.lim,h.df,λi=>?_⟩;rw[h.get i];simp only[Act.put,Array.getD_eq_getD_getElem?];rw[Array.getElem?_setIfInBounds]
   by_cases e:d=i
   ·subst e
    rw[if_pos rfl,if_neg (by rw[h.sz];exact hd),Array.getElem?_eq_none (by rw[h.sz];omega)]
   ·rw[if_neg e]
def ph(call:kX)(call':Caller):Prop:=∀ c s v s1,call c s=some (v,s1)->call' c s=some (v,s1)
theorem Ak{β:Type}{B:Base}(hB:rz B){call:kX}{call':Caller}(hc:ph call call'){n:Nat}{t:TV}{df:List Deferred}{a:Act}(h:Env n t df a){o:Oper}{s:St}{k:TV->St->Option β}{r:β}
  (hr:vP B call n t o s k=some r):∃ t1 a1 s1,kh B.P call' a o s=some (a1,s1)/\Env n t1 df a1/\k t1 s1=some r:=by
 have key:∀ x,D3 B t o s=some x->aU B.P a o s=some x:=by
  intro x hx;have:=HK hB hx;rw[h.eval,Hv]at this;exact this
 have eg:vO t o.op.operands.toList=lM a o.op:=by
  rw[Aj,h.eval];rfl
 unfold vP at hr;unfold kh;rw[eg]at hr
 split at hr
 ·rename_i q hq
  obtain⟨h1,h2⟩:=b8 hr;rw[hq];dsimp only;unfold sU;rw[if_pos h1]
  split at h2
  ·rename_i v s1 he
   obtain⟨t1,e1,h3⟩:=k8 h o.dst v (λt1=>k t1 s1);rw[e1]at h2;rw[he];exact⟨t1,_,s1,rfl,h3,h2⟩
  ·cases h2
 rename_i hq;rw[hq];dsimp only
 split at hr
 ·rename_i v s1 he
  rw[key _ he];obtain⟨t1,e1,h1⟩:=k8 h o.dst v (λt1=>k t1 s1);rw[e1]at hr;exact⟨t1,_,s1,rfl,h1,hr⟩
 ·rename_i s1 he
  rw[key _ he];obtain⟨t1,e1,h1⟩:=k8 h o.dst undef (λt1=>k t1 s1);rw[e1]at hr;exact⟨t1,_,s1,rfl,h1,hr⟩
 ·rename_i f args s1 he
  rw[key _ he]
  split at hr
  ·rename_i v s2 hcl
   obtain⟨t1,e1,h1⟩:=k8 h o.dst v (λt1=>k t1 s2);rw[e1]at hr;dsimp only;rw[hc _ _ _ _ hcl];exact⟨t1,_,s2,rfl,h1,hr⟩
  ·cases hr
 ·rename_i l fn tmps assign body s1 he
  rw[key _ he]
  split at hr
  ·rename_i v s2 hcl
   obtain⟨t1,e1,h1⟩:=k8 h o.dst v (λt1=>k t1 s2);rw[e1]at hr;dsimp only;rw[hc _ _ _ _ hcl];exact⟨t1,_,s2,rfl,h1,hr⟩
  ·cases hr
 ·cases hr
theorem F6{n:Nat}{t:TV}{df:List Deferred}{a:Act}(h:Env n t df a)(ops:Array Oper)(j:Nat):Cp ops t j=yielded ops a.tmps j:=by
 unfold Cp yielded;cases (ops[j]?).bind (·.dst) with
 | none=>rfl
 | some d =>
  dsimp only[Option.bind];rw[h.get d,Array.getD_eq_getD_getElem?];cases a.tmps[d]? with
  | none=>rfl
  | some v=>cases v<;>rfl
theorem Al{n:Nat}{t:TV}{df:List Deferred}{a:Act}(h:Env n t df a)(ops:Array Oper)(o:Oper):vQ ops t o=Region.wanted o (yielded ops a.tmps):=by
 unfold vQ Region.wanted;cases o.guard with
 | none=>rfl
 | some g =>
  obtain⟨j,w⟩:=g;dsimp only;rw[F6 h];cases yielded ops a.tmps j with
  | none=>cases w<;>rfl
  | some b=>cases b<;>cases w<;>rfl
theorem HL{B:Base}(hB:rz B){call:kX}{call':Caller}(hc:ph call call'){n:Nat}(ops:Array Oper)(df:List Deferred):∀ (l:List Oper) (t:TV) (a:Act) (s:St) (x:dF),Env n t df a->Ab B call n ops df l t s=some x->
  ∃ a1,lZ B.P call' ops l a s=some (a1,x.2.2.2)/\Env n x.2.1 x.2.2.1 a1/\x.1=.normal:=by
 intro l
 induction l with
 | nil =>
  intro t a s x h hx;cases hx;exact⟨a,rfl,h,rfl⟩
 | cons o l ih =>
  intro t a s x h hx;have hx':@Bool.rec (λ_=>Option dF) (vp n t o.dst undef (λt1=>Ab B call n ops df l t1 s)) (vP B call n t o s (λt1 s1=>Ab B call n ops df l t1 s1)) (vQ ops t o)=some x:=hx;rw[je,Al h]at hx';unfold lZ
  split at hx'
  ·rename_i hw
   rw[if_pos hw];obtain⟨t1,a1,s1,e1,h1,hk⟩:=Ak hB hc h hx';rw[e1];exact ih _ _ _ _ h1 hk
  ·rename_i hw
   rw[if_neg hw];obtain⟨t1,e1,h1⟩:=k8 h o.dst undef (λt1=>Ab B call n ops df l t1 s);rw[e1]at hx';exact ih _ _ _ _ h1 hx'
theorem HM{B:Base}(hB:rz B){call:kX}{call':Caller}(hc:ph call call'){n:Nat}(ops:Array Oper)(df:List Deferred):∀ (l:List Oper) (t:TV) (a:Act) (s:St) (ls:List (List Touch)) (x:dF),Env n t df a->Ad B call n ops df l t s ls=some x->
  ∃ a1 T7,lN B.P call' ops l a s ls=some (a1,x.2.2.2,T7)/\(gT ops&&iH (Region.before ops) T7 (ops.size-1))=true/\Env n x.2.1 x.2.2.1 a1/\x.1=.normal:=by
 intro l
 induction l with
 | nil =>
  intro t a s ls x h hx;have hx':@Bool.rec (λ_=>Option dF) none (some (.normal,t,df,s)) (gT ops&&iH (Region.before ops) ls (ops.size-1))=some x:=hx;obtain⟨h1,h2⟩:=b8 hx';cases h2;exact⟨a,ls,rfl,h1,h,rfl⟩
 | cons o l ih =>
  intro t a s ls x h hx;obtain⟨hh,nx,lg⟩:=s;have hx':@Bool.rec (λ_=>Option dF) (vp n t o.dst undef (λt1=>Ad B call n ops df l t1 ⟨hh,nx,lg⟩ ([]::ls)))
   (vP B call n t o ⟨hh,nx,[]⟩ (λt1 s1=>@St.rec (λ_=>Option dF) (λh1 T3 RM=>Ad B call n ops df l t1 ⟨h1,T3,List.append RM lg⟩ (RM::ls)) s1)) (vQ ops t o)=some x:=hx
  rw[je,Al h]at hx';unfold lN
  split at hx'
  ·rename_i hw
   rw[if_pos hw];obtain⟨t1,a1,s1,e1,h1,hk⟩:=Ak hB hc h hx';obtain⟨h2,Yn,RO⟩:=s1;dsimp only;rw[e1];exact ih _ _ _ _ _ h1 hk
  ·rename_i hw
   rw[if_neg hw];obtain⟨t1,e1,h1⟩:=k8 h o.dst undef (λt1=>Ad B call n ops df l t1 ⟨hh,nx,lg⟩ ([]::ls));rw[e1]at hx';exact ih _ _ _ _ _ h1 hx'
theorem HN{β:Type} : ∀ (l:List Value) (i:Nat) (t:TV) (k:TV->β),i+l.length<=4094->∃ t1,lO l i t k=k t1/\∀ j,t1.get j=if i<=j/\j<i+l.length then (l[j-i]?).getD undef else t.get j:=by
 intro l
 induction l with
 | nil =>
  intro i t k hl;refine⟨t,rfl,λj=>?_⟩;rw[if_neg (by simp only[List.length_nil];omega)]
 | cons v l ih =>
  intro i t k hl;rw[List.length_cons]at hl;obtain⟨t1,e1,h1⟩:=ih (i+1) (TV.set 12 t i v) k (by omega);refine⟨t1,?_,λj=>?_⟩
  ·show TV.mc 12 t i v (λt1=>lO l (Nat.succ i) t1 k)=_
   rw[TV.D7];exact e1
  ·rw[h1 j,TV.jC _ _ _ _ _ (by omega),List.length_cons]
   by_cases hj:j=i
   ·subst hj
    rw[if_neg (by omega),if_pos rfl,if_pos (by omega)];simp
   ·rw[if_neg hj]
    by_cases hr:i+1<=j/\j<i+1+l.length
    ·rw[if_pos hr,if_pos (by omega),show j-i=(j-(i+1))+1 by omega]
     simp
    ·rw[if_neg hr,if_neg (by omega)]
theorem Py(t:TV):∀ (k i:Nat),t.Pt k i=(List.range' i k).map t.get:=by
 intro k
 induction k with
 | zero=>intro i;rfl
 | succ k ih =>
  intro i;show t.get i::t.Pt k (Nat.succ i)=_;rw[ih,List.range'_succ];rfl
theorem Cw{n:Nat}{t:TV}{df:List Deferred}{a:Act}(h:Env n t df a):(t.act n).tmps=a.tmps:=by
 apply Array.ext';show t.Pt n 0=_;rw[Py];apply List.ext_getElem?;intro i;rw[List.getElem?_map]
 by_cases hi:i<n
 ·rw[List.getElem?_range' hi,Array.getElem?_toList,Array.getElem?_eq_getElem (by rw[h.sz];exact hi)]
  simp only[Option.map_some,Nat.one_mul,Nat.zero_add];rw[h.get i,Array.getD_eq_getD_getElem?,Array.getElem?_eq_getElem (by rw[h.sz];exact hi)];rfl
 ·rw[List.getElem?_eq_none (by simp;omega),Array.getElem?_toList,Array.getElem?_eq_none (by rw[h.sz];omega)]
  rfl
theorem HO{P:Program}{n:Nat}{t:TV}{df:List Deferred}{a:Act}(h:Env n t df a)(s:St)(f:ResultVar->Sem Value)(hf:∀ i,f (.tmp i)=pure (a.tmps.getD i undef)):∀ (l:List ResultVar) (vs:List Value),vR t l=some vs->
  az P (l.mapM f) s=some (vs,s):=by
 intro l
 induction l with
 | nil =>
  intro vs hv;cases hv;rfl
 | cons r l ih =>
  intro vs hv;have hv':Ae t r (vR t l)=some vs:=hv;unfold Ae at hv';rw[List.mapM_cons,bM]
  split at hv'
  ·rename_i i ws hl
   cases hv';rw[hf];show az P _ s=_;rw[bM,ih ws hl,h.get i];rfl
  ·cases hv'
theorem HP{α β:Type}(P:Program)(f:α->β)(m:Sem α)(s:St):az P (Functor.map f m) s=(az P m s).bind λ(a,s1)=>some (f a,s1):=by
 show az P (m >>= λa=>pure (f a)) s=_;rw[bM];rfl
theorem MN{P:Program}{fn:Func}{t:TV}{df:List Deferred}{a:Act}(h:Env fn.ntmps t df a){s:St}{r:Value×St}(hr:Pv P fn t s=some r):oV P fn a s=some r:=by
 have multi:∀ vs,vR t fn.results.toList=some vs->oV P fn a s=some (if h:vs.length=1 then vs[0] else .tuple ⟨vs⟩,s):=by
  intro vs hv;unfold oV results;rw[bM,Array.mapM_eq_mapM_toList,HP,HO h s _ (λi=>rfl) _ _ hv];rfl
 unfold Pv at hr
 split at hr
 ·rename_i i hl
  cases hr;have:=multi [t.get i] (by rw[hl];rfl);rw[this];rfl
 ·rename_i hl
  cases hr;have:=multi [] (by rw[hl];rfl);rw[this];rfl
 ·rename_i x y l hl
  split at hr
  ·rename_i vs hv
   cases hr;have:=multi vs (by rw[hl];exact hv);rw[this,dif_neg];intro hlen;have RP:∀ (l:List ResultVar) (vs:List Value),vR t l=some vs->vs.length=l.length:=by
    intro l
    induction l with
    | nil=>intro vs hv;cases hv;rfl
    | cons r l ih =>
     intro vs hv;have hv':Ae t r (vR t l)=some vs:=hv;unfold Ae at hv'
     split at hv'
     ·rename_i i ws hl
      cases hv';rw[List.length_cons,List.length_cons,ih ws hl]
     ·cases hv'
   have:=RP _ _ hv;simp at this;omega
  ·rw[Cw h]at hr
   exact hr
 ·rw[Cw h]at hr
  exact hr
theorem MO{β:Type}(t:TV):∀ (k i:Nat) (f:List Value->β),t.Pu k i f=f (t.Pt k i):=by
 intro k
 induction k with
 | zero=>intro i f;rfl
 | succ k ih =>
  intro i f;show Hp (t.get i) (λv=>t.Pu k (Nat.succ i) (λl=>f (v::l)))=f (t.get i::t.Pt k (Nat.succ i));rw[D9,ih]
def tu(run:om)(run':Runner):Prop:=∀ rd n c t d a s ex t1 d1 s1,Env n t d a->run rd n c t d s=some (ex,t1,d1,s1)->∃ a1,run' rd c a s=some (ex,a1,s1)/\Env n t1 d1 a1
theorem qo{args:List Value}{n:Nat}(h1:args.length<=n)(h2:n<=4094){β:Type}(k:TV->β):∃ t,lO args 0 .leaf k=k t/\Env n t [] { tmps:=⟨args⟩++Array.replicate (n-args.length) undef,defers:=[] }:=by
 obtain⟨t0,e0,g0⟩:=HN args 0 .leaf k (by omega);refine⟨t0,e0,by simp;omega,h2,rfl,λi=>?_⟩;rw[g0 i,Array.getD_eq_getD_getElem?]
 by_cases hi:i<args.length
 ·rw[if_pos (by omega),Array.getElem?_append_left (by simpa using hi),Nat.sub_zero]
  simp
 ·rw[if_neg (by omega),Array.getElem?_append_right (by simpa using hi),Array.getElem?_replicate]
  split<;>rfl
theorem rT{P:Program}{fn:Func}{t:TV}{d:List Deferred}{a:Act}(h:Env fn.ntmps t d a){s:St}{r:Value×St}(hr:MF P fn t d s=some r){e:Exit}(he:atEnd e=true):jW P fn e a s=some r:=by
 unfold MF at hr;unfold jW;rw[he,h.df];dsimp only
 split at hr
 ·rename_i u s1 hm
  rw[hm];exact MN h hr
 ·cases hr
theorem mV{B:Base}(hB:rz B){run:om}{run':Runner}(hr:tu run run')(f:FuncId)(args:Array Value)(s:St)(v:Value)(s1:St)(h:dG B run f args.toList s=some (v,s1)):ig B.P run' f args s=some (v,s1):=by
 unfold dG at h;unfold ig
 split at h
 ·rename_i r hq
  rw[hq];exact h
 ·rename_i hq
  rw[hq];dsimp only
  split at h
  ·rename_i q hg
   rw[hg];exact h
  rename_i hg;rw[hg];dsimp only
  split at h
  case h_2=>cases h
  rename_i fn hf
  split at h
  ·rename_i body hb
   obtain⟨h1,h2⟩:=b8 h;rw[Bool.and_eq_true]at h1;have hl1:args.toList.length<=fn.ntmps:=Nat.le_of_ble_eq_true h1.1;have hl2:fn.ntmps<=4094:=Nat.le_of_ble_eq_true h1.2;obtain⟨t0,e0,env⟩:=qo hl1 hl2 (λt=>xD B.P fn (run none fn.ntmps body t [] s));rw[e0]at h2;rw[hB.F _ _ hf];dsimp only;rw[hb];dsimp only;have env':Env fn.ntmps t0 [] { tmps:=args++Array.replicate (fn.ntmps-args.size) undef,defers:=[] }:=by
    have e:(⟨args.toList⟩:Array Value)=args:=rfl;rw[e,Array.length_toList]at env;exact env
   unfold xD at h2
   split at h2
   ·rename_i t d s2 hrun
    obtain⟨a1,q1,q2⟩:=hr _ _ _ _ _ _ _ _ _ _ _ env' hrun;rw[q1];exact rT q2 h2 rfl
   ·rename_i t d s2 hrun
    obtain⟨a1,q1,q2⟩:=hr _ _ _ _ _ _ _ _ _ _ _ env' hrun;rw[q1];exact rT q2 h2 rfl
   ·cases h2
  ·cases h
theorem F7{B:Base}{run:om}{run':Runner}(hr:tu run run')(l:Nat)(tmps:Array Value)(assign body:Code)(s:St)(v:Value)(s1:St)(h:Cq B run l tmps.toList assign body s=some (v,s1)):oc B.P run' l tmps assign body s=some (v,s1):=by
 unfold Cq at h;rw[kY]at h;obtain⟨h1,h2⟩:=b8 h;have hl:tmps.toList.length<=4094:=Nat.le_of_ble_eq_true h1;obtain⟨t0,e0,env⟩:=qo (Nat.le_refl _) hl (λt=>Pw B run l tmps.toList.length body (run (some l) tmps.toList.length assign t [] s));rw[e0]at h2;have env':Env tmps.toList.length t0 [] { tmps:=tmps,defers:=[] }:=by
  have e:(⟨tmps.toList⟩:Array Value)++Array.replicate (tmps.toList.length-tmps.toList.length) undef=tmps:=by
   apply Array.ext';simp
  rw[e]at env;exact env
 unfold oc;unfold Pw at h2
 split at h2
 ·rename_i t d s2 hrun
  obtain⟨a1,q1,q2⟩:=hr _ _ _ _ _ _ _ _ _ _ _ env' hrun;rw[q1];simp only[oW,if_true]
  split at h2
  ·rename_i u s3 hb
   rw[hb];dsimp only;unfold Oj at h2
   split at h2
   ·rename_i e t3 d3 s4 RQ
    obtain⟨a3,q3,q4⟩:=hr _ _ _ _ _ _ _ _ _ _ _ q2 RQ;rw[q3];exact h2
   ·cases h2
  ·cases h2
 ·cases h2
theorem HQ{B:Base}(hB:rz B){run:om}{run':Runner}(hr:tu run run'):ph (D5 B run) (l3 B.P run'):=by
 intro c s v s1 h;cases c with
 | fn f args=>exact mV hB hr f args s v s1 h
 | G' l tmps assign body=>exact F7 hr l tmps assign body s v s1 h
theorem xG{B:Base}(hB:rz B){n:Nat}{t:TV}{d:List Deferred}{a:Act}(h:Env n t d a){g:Operand}{l:Nat}{f:FuncId}{args:List Value}(hr:qn B t g l=some (f,args)):gA B.P a g l=some (f,⟨args⟩):=by
 unfold qn at hr;rw[h.eval]at hr;unfold gA
 split at hr
 ·rename_i f0 first captured hg
  obtain⟨h1,h2⟩:=b8 hr;rw[Bool.and_eq_true]at h1;cases h2;rw[if_pos h1.1,hg];dsimp only;rw[if_pos (HJ hB h1.2)]
  congr 2
  apply Array.ext';simp
 ·cases hr
theorem F8{B:Base}(hB:rz B){run:om}{run':Runner}(hr:tu run run')(rd:Option Nat)(n:Nat)(g:Operand)(ps:Array Tmp)(assign body:Code)(t:TV)(d:List Deferred)(a:Act)(s:St)(ex:Exit)(t1:TV)(d1:List Deferred)(s1:St)(h:Env n t d a)
  (hx:Cr B run rd n g ps assign body t d s=some (ex,t1,d1,s1)):∃ a1,oe B.P run' rd g ps assign body a s=some (ex,a1,s1)/\Env n t1 d1 a1:=by
 unfold Cr at hx;rw[MO]at hx;have e:(⟨t.Pt n 0⟩:Array Value)=a.tmps:=Cw h;rw[e]at hx;unfold oe
 split at hx
 ·rename_i l mark s2 h1
  rw[h1];dsimp only
  split at hx
  ·rename_i f args h2
   rw[xG hB h h2];dsimp only;unfold D6 at hx
   split at hx
   ·rename_i v s3 h3
    rw[mV hB hr f ⟨args⟩ s2 v s3 h3];dsimp only
    split at hx
    ·rename_i j s4 h4
     rw[h4];obtain⟨h5,h6⟩:=b8 hx;dsimp only;rw[if_pos h5];have env:Env n t (List.append mark d) { a with defers:=mark++a.defers }:=⟨h.sz,h.lim,by rw[h.df];rfl,h.get⟩;unfold Ol at h6;unfold sX
     split at h6
     ·cases h6
      exact⟨_,rfl,env⟩
     ·exact hr _ _ _ _ _ _ _ _ _ _ _ env h6
    ·cases hx
   ·cases hx
  ·cases hx
 ·cases hx
theorem xH{B:Base}(hB:rz B):∀ (m:Nat),tu (tn B m) (ev B.P m):=by
 intro m
 induction m with
 | zero=>intro rd n c t d a s ex t1 d1 s1 h hx;cases hx
 | succ m ih =>
  intro rd n c t d a s ex t1 d1 s1 h hx;have hc:ph (D5 B (tn B m)) (l3 B.P (ev B.P m)):=HQ hB ih;have hx':Hy B (tn B m) rd n c t d s=some (ex,t1,d1,s1):=hx;have seq:∀ (x y:Code),ME (tn B m rd n x t d s) (λt1 d1 s1=>tn B m rd n y t1 d1 s1)=some (ex,t1,d1,s1)->
    ∃ a1,(match ev B.P m rd x a s with | some (.normal,a1,s1)=>ev B.P m rd y a1 s1 | r=>r)=some (ex,a1,s1)/\Env n t1 d1 a1:=by
   intro x y hs;unfold ME at hs
   split at hs
   ·rename_i t2 d2 s2 he
    obtain⟨a2,q1,q2⟩:=ih _ _ _ _ _ _ _ _ _ _ _ h he;rw[q1];exact ih _ _ _ _ _ _ _ _ _ _ _ q2 hs
   ·rename_i e t2 d2 s2 hne he
    cases hs;obtain⟨a2,q1,q2⟩:=ih _ _ _ _ _ _ _ _ _ _ _ h he;rw[q1];refine⟨a2,?_,q2⟩;cases ex with
    | normal=>exact(hne rfl).elim
    | _=>rfl
   ·cases hs
  unfold Hy at hx';unfold ev
  split at hx'
  ·cases hx';exact⟨a,rfl,h⟩
  ·cases hx';exact⟨a,rfl,h⟩
  ·cases hx';exact⟨a,rfl,h⟩
  ·cases hx';exact⟨a,rfl,h⟩
  ·cases hx';exact⟨a,rfl,h⟩
  ·exact seq _ _ hx'
  ·rename_i c x y
   obtain⟨h1,h2⟩:=b8 hx';unfold Oi at h2
   split at h2
   ·rename_i b hb
    rw[h.eval]at hb;dsimp only;rw[h1,hb];dsimp only;cases b with
    | false=>exact ih _ _ _ _ _ _ _ _ _ _ _ h h2
    | true=>exact ih _ _ _ _ _ _ _ _ _ _ _ h h2
   ·cases h2
  ·rename_i id body
   unfold Hw at hx'
   split at hx'
   ·rename_i i t2 d2 s2 he
    obtain⟨a2,q1,q2⟩:=ih _ _ _ _ _ _ _ _ _ _ _ h he;dsimp only;rw[q1];dsimp only;rw[je]at hx'
    split at hx'
    ·rename_i hi
     cases hx';rw[if_pos (Nat.eq_of_beq_eq_true hi)];exact⟨a2,rfl,q2⟩
    ·rename_i hi
     cases hx';rw[if_neg (λe=>hi (by rw[e];exact Nat.beq_refl _))];exact⟨a2,rfl,q2⟩
   ·rename_i e t2 d2 s2 hne he
    cases hx';obtain⟨a2,q1,q2⟩:=ih _ _ _ _ _ _ _ _ _ _ _ h he;dsimp only;rw[q1];refine⟨a2,?_,q2⟩;cases ex with
    | exit i=>exact(hne i rfl).elim
    | _=>rfl
   ·cases hx'
  ·exact seq _ _ hx'
  ·rename_i body
   split at hx'
   ·unfold Hx at hx'
    split at hx'
    ·rename_i l t2 d2 s2 he
     obtain⟨a2,q1,q2⟩:=ih _ _ _ _ _ _ _ _ _ _ _ h he;dsimp only;rw[q1];unfold wZ
     split at hx'
     case h_2=>cases hx'
     rename_i rest hf;simp only[hf];unfold D4 at hx'
     split at hx'
     ·cases hx'
     ·rename_i e t3 d3 s3 hne Wo
      cases hx';obtain⟨a3,q3,q4⟩:=ih _ _ _ _ _ _ _ _ _ _ _ q2 Wo;rw[q3];refine⟨a3,?_,q4⟩;cases ex with
      | goto i=>exact(hne i rfl).elim
      | _=>rfl
     ·cases hx'
    ·rename_i e t2 d2 s2 hne he
     cases hx';obtain⟨a2,q1,q2⟩:=ih _ _ _ _ _ _ _ _ _ _ _ h he;dsimp only;rw[q1];refine⟨a2,?_,q2⟩;cases ex with
     | goto i=>exact(hne i rfl).elim
     | _=>rfl
    ·cases hx'
   ·cases hx'
  ·rename_i g ps assign body
   exact F8 hB ih _ _ _ _ _ _ _ _ _ _ _ _ _ _ h hx'
  ·rename_i id ops draw
   dsimp only;cases draw with
   | false =>
    obtain⟨a1,q1,q2,q3⟩:=HL hB hc ops _ _ _ _ _ _ h hx';dsimp only at q1 q2 q3;subst q3;have:fE B.P (l3 B.P (ev B.P m)) ops false a s=some (a1,s1):=by
     simp only[fE,Bool.false_eq_true,if_false];exact q1
    rw[this];exact⟨a1,rfl,q2⟩
   | true =>
    obtain⟨a1,T7,q1,q4,q2,q3⟩:=HM hB hc ops _ _ _ _ _ _ _ h hx';dsimp only at q1 q2 q3;subst q3;have:fE B.P (l3 B.P (ev B.P m)) ops true a s=some (a1,s1):=by
     simp only[fE,if_true];rw[q1];dsimp only;rw[if_pos q4]
    rw[this];exact⟨a1,rfl,q2⟩
  ·cases hx'
theorem qp{P:Program}(hP:P.check=.ok ())(cY:di P)(hm:P.follows .mixedOrders=true){n:Nat}{f:FuncId}{args args':Array Value}(h:cZ P (λB=>isTrue (dG B (tn B n) f args.toList s0))=true)(ha:bh (λ_=>none) args args')(w:World) :
  Calls P f args' w λe w1=>e=.returned (.bool true)/\Below w.heap.size w w1:=by
 obtain⟨B,hB,RR,e⟩:=tp P (λB=>isTrue (dG B (tn B n) f args.toList s0));rw[e]at h;subst RR;refine zY hP cY hm (n:=n) (f:=f) (args:=args) ?_ ha w;unfold isTrue at h
 split at h
 ·rename_i b s1 hc
  have:=mV hB (xH hB n) f args s0 _ _ hc;show isTrue (ig B.P (ev B.P n) f args s0)=true;rw[this];exact h
 ·cases h
end Go.Ev
namespace Go.Proofs.YtbcnbofkgkheeaaGreat
open Go.Ev Go.Proofs.Tryz
open Go.RowKit
theorem cR:prog.follows .mixedOrders=true:=by kernel_rfl
theorem Pz:@Ev.bh dY (λ_=>none) #[] #[]:=⟨rfl,λi v v' h=>by simp at h⟩
theorem Cx:cZ prog (λB=>Ev.isTrue (@Ev.dG dY B (@Ev.tn dY B 200) 10 [] Ev.s0))=true:=by kernel_rfl
theorem bz(w:World):Calls prog 10 #[] w λe w'=>e=.returned (.bool true)/\Below w.heap.size w w' :=
 @Ev.qp dY _ Tryz.codeOk (@Ev.RH dY _) cR 200 _ #[] _ Cx Pz w
end Go.Proofs.YtbcnbofkgkheeaaGreat
namespace Go.Ev
open Go.RowKit
noncomputable def VL(a b:IntKind):Bool:=Nat.beq (My a) (My b)
def VM:Int->Int->Bool
 | .ofNat a,.ofNat b=>Nat.beq a b
 | .negSucc a,.negSucc b=>Nat.beq a b
 | _,_=>false
def RS:BinOp->Nat
 | .add=>0 | .sub=>1 | .mul=>2 | .quo=>3 | .rem=>4 | .and=>5 | .or=>6 | .xor=>7 | .shl=>8 | .shr=>9 | .andNot=>10 | .eql=>11 | .neq=>12 | .lss=>13 | .leq=>14 | .gtr=>15 | .geq=>16
def RT:UnOp->Nat
 | .neg=>0 | .xor=>1 | .not=>2 | .plus=>3
noncomputable def pi:Value->Value->Bool
 | .int k n,.int k' n'=>VL k k'&&VM n n'
 | .bool a,.bool b=>match a,b with | true,true=>true | false,false=>true | _,_=>false
 | .complex .f64 n 0,.complex .f64 n' 0=>Nat.beq n n'
 | .pointer none,.pointer none=>true
 | .slice none 0 0,.slice none 0 0=>true
 | .map none,.map none=>true
 | .nilFunc,.nilFunc=>true
 | .nilIface,.nilIface=>true
 | _,_=>false
noncomputable def Ef:List Value->List Value->Bool
 | [],[]=>true
 | x::l,y::m=>pi x y&&Ef l m
 | _,_=>false
noncomputable def Eg:Value->Value->Bool
 | .agg ⟨l⟩,.agg ⟨m⟩=>Ef l m
 | x,y=>pi x y
noncomputable def Eh:List Value->List Value->Bool
 | [],[]=>true
 | x::l,y::m=>Eg x y&&Eh l m
 | _,_=>false
theorem kj{x y:Value}(h:pi x y=true):x=y/\ep x=true:=by
 unfold pi at h
 split at h
 ·rename_i k n k' n'
  rw[Bool.and_eq_true]at h;have hk:=@xF dY _ _ h.1;have hn:n=n':=by
   have h2:=h.2;unfold VM at h2
   split at h2
   ·rw[Nat.eq_of_beq_eq_true h2]
   ·rw[Nat.eq_of_beq_eq_true h2]
   ·cases h2
  rw[hk,hn];exact⟨rfl,rfl⟩
 ·rename_i a b
  cases a<;>cases b<;>first | exact⟨rfl,rfl⟩ | cases h
 ·rename_i n n'
  rw[Nat.eq_of_beq_eq_true h];exact⟨rfl,rfl⟩
 ·exact⟨rfl,rfl⟩
 ·exact⟨rfl,rfl⟩
 ·exact⟨rfl,rfl⟩
 ·exact⟨rfl,rfl⟩
 ·exact⟨rfl,rfl⟩
 ·cases h
theorem HR:∀ {l m:List Value},Ef l m=true->l=m/\l.all ep=true:=by
 intro l
 induction l with
 | nil =>
  intro m h;cases m with
  | nil=>exact⟨rfl,rfl⟩
  | cons y m=>cases h
 | cons x l ih =>
  intro m h;cases m with
  | nil=>cases h
  | cons y m =>
   have h':(pi x y&&Ef l m)=true:=h;rw[Bool.and_eq_true]at h';obtain⟨h1,h2⟩:=kj h'.1;obtain⟨h3,h4⟩:=ih h'.2;rw[h1,h3];refine⟨rfl,?_⟩;rw[← h1,← h3];simp[h2,h4]
def PA(val:Nat->Value):Value->Value
 | .agg cs=>.agg (cs.toList.map (n8 val)).toArray
 | v=>n8 val v
def F9:Value->Bool
 | .agg cs=>cs.toList.all ep
 | v=>ep v
theorem HS{x y:Value}(h:Eg x y=true):x=y/\F9 x=true:=by
 unfold Eg at h
 split at h
 ·rename_i l m
  obtain⟨h1,h2⟩:=HR h;subst h1;exact⟨rfl,h2⟩
 ·rename_i hne
  obtain⟨h1,h2⟩:=kj h;refine⟨h1,?_⟩;cases x<;>first | exact h2 | cases h2
theorem HT:∀ {l m:List Value},Eh l m=true->l=m/\∀ x ∈ l,F9 x=true:=by
 intro l
 induction l with
 | nil =>
  intro m h;cases m with
  | nil=>exact⟨rfl,λx hx=>by cases hx⟩
  | cons y m=>cases h
 | cons x l ih =>
  intro m h;cases m with
  | nil=>cases h
  | cons y m =>
   have h':(Eg x y&&Eh l m)=true:=h;rw[Bool.and_eq_true]at h';obtain⟨h1,h2⟩:=HS h'.1;obtain⟨h3,h4⟩:=ih h'.2;subst h1 h3;refine⟨rfl,λz hz=>?_⟩;rcases List.mem_cons.1 hz with e | e
   ·rw[e];exact h2
   ·exact h4 z e
abbrev gn:=BinOp×Value×Value×Value
abbrev gW:=UnOp×Value×Value
abbrev gX:=IntKind×Value×Value
abbrev jf:=FuncId×List Value×Value
noncomputable def Am(op:BinOp)(x y:Value):List gn->Option Value
 | []=>none
 | (o,a,b,r)::l=>if Nat.beq (RS op) (RS o)&&(pi x a&&(pi y b&&ep r)) then some r else Am op x y l
noncomputable def An(op:UnOp)(x:Value):List gW->Option Value
 | []=>none
 | (o,a,r)::l=>if Nat.beq (RT op) (RT o)&&(pi x a&&ep r) then some r else An op x l
noncomputable def Ao(k:IntKind)(x:Value):List gX->Option Value
 | []=>none
 | (o,a,r)::l=>if VL k o&&(pi x a&&ep r) then some r else Ao k x l
noncomputable def Ap(f:FuncId)(l:List Value):List jf->Option Value
 | []=>none
 | (g,m,r)::ks=>if Nat.beq f g&&(Eh l m&&ep r) then some r else Ap f l ks
theorem PB{a b:BinOp}(h:Nat.beq (RS a) (RS b)=true):a=b:=by
 cases a<;>cases b<;>first | rfl | (simp[RS]at h)
theorem PD{a b:UnOp}(h:Nat.beq (RT a) (RT b)=true):a=b:=by
 cases a<;>cases b<;>first | rfl | (simp[RT]at h)
theorem Aq{op:BinOp}{x y r:Value} : ∀ {l:List gn},Am op x y l=some r->(op,x,y,r) ∈ l/\ep x=true/\ep y=true/\ep r=true:=by
 intro l
 induction l with
 | nil=>intro h;cases h
 | cons q l ih =>
  intro h;obtain⟨o,a,b,z⟩:=q;simp only[Am]at h
  split at h
  ·rename_i hc
   simp only[Bool.and_eq_true]at hc;cases h;obtain⟨h1,h2⟩:=kj hc.2.1;obtain⟨h3,h4⟩:=kj hc.2.2.1;rw[PB hc.1,← h1,← h3];exact⟨List.mem_cons_self ..,h2,h4,hc.2.2.2⟩
  ·obtain⟨h1,h2⟩:=ih h
   exact⟨List.mem_cons_of_mem _ h1,h2⟩
theorem Ar{op:UnOp}{x r:Value} : ∀ {l:List gW},An op x l=some r->(op,x,r) ∈ l/\ep x=true/\ep r=true:=by
 intro l
 induction l with
 | nil=>intro h;cases h
 | cons q l ih =>
  intro h;obtain⟨o,a,z⟩:=q;simp only[An]at h
  split at h
  ·rename_i hc
   simp only[Bool.and_eq_true]at hc;cases h;obtain⟨h1,h2⟩:=kj hc.2.1;rw[PD hc.1,← h1];exact⟨List.mem_cons_self ..,h2,hc.2.2⟩
  ·obtain⟨h1,h2⟩:=ih h
   exact⟨List.mem_cons_of_mem _ h1,h2⟩
theorem As{k:IntKind}{x r:Value} : ∀ {l:List gX},Ao k x l=some r->(k,x,r) ∈ l/\ep x=true/\ep r=true:=by
 intro l
 induction l with
 | nil=>intro h;cases h
 | cons q l ih =>
  intro h;obtain⟨o,a,z⟩:=q;simp only[Ao]at h
  split at h
  ·rename_i hc
   simp only[Bool.and_eq_true]at hc;cases h;obtain⟨h1,h2⟩:=kj hc.2.1;rw[@xF dY _ _ hc.1,← h1];exact⟨List.mem_cons_self ..,h2,hc.2.2⟩
  ·obtain⟨h1,h2⟩:=ih h
   exact⟨List.mem_cons_of_mem _ h1,h2⟩
theorem pj{f:FuncId}{args:List Value}{r:Value} : ∀ {l:List jf},Ap f args l=some r->(f,args,r) ∈ l/\(∀ x ∈ args,F9 x=true)/\ep r=true:=by
 intro l
 induction l with
 | nil=>intro h;cases h
 | cons q l ih =>
  intro h;obtain⟨o,a,z⟩:=q;simp only[Ap]at h
  split at h
  ·rename_i hc
   simp only[Bool.and_eq_true]at hc;cases h;obtain⟨h1,h2⟩:=HT hc.2.1;rw[Nat.eq_of_beq_eq_true hc.1,← h1];exact⟨List.mem_cons_self ..,h2,hc.2.2⟩
  ·obtain⟨h1,h2⟩:=ih h
   exact⟨List.mem_cons_of_mem _ h1,h2⟩
def jg(val:Nat->Value)(q:gn):Prop:=∀ t ox oy,(do eqGuard q.1 t ox oy (n8 val q.2.1) (n8 val q.2.2.1);binOp q.1 t (n8 val q.2.1) (n8 val q.2.2.1):Sem Value)=pure (n8 val q.2.2.2)
def jD(val:Nat->Value)(q:gW):Prop:=Op.unary q.1 (n8 val q.2.1)=pure (n8 val q.2.2)
def jh(val:Nat->Value)(q:gX):Prop:=∃ k0 n,n8 val q.2.1=.int k0 n/\n8 val q.2.2=.int q.1 (q.1.wrap n)
def HU(P:Program)(val:Nat->Value)(q:jf):Prop:=∀ w,Calls P q.1 (q.2.1.map (PA val)).toArray w λe w'=>e=.returned (n8 val q.2.2)/\Below w.heap.size w w'
@[reducible] noncomputable def Ei(val:Nat->Value)(leaf:∀ n,ai (val n)=true)(bs:List gn)(us:List gW)(cs:List gX)(ks:List jf)(hb:∀ q ∈ bs,jg val q)(hu:∀ q ∈ us,jD val q)(hc:∀ q ∈ cs,jh val q):aP where
 val:=val
 leaf:=leaf
 bin:=λop x y=>Am op x y bs
 wH:=λop x y r h=>by
  obtain⟨h1,h2,h3,h4⟩:=Aq h;exact⟨h2,h3,h4,hb _ h1⟩
 Rg:=λop x=>An op x us
 wI:=λop x r h=>by
  obtain⟨h1,h2,h3⟩:=Ar h;exact⟨h2,h3,hu _ h1⟩
 Rh:=λk x=>Ao k x cs
 wJ:=λk x r h=>by
  obtain⟨h1,h2,h3⟩:=As h;exact⟨h2,h3,hc _ h1⟩
 Mb:=λf l=>Ap f l ks
 wK:=λf l r h=>(pj h).2.2
 GR:=λ_ _ _ _=>False
 rN:=λ_ _ _ _ _ _ h=>h
 rO:=λ_ _ _ _ _ _ h=>h
 G0:=λ_ _=>none
 wL:=λ_ _=>none
theorem Ej[aP]{ι:ag}{x x':Value}(h:ao ι x x')(hs:F9 x=true):x'=PA aP.val x:=by
 cases h with
 | agg f f' hf hr =>
  have hs':∀ y ∈ f.toList,ep y=true:=by
   have:f.toList.all ep=true:=hs
   rwa [List.all_eq_true]at this
  show Value.agg f'=.agg (f.toList.map (n8 aP.val)).toArray
  congr 1
  apply Array.ext (by simp[hf]);intro i h1 h2;have h3:i<f.size:=by rw[hf];exact h1
  have:=sT (hr i _ _ (Array.getElem?_eq_getElem h3) (Array.getElem?_eq_getElem h1)) (hs' _ (by rw[Array.mem_toList_iff];exact Array.getElem_mem h3));rw[this];simp
 | sym n m _ hh=>exact hh.symm
 | _=>first | rfl | cases hs
theorem HV[aP]{ι:ag}{x:Value}(hs:F9 x=true):ao ι x (PA aP.val x):=by
 cases x with
 | agg cs =>
  have hs':∀ y ∈ cs.toList,ep y=true:=by
   have:cs.toList.all ep=true:=hs
   rwa [List.all_eq_true]at this
  refine .agg _ _ (by simp) (λi v v' h1 h2=>?_);have h3:v'=n8 aP.val v:=by
   rw[List.getElem?_toArray,List.getElem?_map,Array.getElem?_toList,h1]at h2;cases h2;rfl
  rw[h3];exact kN (hs' v (by rw[Array.mem_toList_iff];exact Array.mem_of_getElem? h1))
 | _=>exact kN hs
theorem Ek[aP]{ι:ag}{args:Array Value}(h:args.toList.all F9=true):bh ι args (args.toList.map (PA aP.val)).toArray:=by
 rw[List.all_eq_true]at h;refine⟨by simp,λi v v' h1 h2=>?_⟩;have h3:v'=PA aP.val v:=by
  rw[List.getElem?_toArray,List.getElem?_map,Array.getElem?_toList,h1]at h2;cases h2;rfl
 rw[h3];exact HV (h v (by rw[Array.mem_toList_iff];exact Array.mem_of_getElem? h1))
theorem vU{P:Program}{val:Nat->Value}{leaf:∀ n,ai (val n)=true}{bs:List gn}{us:List gW}{cs:List gX}{ks:List jf}{hb:∀ q ∈ bs,jg val q}{hu:∀ q ∈ us,jD val q}{hc:∀ q ∈ cs,jh val q}(hk:∀ q ∈ ks,HU P val q) :
  @di (Ei val leaf bs us cs ks hb hu hc) P:=by
 letI:aP:=Ei val leaf bs us cs ks hb hu hc;refine⟨?_,(λ_ _ _ h=>by cases h),(λ_ _ _ h=>by cases h)⟩;intro f args r h ι args' w ha;obtain⟨h1,h2,h3⟩:=pj h;have he:args'=(args.toList.map (PA val)).toArray:=by
  apply Array.ext (by simp[ha.1]);intro i g1 g2;have g3:i<args.size:=by rw[ha.1];exact g1
  have:=Ej (ha.2 i _ _ (Array.getElem?_eq_getElem g3) (Array.getElem?_eq_getElem g1)) (h2 _ (by rw[Array.mem_toList_iff];exact Array.getElem_mem g3));rw[this];simp;rfl
 rw[he];refine(hk _ h1 w).mono ?_;rintro e w' ⟨rfl,hb'⟩;exact⟨_,rfl,kN h3,hb'⟩
theorem eF(op:BinOp)(t:TypeId)(ox oy:Operand)(k k':IntKind)(x y:Int):eqGuard op t ox oy (.int k x) (.int k' y)=pure ():=by
 unfold eqGuard
 split<;>rfl
theorem qq{op:BinOp}{t:TypeId}{ox oy:Operand}{k:IntKind}{x y:Int}{b:Bool}(h:Op.intCmp op x y=pure (.bool b))(ho:op=.eql\/op=.neq\/op=.lss\/op=.leq\/op=.gtr\/op=.geq):(do eqGuard op t ox oy (.int k x) (.int k y);binOp op t (.int k x) (.int k y):Sem Value)=pure (.bool b):=by
  rw[eF];show binOp op t (.int k x) (.int k y)=_;rcases ho with rfl | rfl | rfl | rfl | rfl | rfl<;>simp[binOp,h]
theorem bG{t:TypeId}{ox oy:Operand}{k:IntKind}{x y:Int}{b:Bool}(h:decide (x≥y)=b):(do eqGuard .geq t ox oy (.int k x) (.int k y);binOp .geq t (.int k x) (.int k y):Sem Value)=pure (.bool b):=qq (by unfold Op.intCmp;rw[h]) (by simp)
theorem oo{t:TypeId}{ox oy:Operand}{k:IntKind}{x y:Int}{b:Bool}(h:decide (x<=y)=b):(do eqGuard .leq t ox oy (.int k x) (.int k y);binOp .leq t (.int k x) (.int k y):Sem Value)=pure (.bool b):=qq (by unfold Op.intCmp;rw[h]) (by simp)
theorem aQ{t:TypeId}{ox oy:Operand}{k:IntKind}{x y:Int}{b:Bool}(h:decide (x<y)=b):(do eqGuard .lss t ox oy (.int k x) (.int k y);binOp .lss t (.int k x) (.int k y):Sem Value)=pure (.bool b):=qq (by unfold Op.intCmp;rw[h]) (by simp)
theorem a_{t:TypeId}{ox oy:Operand}{k:IntKind}{x y:Int}{b:Bool}(h:decide (x>y)=b):(do eqGuard .gtr t ox oy (.int k x) (.int k y);binOp .gtr t (.int k x) (.int k y):Sem Value)=pure (.bool b):=qq (by unfold Op.intCmp;rw[h]) (by simp)
theorem aM{t:TypeId}{ox oy:Operand}{k:IntKind}{x y:Int}{b:Bool}(h:decide (x=y)=b):(do eqGuard .eql t ox oy (.int k x) (.int k y);binOp .eql t (.int k x) (.int k y):Sem Value)=pure (.bool b):=qq (by unfold Op.intCmp;rw[← h];rfl) (by simp)
theorem eY{t:TypeId}{ox oy:Operand}{k:IntKind}{x y:Int}{b:Bool}(h:decide (x≠y)=b):(do eqGuard .neq t ox oy (.int k x) (.int k y);binOp .neq t (.int k x) (.int k y):Sem Value)=pure (.bool b):=qq (by unfold Op.intCmp;rw[← h];simp[bne];rfl) (by simp)
theorem ax{t:TypeId}{ox oy:Operand}{k:IntKind}{x y z:Int}(h:k.wrap (x+y)=z):(do eqGuard .add t ox oy (.int k x) (.int k y);binOp .add t (.int k x) (.int k y):Sem Value)=pure (.int k z):=by
  rw[eF];show binOp .add t (.int k x) (.int k y)=_;simp[binOp,Op.intArith,h]
theorem bX{t:TypeId}{ox oy:Operand}{k:IntKind}{x y z:Int}(h:k.wrap (x-y)=z):(do eqGuard .sub t ox oy (.int k x) (.int k y);binOp .sub t (.int k x) (.int k y):Sem Value)=pure (.int k z):=by
  rw[eF];show binOp .sub t (.int k x) (.int k y)=_;simp[binOp,Op.intArith,h]
theorem fm{t:TypeId}{ox oy:Operand}{k:IntKind}{x y z:Int}(h:k.wrap (x*y)=z):(do eqGuard .mul t ox oy (.int k x) (.int k y);binOp .mul t (.int k x) (.int k y):Sem Value)=pure (.int k z):=by
  rw[eF];show binOp .mul t (.int k x) (.int k y)=_;simp[binOp,Op.intArith,h]
theorem dH{t:TypeId}{ox oy:Operand}{k:IntKind}{x y z:Int}(hy:y≠0)(h:k.wrap (x.tdiv y)=z):(do eqGuard .quo t ox oy (.int k x) (.int k y);binOp .quo t (.int k x) (.int k y):Sem Value)=pure (.int k z):=by
  rw[eF];show binOp .quo t (.int k x) (.int k y)=_;simp[binOp,Op.intDiv,h,hy]
theorem bS{t:TypeId}{ox oy:Operand}{k:IntKind}{x y z:Int}(hy:y≠0)(h:x.tmod y=z):(do eqGuard .rem t ox oy (.int k x) (.int k y);binOp .rem t (.int k x) (.int k y):Sem Value)=pure (.int k z):=by
  rw[eF];show binOp .rem t (.int k x) (.int k y)=_;simp[binOp,Op.intDiv,h,hy]
theorem PE{k:IntKind}{x z:Int}(h:k.wrap (0-x)=z):Op.unary .neg (.int k x)=pure (.int k z):=by
 simp only[Op.unary,Op.intArith,h]
abbrev sy(n:Nat):Value:=.complex .f64 n 0
theorem bF{val:Nat->Value}{k k0:IntKind}{x r:Value}{n m:Int}(hx:n8 val x=.int k0 n)(hr:n8 val r=.int k m)(h:k.wrap n=m):jh val (k,x,r):=⟨k0,n,hx,by rw[h];exact hr⟩
noncomputable def Tn:Option Addr->Option Addr->Bool
 | none,none=>true
 | some ⟨b,o,none⟩,some ⟨b',o',none⟩=>Nat.beq b b'&&Nat.beq o o'
 | _,_=>false
noncomputable def T8:Option Nat->Option Nat->Bool
 | none,none=>true
 | some b,some b'=>Nat.beq b b'
 | _,_=>false
noncomputable def VN:FloatKind->FloatKind->Bool
 | .f32,.f32=>true
 | .f64,.f64=>true
 | _,_=>false
noncomputable def rK(f:Value->Value->Bool):List Value->List Value->Bool
 | [],[]=>true
 | x::l,y::m=>f x y&&rK f l m
 | _,_=>false
noncomputable def Cy:Nat->Value->Value->Bool
 | 0,_,_=>false
 | n+1,x,y =>
  match x,y with
  | .bool a,.bool b=>(match a,b with | true,true=>true | false,false=>true | _,_=>false)
  | .int k a,.int k' b=>Nat.beq (My k) (My k')&&Hr a b
  | .complex k a b,.complex k' a' b'=>VN k k'&&(Nat.beq a a'&&Nat.beq b b')
  | .pointer a,.pointer b=>Tn a b
  | .slice a n c,.slice a' n' c'=>Tn a a'&&(Nat.beq n n'&&Nat.beq c c')
  | .map a,.map b=>T8 a b
  | .nilFunc,.nilFunc=>true
  | .nilIface,.nilIface=>true
  | .iface t a,.iface t' a'=>Nat.beq t t'&&Cy n a a'
  | .agg a,.agg b=>rK (Cy n) a.toList b.toList
  | .tuple a,.tuple b=>rK (Cy n) a.toList b.toList
  | _,_=>false
theorem HW{a b:Option Addr}(h:Tn a b=true):a=b:=by
 unfold Tn at h
 split at h
 ·rfl
 ·rw[Bool.and_eq_true]at h
  rw[Nat.eq_of_beq_eq_true h.1,Nat.eq_of_beq_eq_true h.2]
 ·cases h
theorem PF{a b:Option Nat}(h:T8 a b=true):a=b:=by
 unfold T8 at h
 split at h
 ·rfl
 ·rw[Nat.eq_of_beq_eq_true h]
 ·cases h
theorem PG{a b:FloatKind}(h:VN a b=true):a=b:=by cases a<;>cases b<;>first | rfl | cases h
theorem mW{f:Value->Value->Bool}(hf:∀ x y,f x y=true->x=y):∀ {l m:List Value},rK f l m=true->l=m:=by
 intro l
 induction l with
 | nil=>intro m h;cases m with | nil=>rfl | cons y m=>cases h
 | cons x l ih =>
  intro m h;cases m with
  | nil=>cases h
  | cons y m =>
   have h':(f x y&&rK f l m)=true:=h;rw[Bool.and_eq_true]at h';rw[hf x y h'.1,ih h'.2]
theorem qr:∀ (n:Nat) (x y:Value),Cy n x y=true->x=y:=by
 intro n
 induction n with
 | zero=>intro x y h;cases h
 | succ n ih =>
  intro x y h;unfold Cy at h
  split at h
  ·split at h<;>first | rfl | cases h
  ·rw[Bool.and_eq_true]at h
   rw[@xF dY _ _ h.1,show _=_ from of_decide_eq_true ((@xE dY _ _).symm.trans h.2)]
  ·simp only[Bool.and_eq_true]at h
   rw[PG h.1,Nat.eq_of_beq_eq_true h.2.1,Nat.eq_of_beq_eq_true h.2.2]
  ·rw[HW h]
  ·simp only[Bool.and_eq_true]at h
   rw[HW h.1,Nat.eq_of_beq_eq_true h.2.1,Nat.eq_of_beq_eq_true h.2.2]
  ·rw[PF h]
  ·rfl
  ·rfl
  ·rw[Bool.and_eq_true]at h
   rw[Nat.eq_of_beq_eq_true h.1,ih _ _ h.2]
  ·congr 1;exact Array.ext' (mW ih h)
  ·congr 1;exact Array.ext' (mW ih h)
  ·cases h
variable[aP]
def T9:List (Nat×Obj)->Tr
 | []=>.leaf
 | (id,o)::l=>(T9 l).set deep id (some o)
def fB(l:List (Nat×Obj))(n:Nat):St:=⟨T9 l,n,[]⟩
def aY(l:List (Nat×Nat)):ag:=λid=>(l.find? λp=>p.1==id).map (·.2)
theorem kl(n:Nat):∀ (l:List (Nat×Obj)) (id:Nat),(∀ p ∈ l,p.1<lim)->(fB l n).look id=(l.find? λp=>p.1==id).map (·.2):=by
 intro l
 induction l with
 | nil=>intro id _;exact Tr.lW _ _
 | cons p l ih =>
  intro id h;obtain⟨j,o⟩:=p;have hl:j<lim:=h (j,o) (List.mem_cons_self ..);show((T9 l).set deep j (some o)).get deep id=_;rw[List.find?_cons]
  by_cases e:j=id
  ·subst e
   simp only[beq_self_eq_true];exact Tr.get_set_same 29 _ _ _ hl
  ·rw[show((j,o).1==id)=false by simpa using e]
   rw[Tr.get_set_other _ _ _ _ _ (λe'=>e e'.symm)];exact ih id (λp hp=>h p (List.mem_cons_of_mem _ hp))
theorem gB{l:List (Nat×Nat)}{id b:Nat}(h:aY l id=some b):(id,b) ∈ l:=by
 unfold aY at h;cases hf:l.find? (λp=>p.1==id) with
 | none=>rw[hf]at h;cases h
 | some p =>
  rw[hf]at h;cases h;have h1:=List.find?_some hf;have h2:=List.mem_of_find?_eq_some hf;obtain⟨x,y⟩:=p;simp only[beq_iff_eq]at h1;subst h1;exact h2
theorem mf{l:List (Nat×Obj)}{id:Nat}{o:Obj}(h:(l.find? λp=>p.1==id).map (·.2)=some o):(id,o) ∈ l:=by
 cases hf:l.find? (λp=>p.1==id) with
 | none=>rw[hf]at h;cases h
 | some p =>
  rw[hf]at h;cases h;have h1:=List.find?_some hf;have h2:=List.mem_of_find?_eq_some hf;obtain⟨x,y⟩:=p;simp only[beq_iff_eq]at h1;subst h1;exact h2
def Rest(l:List (Nat×Nat))(F:Nat->Prop)(w:World)(j:Nat):Prop:=j<w.heap.size/\¬ F j/\∀ p ∈ l,p.2≠j
theorem tw{P:Program}{w:World}{objs:List (Nat×Obj)}{l:List (Nat×Nat)}{n:Nat}{F:Nat->Prop}(hlim:∀ p ∈ objs,p.1<lim)
  (T_:∀ p ∈ objs,rH p.2=none->∃ b o',aY l p.1=some b/\w.heap[b]? = some o'/\ib P (aY l) p.1 p.2 o') (hinj:∀ p ∈ l,∀ q ∈ l,p.2=q.2->p.1=q.1)
  (hF:∀ j,F j->j<w.heap.size) (Wp:∀ p ∈ l,¬ F p.2)
  (hg:∀ p ∈ objs,∀ g,rH p.2=some g->p.1=3/\aY l 3=none/\aP.GR g (aY l) F w):dg P (Rest l F w) (aY l) (fB objs n).look w:=by
 refine⟨λid id' o o' b _ _ h1 h2=>?_,λid o ho hrl=>?_,λk hk=>hk.1,λid o g ho hgn=>?_⟩
 ·exact hinj _ (gB h1) _ (gB h2) rfl
 ·rw[kl n objs id hlim]at ho
  obtain⟨b,o',h1,h2,h3⟩:=T_ _ (mf ho) hrl;exact⟨b,o',h1,h2,h3,λhk=>hk.2.2 _ (gB h1) rfl⟩
 ·rw[kl n objs id hlim]at ho
  obtain⟨h1,h2,h3⟩:=hg _ (mf ho) g hgn;exact⟨h1,h2,F,h3,λj hj=>⟨hF j hj,λhk=>hk.2.1 hj⟩,λx ox b _ h5=>Wp _ (gB h5)⟩
theorem Ga{P:Program}(hP:P.check=.ok ())(cY:di P)(hm:P.follows .mixedOrders=true){n m:Nat}{f:FuncId}{args args':Array Value}{objs:List (Nat×Obj)}{l:List (Nat×Nat)}{F:Nat->Prop}{c:Option (Value×St)->Bool}
  (h:cZ P (λB=>c (dG B (tn B n) f args.toList (fB objs m)))=true) (hc:c none=false) {w:World} (hlim:∀ p ∈ objs,p.1<lim) (hnew:∀ p ∈ objs,p.1<4*m) (T':∀ p ∈ l,p.1<4*m)
  (hr:dg P (Rest l F w) (aY l) (fB objs m).look w) (ha:bh (aY l) args args') :
  Calls P f args' w λe w1=>∃ κ v v' s1,c (some (v,s1))=true/\e=.returned v'/\Goes P (Rest l F w) (aY l) κ (fB objs m) s1 w w1/\ao κ v v':=by
 obtain⟨B,hB,RR,e⟩:=tp P (λB=>c (dG B (tn B n) f args.toList (fB objs m)));rw[e]at h;subst RR;cases hx:dG B (tn B n) f args.toList (fB objs m) with
 | none=>rw[hx,hc]at h;cases h
 | some x =>
  obtain⟨v,s1⟩:=x;rw[hx]at h;have h1:=mV hB (xH hB n) f args _ _ _ hx;refine((D1 hP cY hm n).1 f args _ v s1 h1 (λid x y=>?_) (aY l) args' w hr ha (λid x y=>?_)).mono ?_
  ·rw[kl m objs id hlim]
   cases hf:(objs.find? λp=>p.1==id).map (·.2) with
   | none=>rfl
   | some o =>
    have:=hnew _ (mf hf);have x':4*m<=id:=x;simp only at this;omega
  ·cases hf:aY l id with
   | none=>rfl
   | some b =>
    have:=T' _ (gB hf);have x':4*m<=id:=x;simp only at this;omega
  ·rintro e w1 ⟨κ,v',rfl,g,hv⟩
   exact⟨κ,v,v',s1,h,rfl,g,hv⟩
def PH:Value->Bool
 | .pointer (some ⟨_,_,none⟩)=>true
 | .pointer none | .slice none 0 0 | .map none | .nilFunc | .nilIface=>true
 | .complex .f32 _ 0=>true
 | .complex .f32 _ (_+2)=>true
 | v=>ep v
def u3(κ:ag):Value->Value
 | .pointer (some ⟨id,off,none⟩)=>.pointer (some ⟨(κ id).getD 0,off,none⟩)
 | .complex .f32 id 0=>dec ((κ id).getD 0)
 | .complex .f32 id (j+2)=>am j (dec ((κ id).getD 0))
 | v=>n8 aP.val v
theorem pk{κ:ag}{v v':Value}(h:ao κ v v')(hk:PH v=true):v'=u3 κ v:=by
 cases h with
 | ptr id off b h=>simp[u3,h]
 | oM=>rfl
 | c8=>rfl
 | n9=>rfl
 | nilFunc=>rfl
 | nilIface=>rfl
 | sym n m _ h=>exact h.symm
 | dyn id c _ h h'=>simp[u3,h,h']
 | sE id c j _ h h'=>simp[u3,h,h']
 | bool=>rfl
 | int=>rfl
 | float=>rfl
 | string=>rfl
 | _=>first | cases hk | (simp[PH,ep]at hk)
theorem k9{P:Program}{base:Nat->Prop}{ι κ:ag}{s s1:St}{w w1:World}(g:Goes P base ι κ s s1 w w1){id:Nat}{c:Array Value}{e:TypeId}(h:s1.look id=some (.cells c e (0,0)))(hg:iQ id=false) :
  ∃ b c',κ id=some b/\w1.heap[b]? = some (.cells c' e (0,0))/\¬ base b/\bh κ c c':=by
 obtain⟨b,o',h1,h2,h3,h4⟩:=g.rep.there id _ h rfl;obtain⟨_,c',rfl,k1,k2,k3,_⟩:=h3;exact⟨b,c',h1,h2,h4,k2 hg,k3⟩
theorem tx{κ:ag}{c c':Array Value}(h:bh κ c c')(hk:c.toList.all PH=true):c'=(c.toList.map (u3 κ)).toArray:=by
 rw[List.all_eq_true]at hk;apply Array.ext (by simp[h.1]);intro i h1 h2;have h3:i<c.size:=by rw[h.1];exact h1
 rw[pk (h.2 i _ _ (Array.getElem?_eq_getElem h3) (Array.getElem?_eq_getElem h1)) (hk _ (by rw[Array.mem_toList_iff];exact Array.getElem_mem h3))];simp
theorem tz{P:Program}{base:Nat->Prop}{ι κ:ag}{s s1:St}{w w1:World}(g:Goes P base ι κ s s1 w w1){k:Nat}(h:s1.look 3=some (jr k)) :
  ∃ F:Nat->Prop,aP.GR k κ F w1/\(∀ j,F j->j<w1.heap.size/\¬ base j)/\∀ x ox b,s1.look x=some ox->κ x=some b->¬ F b:=by
 obtain⟨_,_,F,h1,h2,h3⟩:=g.rep.gh 3 _ k h rfl;exact⟨F,h1,h2,h3⟩
abbrev dZ:=Nat×List Value×TypeId
noncomputable def HX(s:St)(q:dZ):Bool :=
 match Tr.gt deep s.heap q.1 with
 | some (.cells c e (0,0))=>rK (Cy 4) c.toList q.2.1&&Nat.beq e q.2.2
 | _=>false
noncomputable def PI(s:St):Option Nat->Bool
 | none=>true
 | some g=>(match Tr.gt deep s.heap 3 with | some (.view ⟨b,0,none⟩ 0)=>Nat.beq b g | _=>false)
noncomputable def ji(r:Value)(bl:List dZ)(g:Option Nat):Option (Value×St)->Bool
 | some (v,s)=>Cy 4 v r&&(bl.all (HX s)&&PI s g)
 | none=>false
theorem tA{r:Value}{bl:List dZ}{g:Option Nat}{v:Value}{s:St}(h:ji r bl g (some (v,s))=true) :
  v=r/\(∀ q ∈ bl,s.look q.1=some (.cells q.2.1.toArray q.2.2 (0,0)))/\∀ k,g=some k->s.look 3=some (jr k):=by
 unfold ji at h;simp only[Bool.and_eq_true]at h;obtain⟨h1,h2,h3⟩:=h;rw[List.all_eq_true]at h2;refine⟨qr _ _ _ h1,λq hq=>?_,λk hk=>?_⟩
 ·have:=h2 q hq
  unfold HX at this
  split at this
  ·rename_i c e hl
   rw[Bool.and_eq_true]at this;rw[Tr.Hz]at hl;show s.heap.get deep q.1=_;rw[hl,← mW (qr 4) this.1,Nat.eq_of_beq_eq_true this.2]
  ·cases this
 ·subst hk
  simp only[PI]at h3
  split at h3
  ·rename_i b hl
   rw[Tr.Hz]at hl;show s.heap.get deep 3=_;rw[hl,Nat.eq_of_beq_eq_true h3];rfl
  ·cases h3
theorem gY{P:Program}(hP:P.check=.ok ())(cY:di P)(hm:P.follows .mixedOrders=true){n m:Nat}{f:FuncId}{args args':Array Value}{cs c1:List Value}{T:TypeId}{g g':Nat}{r:Value}{bm:Nat}{F:Nat->Prop}{w:World}
  (h:cZ P (λB=>ji r [(4,c1,T)] (some g') (dG B (tn B n) f args.toList (fB [(4,.cells cs.toArray T (0,0)),(3,jr g)] m)))=true) (h4:2<=m) {cs':List Value} (hb:w.heap[bm]? = some (.cells cs'.toArray T (0,0)))
  (hcs:cN (aY [(4,bm)]) cs cs') (hg:aP.GR g (aY [(4,bm)]) F w) (hF:∀ j,F j->j<w.heap.size) (Wq:¬ F bm) (ha:bh (aY [(4,bm)]) args args') (hk:c1.all PH=true) :
  Calls P f args' w λe w1=>∃ κ v',e=.returned v'/\ao κ r v'/\κ 4=some bm/\w1.heap[bm]? = some (.cells (c1.map (u3 κ)).toArray T (0,0))/\(∃ F':Nat->Prop,aP.GR g' κ F' w1/\¬ F' bm/\(∀ j,F' j->j<w1.heap.size/\(F j\/w.heap.size<=j)))/\Turn (λj=>j=bm\/F j) w w1:=by
 have hbl:bm<w.heap.size:=(Array.getElem?_eq_some_iff.1 hb).1;have r4:aY [(4,bm)] 4=some bm:=rfl;have hr:dg P (Rest [(4,bm)] F w) (aY [(4,bm)]) (fB [(4,.cells cs.toArray T (0,0)),(3,jr g)] m).look w:=by
  refine tw ?_ ?_ ?_ hF ?_ ?_
  ·intro p hp
   simp only[List.mem_cons,List.not_mem_nil,or_false]at hp;rcases hp with rfl | rfl<;>(show _<lim;unfold lim;omega)
  ·intro p hp hgn
   simp only[List.mem_cons,List.not_mem_nil,or_false]at hp;rcases hp with rfl | rfl
   ·refine⟨bm,_,r4,hb,rfl,cs'.toArray,rfl,by simp[hcs.1],(λ_=>by simp[hcs.1]),λi v v' h1 h2=>hcs.2 i v v' (by simpa using h1) (by simpa using h2),λh=>absurd h (by show ¬ iQ 4=true;decide)⟩
   ·cases hgn
  ·intro p hp q hq _
   simp only[List.mem_cons,List.not_mem_nil,or_false]at hp hq;rw[hp,hq]
  ·intro p hp
   simp only[List.mem_cons,List.not_mem_nil,or_false]at hp;rw[hp];exact Wq
  ·intro p hp k hk
   simp only[List.mem_cons,List.not_mem_nil,or_false]at hp;rcases hp with rfl | rfl
   ·cases hk
   ·cases hk
    exact⟨rfl,rfl,hg⟩
 refine(Ga hP cY hm h rfl ?_ ?_ ?_ hr ha).mono ?_
 ·intro p hp
  simp only[List.mem_cons,List.not_mem_nil,or_false]at hp;rcases hp with rfl | rfl<;>(show _<lim;unfold lim;omega)
 ·intro p hp
  simp only[List.mem_cons,List.not_mem_nil,or_false]at hp;rcases hp with rfl | rfl<;>(show _<4*m;omega)
 ·intro p hp
  simp only[List.mem_cons,List.not_mem_nil,or_false]at hp;rw[hp];show 4<4*m;omega
 ·rintro e w1 ⟨κ,v,v',s1,ho,rfl,gg,hv⟩
  obtain⟨rfl,o1,o2⟩:=tA ho;have l4:=o1 _ (List.mem_singleton.2 rfl);obtain⟨b,c',k1,k2,k3,k4⟩:=k9 gg l4 (by show iQ 4=false;decide);have e4:κ 4=some bm:=by
   rw[gg.ext 4 (.inl (by show 4<4*m;omega))];rfl
  rw[e4]at k1;cases k1;obtain⟨F',q1,q2,q3⟩:=tz gg (o2 g' rfl);refine⟨κ,v',rfl,hv,e4,?_,⟨F',q1,q3 4 _ bm l4 e4,λj hj=>⟨(q2 j hj).1,?_⟩⟩,⟨gg.below.os,gg.below.tape,gg.below.output,gg.below.size,λk hk hn=>?_⟩⟩
  ·rw[k2,tx k4 (by simpa using hk)]
  ·by_cases VO:F j
   ·exact .inl VO
   ·refine .inr ?_
    rcases Nat.lt_or_ge j w.heap.size with hlt | hge
    ·exfalso
     have hjb:j≠bm:=λe=>q3 4 _ bm l4 e4 (e▸hj)
     exact(q2 j hj).2 ⟨hlt,VO,λp hp=>by
      simp only[List.mem_cons,List.not_mem_nil,or_false]at hp;rw[hp]
      exact λe=>hjb e.symm⟩
    ·exact hge
  ·refine gg.below.block k ⟨hk,λh=>hn (.inr h),λp hp e=>?_⟩
   simp only[List.mem_cons,List.not_mem_nil,or_false]at hp;rw[hp]at e;exact hn (.inl e.symm)
end Go.Ev
