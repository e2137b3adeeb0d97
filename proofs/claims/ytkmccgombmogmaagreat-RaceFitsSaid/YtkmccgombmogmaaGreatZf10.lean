/- Part of a proof: see the last text. -/
import Derived.Test.YtkmccgombmogmaaGreatZf9
import Derived.Test.YtkmccgombmogmaaGreatRows
set_option linter.unusedSectionVars false
set_option linter.unusedSimpArgs false
set_option linter.unusedVariables false
namespace Go.Ev
open Go.RowKit
variable[bB]
structure Env(n:Nat)(t:TV)(d:List Deferred)(a:Act):Prop where
 sz:a.tmps.size=n
 lim:n<=4094
 df:a.defers=d
 get:∀ i,t.get i=a.tmps.getD i undef
theorem Env.eval{n:Nat}{t:TV}{df:List Deferred}{a:Act}(h:Env n t df a):dI t=a.eval:=by
 funext x
 cases x with
 | tmp i=>exact h.get i
 | _=>rfl
theorem kQ{β:Type}{n:Nat}{t:TV}{df:List Deferred}{a:Act}(h:Env n t df a)(d:Option Tmp)(v:Value)(k:TV->β):∃ t1,tN n t d v k=k t1/\Env n t1 df (a.put d v):=by
 cases d with
 | none=>exact⟨t,rfl,h⟩
 | some d =>
  show ∃ t1,@Bool.rec (λ_=>β) (k t) (EK v (λv=>TV.lW 12 t d v k)) (Nat.blt d n)=k t1/\_;rw[jl]
  by_cases hd:@LT.lt Nat instLTNat d n
  ·have hb:Nat.blt d n=true:=Nat.ble_eq_true_of_le hd
   have hl:=h.lim;rw[if_pos hb,BI,TV.BG];refine⟨_,rfl,by simp[Act.put,h.sz],h.lim,h.df,λi=>?_⟩;rw[TV.fF _ _ _ _ _ (by omega)];simp only[Act.put,Array.getD_eq_getD_getElem?];rw[Array.getElem?_setIfInBounds]
   by_cases e:d=i
   ·subst e
    rw[if_pos rfl,if_pos rfl,if_pos (by rw[h.sz];exact hd)];rfl
   ·rw[if_neg (λe'=>e e'.symm),if_neg e,h.get i,Array.getD_eq_getD_getElem?]
  ·have hb:¬ Nat.blt d n=true:=λhh=>hd (Nat.le_of_ble_eq_true hh)
   rw[if_neg hb];refine⟨t,rfl,by simp[Act.put,h.sz],h.lim,h.df,λi=>?_⟩;rw[h.get i];simp only[Act.put,Array.getD_eq_getD_getElem?];rw[Array.getElem?_setIfInBounds]
   by_cases e:d=i
   ·subst e
    rw[if_pos rfl,if_neg (by rw[h.sz];exact hd),Array.getElem?_eq_none (by rw[h.sz];omega)]
   ·rw[if_neg e]
def oD(call:kN)(call':Caller):Prop:=∀ c s v s1,call c s=some (v,s1)->call' c s=some (v,s1)
theorem yh{β:Type}{B:Base}(hB:ql B){call:kN}{call':Caller}(hc:oD call call'){n:Nat}{t:TV}{df:List Deferred}{a:Act}(h:Env n t df a){o:Oper}{s:St}{k:TV->St->Option β}{r:β}
  (hr:uc B call n t o s k=some r):∃ t1 a1 s1,jg B.P call' a o s=some (a1,s1)/\Env n t1 df a1/\k t1 s1=some r:=by
 have key:∀ x,BB B t o s=some x->bA B.P a o s=some x:=by
  intro x hx;have:=E3 hB hx;rw[h.eval,EQ]at this;exact this
 have eg:ub t o.op.operands.toList=lA a o.op:=by
  rw[yg,h.eval];rfl
 unfold uc at hr;unfold jg;rw[eg]at hr
 split at hr
 ·rename_i q hq
  obtain⟨h1,h2⟩:=cR hr;rw[hq];dsimp only;unfold rr;rw[if_pos h1]
  split at h2
  ·rename_i v s1 he
   obtain⟨t1,e1,h3⟩:=kQ h o.dst v (λt1=>k t1 s1);rw[e1]at h2;rw[he];exact⟨t1,_,s1,rfl,h3,h2⟩
  ·cases h2
 rename_i hq;rw[hq];dsimp only
 split at hr
 ·rename_i v s1 he
  rw[key _ he];obtain⟨t1,e1,h1⟩:=kQ h o.dst v (λt1=>k t1 s1);rw[e1]at hr;exact⟨t1,_,s1,rfl,h1,hr⟩
 ·rename_i s1 he
  rw[key _ he];obtain⟨t1,e1,h1⟩:=kQ h o.dst undef (λt1=>k t1 s1);rw[e1]at hr;exact⟨t1,_,s1,rfl,h1,hr⟩
 ·rename_i f args s1 he
  rw[key _ he]
  split at hr
  ·rename_i v s2 hcl
   obtain⟨t1,e1,h1⟩:=kQ h o.dst v (λt1=>k t1 s2);rw[e1]at hr;dsimp only;rw[hc _ _ _ _ hcl];exact⟨t1,_,s2,rfl,h1,hr⟩
  ·cases hr
 ·rename_i l fn tmps assign body s1 he
  rw[key _ he]
  split at hr
  ·rename_i v s2 hcl
   obtain⟨t1,e1,h1⟩:=kQ h o.dst v (λt1=>k t1 s2);rw[e1]at hr;dsimp only;rw[hc _ _ _ _ hcl];exact⟨t1,_,s2,rfl,h1,hr⟩
  ·cases hr
 ·cases hr
theorem Da{n:Nat}{t:TV}{df:List Deferred}{a:Act}(h:Env n t df a)(ops:Array Oper)(j:Nat):Ad ops t j=yielded ops a.tmps j:=by
 unfold Ad yielded;cases (ops[j]?).bind (·.dst) with
 | none=>rfl
 | some d =>
  dsimp only[Option.bind];rw[h.get d,Array.getD_eq_getD_getElem?];cases a.tmps[d]? with
  | none=>rfl
  | some v=>cases v<;>rfl
theorem yi{n:Nat}{t:TV}{df:List Deferred}{a:Act}(h:Env n t df a)(ops:Array Oper)(o:Oper):ud ops t o=Region.wanted o (yielded ops a.tmps):=by
 unfold ud Region.wanted;cases o.guard with
 | none=>rfl
 | some g =>
  obtain⟨j,w⟩:=g;dsimp only;rw[Da h];cases yielded ops a.tmps j with
  | none=>cases w<;>rfl
  | some b=>cases b<;>cases w<;>rfl
theorem E4{B:Base}(hB:ql B){call:kN}{call':Caller}(hc:oD call call'){n:Nat}(ops:Array Oper)(df:List Deferred):∀ (l:List Oper) (t:TV) (a:Act) (s:St) (x:dY),Env n t df a->yb B call n ops df l t s=some x->
  ∃ a1,lO B.P call' ops l a s=some (a1,x.2.2.2)/\Env n x.2.1 x.2.2.1 a1/\x.1=.normal:=by
 intro l
 induction l with
 | nil =>
  intro t a s x h hx;cases hx;exact⟨a,rfl,h,rfl⟩
 | cons o l ih =>
  intro t a s x h hx;have hx':@Bool.rec (λ_=>Option dY) (tN n t o.dst undef (λt1=>yb B call n ops df l t1 s)) (uc B call n t o s (λt1 s1=>yb B call n ops df l t1 s1)) (ud ops t o)=some x:=hx;rw[jl,yi h]at hx';unfold lO
  split at hx'
  ·rename_i hw
   rw[if_pos hw];obtain⟨t1,a1,s1,e1,h1,hk⟩:=yh hB hc h hx';rw[e1];exact ih _ _ _ _ h1 hk
  ·rename_i hw
   rw[if_neg hw];obtain⟨t1,e1,h1⟩:=kQ h o.dst undef (λt1=>yb B call n ops df l t1 s);rw[e1]at hx';exact ih _ _ _ _ h1 hx'
theorem E5{B:Base}(hB:ql B){call:kN}{call':Caller}(hc:oD call call'){n:Nat}(ops:Array Oper)(df:List Deferred):∀ (l:List Oper) (t:TV) (a:Act) (s:St) (ls:List (List Touch)) (x:dY),Env n t df a->yc B call n ops df l t s ls=some x->
  ∃ a1 Qy,lB B.P call' ops l a s ls=some (a1,x.2.2.2,Qy)/\(gU ops&&iH (Region.before ops) Qy (ops.size-1))=true/\Env n x.2.1 x.2.2.1 a1/\x.1=.normal:=by
 intro l
 induction l with
 | nil =>
  intro t a s ls x h hx;have hx':@Bool.rec (λ_=>Option dY) none (some (.normal,t,df,s)) (gU ops&&iH (Region.before ops) ls (ops.size-1))=some x:=hx;obtain⟨h1,h2⟩:=cR hx';cases h2;exact⟨a,ls,rfl,h1,h,rfl⟩
 | cons o l ih =>
  intro t a s ls x h hx;obtain⟨hh,nx,lg⟩:=s;have hx':@Bool.rec (λ_=>Option dY) (tN n t o.dst undef (λt1=>yc B call n ops df l t1 ⟨hh,nx,lg⟩ ([]::ls)))
   (uc B call n t o ⟨hh,nx,[]⟩ (λt1 s1=>@St.rec (λ_=>Option dY) (λh1 Qu Oj=>yc B call n ops df l t1 ⟨h1,Qu,List.append Oj lg⟩ (Oj::ls)) s1)) (ud ops t o)=some x:=hx
  rw[jl,yi h]at hx';unfold lB
  split at hx'
  ·rename_i hw
   rw[if_pos hw];obtain⟨t1,a1,s1,e1,h1,hk⟩:=yh hB hc h hx';obtain⟨h2,Uf,Ol⟩:=s1;dsimp only;rw[e1];exact ih _ _ _ _ _ h1 hk
  ·rename_i hw
   rw[if_neg hw];obtain⟨t1,e1,h1⟩:=kQ h o.dst undef (λt1=>yc B call n ops df l t1 ⟨hh,nx,lg⟩ ([]::ls));rw[e1]at hx';exact ih _ _ _ _ _ h1 hx'
theorem E6{β:Type} : ∀ (l:List Value) (i:Nat) (t:TV) (k:TV->β),i+l.length<=4094->∃ t1,lC l i t k=k t1/\∀ j,t1.get j=if i<=j/\j<i+l.length then (l[j-i]?).getD undef else t.get j:=by
 intro l
 induction l with
 | nil =>
  intro i t k hl;refine⟨t,rfl,λj=>?_⟩;rw[if_neg (by simp only[List.length_nil];omega)]
 | cons v l ih =>
  intro i t k hl;rw[List.length_cons]at hl;obtain⟨t1,e1,h1⟩:=ih (i+1) (TV.set 12 t i v) k (by omega);refine⟨t1,?_,λj=>?_⟩
  ·show TV.lW 12 t i v (λt1=>lC l (Nat.succ i) t1 k)=_
   rw[TV.BG];exact e1
  ·rw[h1 j,TV.fF _ _ _ _ _ (by omega),List.length_cons]
   by_cases hj:j=i
   ·subst hj
    rw[if_neg (by omega),if_pos rfl,if_pos (by omega)];simp
   ·rw[if_neg hj]
    by_cases hr:i+1<=j/\j<i+1+l.length
    ·rw[if_pos hr,if_pos (by omega),show j-i=(j-(i+1))+1 by omega]
     simp
    ·rw[if_neg hr,if_neg (by omega)]
theorem Mv(t:TV):∀ (k i:Nat),t.Mq k i=(List.range' i k).map t.get:=by
 intro k
 induction k with
 | zero=>intro i;rfl
 | succ k ih =>
  intro i;show t.get i::t.Mq k (Nat.succ i)=_;rw[ih,List.range'_succ];rfl
theorem Am{n:Nat}{t:TV}{df:List Deferred}{a:Act}(h:Env n t df a):(t.act n).tmps=a.tmps:=by
 apply Array.ext';show t.Mq n 0=_;rw[Mv];apply List.ext_getElem?;intro i;rw[List.getElem?_map]
 by_cases hi:i<n
 ·rw[List.getElem?_range' hi,Array.getElem?_toList,Array.getElem?_eq_getElem (by rw[h.sz];exact hi)]
  simp only[Option.map_some,Nat.one_mul,Nat.zero_add];rw[h.get i,Array.getD_eq_getD_getElem?,Array.getElem?_eq_getElem (by rw[h.sz];exact hi)];rfl
 ·rw[List.getElem?_eq_none (by simp;omega),Array.getElem?_toList,Array.getElem?_eq_none (by rw[h.sz];omega)]
  rfl
theorem E7{P:Program}{n:Nat}{t:TV}{df:List Deferred}{a:Act}(h:Env n t df a)(s:St)(f:ResultVar->Sem Value)(hf:∀ i,f (.tmp i)=pure (a.tmps.getD i undef)):∀ (l:List ResultVar) (vs:List Value),ue t l=some vs->
  ay P (l.mapM f) s=some (vs,s):=by
 intro l
 induction l with
 | nil =>
  intro vs hv;cases hv;rfl
 | cons r l ih =>
  intro vs hv;have hv':yd t r (ue t l)=some vs:=hv;unfold yd at hv';rw[List.mapM_cons,cz]
  split at hv'
  ·rename_i i ws hl
   cases hv';rw[hf];show ay P _ s=_;rw[cz,ih ws hl,h.get i];rfl
  ·cases hv'
theorem E8{α β:Type}(P:Program)(f:α->β)(m:Sem α)(s:St):ay P (Functor.map f m) s=(ay P m s).bind λ(a,s1)=>some (f a,s1):=by
 show ay P (m >>= λa=>pure (f a)) s=_;rw[cz];rfl
theorem JB{P:Program}{fn:Func}{t:TV}{df:List Deferred}{a:Act}(h:Env fn.ntmps t df a){s:St}{r:Value×St}(hr:Ms P fn t s=some r):og P fn a s=some r:=by
 have multi:∀ vs,ue t fn.results.toList=some vs->og P fn a s=some (if h:vs.length=1 then vs[0] else .tuple ⟨vs⟩,s):=by
  intro vs hv;unfold og results;rw[cz,Array.mapM_eq_mapM_toList,E8,E7 h s _ (λi=>rfl) _ _ hv];rfl
 unfold Ms at hr
 split at hr
 ·rename_i i hl
  cases hr;have:=multi [t.get i] (by rw[hl];rfl);rw[this];rfl
 ·rename_i hl
  cases hr;have:=multi [] (by rw[hl];rfl);rw[this];rfl
 ·rename_i x y l hl
  split at hr
  ·rename_i vs hv
   cases hr;have:=multi vs (by rw[hl];exact hv);rw[this,dif_neg];intro hlen;have Om:∀ (l:List ResultVar) (vs:List Value),ue t l=some vs->vs.length=l.length:=by
    intro l
    induction l with
    | nil=>intro vs hv;cases hv;rfl
    | cons r l ih =>
     intro vs hv;have hv':yd t r (ue t l)=some vs:=hv;unfold yd at hv'
     split at hv'
     ·rename_i i ws hl
      cases hv';rw[List.length_cons,List.length_cons,ih ws hl]
     ·cases hv'
   have:=Om _ _ hv;simp at this;omega
  ·rw[Am h]at hr
   exact hr
 ·rw[Am h]at hr
  exact hr
theorem JC{β:Type}(t:TV):∀ (k i:Nat) (f:List Value->β),t.Mr k i f=f (t.Mq k i):=by
 intro k
 induction k with
 | zero=>intro i f;rfl
 | succ k ih =>
  intro i f;show EK (t.get i) (λv=>t.Mr k (Nat.succ i) (λl=>f (v::l)))=f (t.get i::t.Mq k (Nat.succ i));rw[BI,ih]
def rJ(run:nH)(run':Runner):Prop:=∀ rd n c t d a s ex t1 d1 s1,Env n t d a->run rd n c t d s=some (ex,t1,d1,s1)->∃ a1,run' rd c a s=some (ex,a1,s1)/\Env n t1 d1 a1
theorem pH{args:List Value}{n:Nat}(h1:args.length<=n)(h2:n<=4094){β:Type}(k:TV->β):∃ t,lC args 0 .leaf k=k t/\Env n t [] { tmps:=⟨args⟩++Array.replicate (n-args.length) undef,defers:=[] }:=by
 obtain⟨t0,e0,g0⟩:=E6 args 0 .leaf k (by omega);refine⟨t0,e0,by simp;omega,h2,rfl,λi=>?_⟩;rw[g0 i,Array.getD_eq_getD_getElem?]
 by_cases hi:i<args.length
 ·rw[if_pos (by omega),Array.getElem?_append_left (by simpa using hi),Nat.sub_zero]
  simp
 ·rw[if_neg (by omega),Array.getElem?_append_right (by simpa using hi),Array.getElem?_replicate]
  split<;>rfl
theorem qM{P:Program}{fn:Func}{t:TV}{d:List Deferred}{a:Act}(h:Env fn.ntmps t d a){s:St}{r:Value×St}(hr:Ju P fn t d s=some r){e:Exit}(he:atEnd e=true):jP P fn e a s=some r:=by
 unfold Ju at hr;unfold jP;rw[he,h.df];dsimp only
 split at hr
 ·rename_i u s1 hm
  rw[hm];exact JB h hr
 ·cases hr
theorem mF{B:Base}(hB:ql B){run:nH}{run':Runner}(hr:rJ run run')(f:FuncId)(args:Array Value)(s:St)(v:Value)(s1:St)(h:eF B run f args.toList s=some (v,s1)):ij B.P run' f args s=some (v,s1):=by
 unfold eF at h;unfold ij
 split at h
 ·rename_i r hq
  rw[hq];exact h
 ·rename_i hq
  rw[hq];dsimp only
  split at h
  ·rename_i q hg
   rw[hg];exact h
  rename_i hg;rw[hg];dsimp only
  split at h
  case h_2=>cases h
  rename_i fn hf
  split at h
  ·rename_i body hb
   obtain⟨h1,h2⟩:=cR h;rw[Bool.and_eq_true]at h1;have hl1:args.toList.length<=fn.ntmps:=Nat.le_of_ble_eq_true h1.1;have hl2:fn.ntmps<=4094:=Nat.le_of_ble_eq_true h1.2;obtain⟨t0,e0,env⟩:=pH hl1 hl2 (λt=>vS B.P fn (run none fn.ntmps body t [] s));rw[e0]at h2;rw[hB.F _ _ hf];dsimp only;rw[hb];dsimp only;have env':Env fn.ntmps t0 [] { tmps:=args++Array.replicate (fn.ntmps-args.size) undef,defers:=[] }:=by
    have e:(⟨args.toList⟩:Array Value)=args:=rfl;rw[e,Array.length_toList]at env;exact env
   unfold vS at h2
   split at h2
   ·rename_i t d s2 hrun
    obtain⟨a1,q1,q2⟩:=hr _ _ _ _ _ _ _ _ _ _ _ env' hrun;rw[q1];exact qM q2 h2 rfl
   ·rename_i t d s2 hrun
    obtain⟨a1,q1,q2⟩:=hr _ _ _ _ _ _ _ _ _ _ _ env' hrun;rw[q1];exact qM q2 h2 rfl
   ·cases h2
  ·cases h
theorem Db{B:Base}{run:nH}{run':Runner}(hr:rJ run run')(l:Nat)(tmps:Array Value)(assign body:Code)(s:St)(v:Value)(s1:St)(h:Ae B run l tmps.toList assign body s=some (v,s1)):nB B.P run' l tmps assign body s=some (v,s1):=by
 unfold Ae at h;rw[kO]at h;obtain⟨h1,h2⟩:=cR h;have hl:tmps.toList.length<=4094:=Nat.le_of_ble_eq_true h1;obtain⟨t0,e0,env⟩:=pH (Nat.le_refl _) hl (λt=>Mt B run l tmps.toList.length body (run (some l) tmps.toList.length assign t [] s));rw[e0]at h2;have env':Env tmps.toList.length t0 [] { tmps:=tmps,defers:=[] }:=by
  have e:(⟨tmps.toList⟩:Array Value)++Array.replicate (tmps.toList.length-tmps.toList.length) undef=tmps:=by
   apply Array.ext';simp
  rw[e]at env;exact env
 unfold nB;unfold Mt at h2
 split at h2
 ·rename_i t d s2 hrun
  obtain⟨a1,q1,q2⟩:=hr _ _ _ _ _ _ _ _ _ _ _ env' hrun;rw[q1];simp only[oh,if_true]
  split at h2
  ·rename_i u s3 hb
   rw[hb];dsimp only;unfold Lm at h2
   split at h2
   ·rename_i e t3 d3 s4 Oo
    obtain⟨a3,q3,q4⟩:=hr _ _ _ _ _ _ _ _ _ _ _ q2 Oo;rw[q3];exact h2
   ·cases h2
  ·cases h2
 ·cases h2
theorem E9{B:Base}(hB:ql B){run:nH}{run':Runner}(hr:rJ run run'):oD (BE B run) (lP B.P run'):=by
 intro c s v s1 h;cases c with
 | fn f args=>exact mF hB hr f args s v s1 h
 | Es l tmps assign body=>exact Db hr l tmps assign body s v s1 h
theorem vV{B:Base}(hB:ql B){n:Nat}{t:TV}{d:List Deferred}{a:Act}(h:Env n t d a){g:Operand}{l:Nat}{f:FuncId}{args:List Value}(hr:pG B t g l=some (f,args)):gD B.P a g l=some (f,⟨args⟩):=by
 unfold pG at hr;rw[h.eval]at hr;unfold gD
 split at hr
 ·rename_i f0 first captured hg
  obtain⟨h1,h2⟩:=cR hr;rw[Bool.and_eq_true]at h1;cases h2;rw[if_pos h1.1,hg];dsimp only;rw[if_pos (E2 hB h1.2)]
  congr 2
  apply Array.ext';simp
 ·cases hr
theorem Dc{B:Base}(hB:ql B){run:nH}{run':Runner}(hr:rJ run run')(rd:Option Nat)(n:Nat)(g:Operand)(ps:Array Tmp)(assign body:Code)(t:TV)(d:List Deferred)(a:Act)(s:St)(ex:Exit)(t1:TV)(d1:List Deferred)(s1:St)(h:Env n t d a)
  (hx:Ah B run rd n g ps assign body t d s=some (ex,t1,d1,s1)):∃ a1,nD B.P run' rd g ps assign body a s=some (ex,a1,s1)/\Env n t1 d1 a1:=by
 unfold Ah at hx;rw[JC]at hx;have e:(⟨t.Mq n 0⟩:Array Value)=a.tmps:=Am h;rw[e]at hx;unfold nD
 split at hx
 ·rename_i l mark s2 h1
  rw[h1];dsimp only
  split at hx
  ·rename_i f args h2
   rw[vV hB h h2];dsimp only;unfold BF at hx
   split at hx
   ·rename_i v s3 h3
    rw[mF hB hr f ⟨args⟩ s2 v s3 h3];dsimp only
    split at hx
    ·rename_i j s4 h4
     rw[h4];obtain⟨h5,h6⟩:=cR hx;dsimp only;rw[if_pos h5];have env:Env n t (List.append mark d) { a with defers:=mark++a.defers }:=⟨h.sz,h.lim,by rw[h.df];rfl,h.get⟩;unfold Ln at h6;unfold ru
     split at h6
     ·cases h6
      exact⟨_,rfl,env⟩
     ·exact hr _ _ _ _ _ _ _ _ _ _ _ env h6
    ·cases hx
   ·cases hx
  ·cases hx
 ·cases hx
theorem vW{B:Base}(hB:ql B):∀ (m:Nat),rJ (tO B m) (ev B.P m):=by
 intro m
 induction m with
 | zero=>intro rd n c t d a s ex t1 d1 s1 h hx;cases hx
 | succ m ih =>
  intro rd n c t d a s ex t1 d1 s1 h hx;have hc:oD (BE B (tO B m)) (lP B.P (ev B.P m)):=E9 hB ih;have hx':ET B (tO B m) rd n c t d s=some (ex,t1,d1,s1):=hx;have seq:∀ (x y:Code),Jt (tO B m rd n x t d s) (λt1 d1 s1=>tO B m rd n y t1 d1 s1)=some (ex,t1,d1,s1)->
    ∃ a1,(match ev B.P m rd x a s with | some (.normal,a1,s1)=>ev B.P m rd y a1 s1 | r=>r)=some (ex,a1,s1)/\Env n t1 d1 a1:=by
   intro x y hs;unfold Jt at hs
   split at hs
   ·rename_i t2 d2 s2 he
    obtain⟨a2,q1,q2⟩:=ih _ _ _ _ _ _ _ _ _ _ _ h he;rw[q1];exact ih _ _ _ _ _ _ _ _ _ _ _ q2 hs
   ·rename_i e t2 d2 s2 hne he
    cases hs;obtain⟨a2,q1,q2⟩:=ih _ _ _ _ _ _ _ _ _ _ _ h he;rw[q1];refine⟨a2,?_,q2⟩;cases ex with
    | normal=>exact(hne rfl).elim
    | _=>rfl
   ·cases hs
  unfold ET at hx';unfold ev
  split at hx'
  ·cases hx';exact⟨a,rfl,h⟩
  ·cases hx';exact⟨a,rfl,h⟩
  ·cases hx';exact⟨a,rfl,h⟩
  ·cases hx';exact⟨a,rfl,h⟩
  ·cases hx';exact⟨a,rfl,h⟩
  ·exact seq _ _ hx'
  ·rename_i c x y
   obtain⟨h1,h2⟩:=cR hx';unfold Ll at h2
   split at h2
   ·rename_i b hb
    rw[h.eval]at hb;dsimp only;rw[h1,hb];dsimp only;cases b with
    | false=>exact ih _ _ _ _ _ _ _ _ _ _ _ h h2
    | true=>exact ih _ _ _ _ _ _ _ _ _ _ _ h h2
   ·cases h2
  ·rename_i id body
   unfold ER at hx'
   split at hx'
   ·rename_i i t2 d2 s2 he
    obtain⟨a2,q1,q2⟩:=ih _ _ _ _ _ _ _ _ _ _ _ h he;dsimp only;rw[q1];dsimp only;rw[jl]at hx'
    split at hx'
    ·rename_i hi
     cases hx';rw[if_pos (Nat.eq_of_beq_eq_true hi)];exact⟨a2,rfl,q2⟩
    ·rename_i hi
     cases hx';rw[if_neg (λe=>hi (by rw[e];exact Nat.beq_refl _))];exact⟨a2,rfl,q2⟩
   ·rename_i e t2 d2 s2 hne he
    cases hx';obtain⟨a2,q1,q2⟩:=ih _ _ _ _ _ _ _ _ _ _ _ h he;dsimp only;rw[q1];refine⟨a2,?_,q2⟩;cases ex with
    | exit i=>exact(hne i rfl).elim
    | _=>rfl
   ·cases hx'
  ·exact seq _ _ hx'
  ·rename_i body
   split at hx'
   ·unfold ES at hx'
    split at hx'
    ·rename_i l t2 d2 s2 he
     obtain⟨a2,q1,q2⟩:=ih _ _ _ _ _ _ _ _ _ _ _ h he;dsimp only;rw[q1];unfold vo
     split at hx'
     case h_2=>cases hx'
     rename_i rest hf;simp only[hf];unfold BD at hx'
     split at hx'
     ·cases hx'
     ·rename_i e t3 d3 s3 hne Oq
      cases hx';obtain⟨a3,q3,q4⟩:=ih _ _ _ _ _ _ _ _ _ _ _ q2 Oq;rw[q3];refine⟨a3,?_,q4⟩;cases ex with
      | goto i=>exact(hne i rfl).elim
      | _=>rfl
     ·cases hx'
    ·rename_i e t2 d2 s2 hne he
     cases hx';obtain⟨a2,q1,q2⟩:=ih _ _ _ _ _ _ _ _ _ _ _ h he;dsimp only;rw[q1];refine⟨a2,?_,q2⟩;cases ex with
     | goto i=>exact(hne i rfl).elim
     | _=>rfl
    ·cases hx'
   ·cases hx'
  ·rename_i g ps assign body
   exact Dc hB ih _ _ _ _ _ _ _ _ _ _ _ _ _ _ h hx'
  ·rename_i id ops draw
   dsimp only;cases draw with
   | false =>
    obtain⟨a1,q1,q2,q3⟩:=E4 hB hc ops _ _ _ _ _ _ h hx';dsimp only at q1 q2 q3;subst q3;have:fE B.P (lP B.P (ev B.P m)) ops false a s=some (a1,s1):=by
     simp only[fE,Bool.false_eq_true,if_false];exact q1
    rw[this];exact⟨a1,rfl,q2⟩
   | true =>
    obtain⟨a1,Qy,q1,q4,q2,q3⟩:=E5 hB hc ops _ _ _ _ _ _ _ h hx';dsimp only at q1 q2 q3;subst q3;have:fE B.P (lP B.P (ev B.P m)) ops true a s=some (a1,s1):=by
     simp only[fE,if_true];rw[q1];dsimp only;rw[if_pos q4]
    rw[this];exact⟨a1,rfl,q2⟩
  ·cases hx'
theorem Dd{P:Program}(hP:P.check=.ok ())(dA:dR P)(hm:P.follows .mixedOrders=true){n:Nat}{f:FuncId}{args args':Array Value}(h:dS P (λB=>isTrue (eF B (tO B n) f args.toList s0))=true)(ha:bZ (λ_=>none) args args')(w:World) :
  Calls P f args' w λe w1=>e=.returned (.bool true)/\Below w.heap.size w w1:=by
 obtain⟨B,hB,Ot,e⟩:=rG P (λB=>isTrue (eF B (tO B n) f args.toList s0));rw[e]at h;subst Ot;refine x7 hP dA hm (n:=n) (f:=f) (args:=args) ?_ ha w;unfold isTrue at h
 split at h
 ·rename_i b s1 hc
  have:=mF hB (vW hB n) f args s0 _ _ hc;show isTrue (ij B.P (ev B.P n) f args s0)=true;rw[this];exact h
 ·cases h
end Go.Ev
namespace Go.Proofs.YtkmccgombmogmaaGreat
open Go.Ev Go.Proofs.Tryz
open Go.RowKit
theorem dO:prog.follows .mixedOrders=true:=by kernel_rfl
theorem Mw:@Ev.bZ dD (λ_=>none) #[] #[]:=⟨rfl,λi v v' h=>by simp at h⟩
end Go.Proofs.YtkmccgombmogmaaGreat
namespace Go.Ev
open Go.RowKit
noncomputable def RU(a b:IntKind):Bool:=Nat.beq (Jn a) (Jn b)
def RV:Int->Int->Bool
 | .ofNat a,.ofNat b=>Nat.beq a b
 | .negSucc a,.negSucc b=>Nat.beq a b
 | _,_=>false
def Ou:BinOp->Nat
 | .add=>0 | .sub=>1 | .mul=>2 | .quo=>3 | .rem=>4 | .and=>5 | .or=>6 | .xor=>7 | .shl=>8 | .shr=>9 | .andNot=>10 | .eql=>11 | .neq=>12 | .lss=>13 | .leq=>14 | .gtr=>15 | .geq=>16
def Ov:UnOp->Nat
 | .neg=>0 | .xor=>1 | .not=>2 | .plus=>3
noncomputable def oE:Value->Value->Bool
 | .int k n,.int k' n'=>RU k k'&&RV n n'
 | .bool a,.bool b=>match a,b with | true,true=>true | false,false=>true | _,_=>false
 | .complex .f64 n 0,.complex .f64 n' 0=>Nat.beq n n'
 | .pointer none,.pointer none=>true
 | .slice none 0 0,.slice none 0 0=>true
 | .map none,.map none=>true
 | .nilFunc,.nilFunc=>true
 | .nilIface,.nilIface=>true
 | _,_=>false
noncomputable def BP:List Value->List Value->Bool
 | [],[]=>true
 | x::l,y::m=>oE x y&&BP l m
 | _,_=>false
noncomputable def BQ:Value->Value->Bool
 | .agg ⟨l⟩,.agg ⟨m⟩=>BP l m
 | x,y=>oE x y
noncomputable def BR:List Value->List Value->Bool
 | [],[]=>true
 | x::l,y::m=>BQ x y&&BR l m
 | _,_=>false
theorem j_{x y:Value}(h:oE x y=true):x=y/\eT x=true:=by
 unfold oE at h
 split at h
 ·rename_i k n k' n'
  rw[Bool.and_eq_true]at h;have hk:=@vU dD _ _ h.1;have hn:n=n':=by
   have h2:=h.2;unfold RV at h2
   split at h2
   ·rw[Nat.eq_of_beq_eq_true h2]
   ·rw[Nat.eq_of_beq_eq_true h2]
   ·cases h2
  rw[hk,hn];exact⟨rfl,rfl⟩
 ·rename_i a b
  cases a<;>cases b<;>first | exact⟨rfl,rfl⟩ | cases h
 ·rename_i n n'
  rw[Nat.eq_of_beq_eq_true h];exact⟨rfl,rfl⟩
 ·exact⟨rfl,rfl⟩
 ·exact⟨rfl,rfl⟩
 ·exact⟨rfl,rfl⟩
 ·exact⟨rfl,rfl⟩
 ·exact⟨rfl,rfl⟩
 ·cases h
theorem E_:∀ {l m:List Value},BP l m=true->l=m/\l.all eT=true:=by
 intro l
 induction l with
 | nil =>
  intro m h;cases m with
  | nil=>exact⟨rfl,rfl⟩
  | cons y m=>cases h
 | cons x l ih =>
  intro m h;cases m with
  | nil=>cases h
  | cons y m =>
   have h':(oE x y&&BP l m)=true:=h;rw[Bool.and_eq_true]at h';obtain⟨h1,h2⟩:=j_ h'.1;obtain⟨h3,h4⟩:=ih h'.2;rw[h1,h3];refine⟨rfl,?_⟩;rw[← h1,← h3];simp[h2,h4]
def Qz(val:Nat->Value):Value->Value
 | .agg cs=>.agg (cs.toList.map (nW val)).toArray
 | v=>nW val v
def JD:Value->Bool
 | .agg cs=>cs.toList.all eT
 | v=>eT v
theorem E'{x y:Value}(h:BQ x y=true):x=y/\JD x=true:=by
 unfold BQ at h
 split at h
 ·rename_i l m
  obtain⟨h1,h2⟩:=E_ h;subst h1;exact⟨rfl,h2⟩
 ·rename_i hne
  obtain⟨h1,h2⟩:=j_ h;refine⟨h1,?_⟩;cases x<;>first | exact h2 | cases h2
theorem Fd:∀ {l m:List Value},BR l m=true->l=m/\∀ x ∈ l,JD x=true:=by
 intro l
 induction l with
 | nil =>
  intro m h;cases m with
  | nil=>exact⟨rfl,λx hx=>by cases hx⟩
  | cons y m=>cases h
 | cons x l ih =>
  intro m h;cases m with
  | nil=>cases h
  | cons y m =>
   have h':(BQ x y&&BR l m)=true:=h;rw[Bool.and_eq_true]at h';obtain⟨h1,h2⟩:=E' h'.1;obtain⟨h3,h4⟩:=ih h'.2;subst h1 h3;refine⟨rfl,λz hz=>?_⟩;rcases List.mem_cons.1 hz with e | e
   ·rw[e];exact h2
   ·exact h4 z e
abbrev jC:=BinOp×Value×Value×Value
abbrev jD:=UnOp×Value×Value
abbrev jE:=IntKind×Value×Value
abbrev lD:=FuncId×List Value×Value
noncomputable def BS(op:BinOp)(x y:Value):List jC->Option Value
 | []=>none
 | (o,a,b,r)::l=>if Nat.beq (Ou op) (Ou o)&&(oE x a&&(oE y b&&eT r)) then some r else BS op x y l
noncomputable def BT(op:UnOp)(x:Value):List jD->Option Value
 | []=>none
 | (o,a,r)::l=>if Nat.beq (Ov op) (Ov o)&&(oE x a&&eT r) then some r else BT op x l
noncomputable def BU(k:IntKind)(x:Value):List jE->Option Value
 | []=>none
 | (o,a,r)::l=>if RU k o&&(oE x a&&eT r) then some r else BU k x l
noncomputable def BV(f:FuncId)(l:List Value):List lD->Option Value
 | []=>none
 | (g,m,r)::ks=>if Nat.beq f g&&(BR l m&&eT r) then some r else BV f l ks
theorem Mx{a b:BinOp}(h:Nat.beq (Ou a) (Ou b)=true):a=b:=by
 cases a<;>cases b<;>first | rfl | (simp[Ou]at h)
theorem My{a b:UnOp}(h:Nat.beq (Ov a) (Ov b)=true):a=b:=by
 cases a<;>cases b<;>first | rfl | (simp[Ov]at h)
theorem Fe{op:BinOp}{x y r:Value} : ∀ {l:List jC},BS op x y l=some r->(op,x,y,r) ∈ l/\eT x=true/\eT y=true/\eT r=true:=by
 intro l
 induction l with
 | nil=>intro h;cases h
 | cons q l ih =>
  intro h;obtain⟨o,a,b,z⟩:=q;simp only[BS]at h
  split at h
  ·rename_i hc
   simp only[Bool.and_eq_true]at hc;cases h;obtain⟨h1,h2⟩:=j_ hc.2.1;obtain⟨h3,h4⟩:=j_ hc.2.2.1;rw[Mx hc.1,← h1,← h3];exact⟨List.mem_cons_self ..,h2,h4,hc.2.2.2⟩
  ·obtain⟨h1,h2⟩:=ih h
   exact⟨List.mem_cons_of_mem _ h1,h2⟩
theorem Ff{op:UnOp}{x r:Value} : ∀ {l:List jD},BT op x l=some r->(op,x,r) ∈ l/\eT x=true/\eT r=true:=by
 intro l
 induction l with
 | nil=>intro h;cases h
 | cons q l ih =>
  intro h;obtain⟨o,a,z⟩:=q;simp only[BT]at h
  split at h
  ·rename_i hc
   simp only[Bool.and_eq_true]at hc;cases h;obtain⟨h1,h2⟩:=j_ hc.2.1;rw[My hc.1,← h1];exact⟨List.mem_cons_self ..,h2,hc.2.2⟩
  ·obtain⟨h1,h2⟩:=ih h
   exact⟨List.mem_cons_of_mem _ h1,h2⟩
theorem Fh{k:IntKind}{x r:Value} : ∀ {l:List jE},BU k x l=some r->(k,x,r) ∈ l/\eT x=true/\eT r=true:=by
 intro l
 induction l with
 | nil=>intro h;cases h
 | cons q l ih =>
  intro h;obtain⟨o,a,z⟩:=q;simp only[BU]at h
  split at h
  ·rename_i hc
   simp only[Bool.and_eq_true]at hc;cases h;obtain⟨h1,h2⟩:=j_ hc.2.1;rw[@vU dD _ _ hc.1,← h1];exact⟨List.mem_cons_self ..,h2,hc.2.2⟩
  ·obtain⟨h1,h2⟩:=ih h
   exact⟨List.mem_cons_of_mem _ h1,h2⟩
theorem yj{f:FuncId}{args:List Value}{r:Value} : ∀ {l:List lD},BV f args l=some r->(f,args,r) ∈ l/\(∀ x ∈ args,JD x=true)/\eT r=true:=by
 intro l
 induction l with
 | nil=>intro h;cases h
 | cons q l ih =>
  intro h;obtain⟨o,a,z⟩:=q;simp only[BV]at h
  split at h
  ·rename_i hc
   simp only[Bool.and_eq_true]at hc;cases h;obtain⟨h1,h2⟩:=Fd hc.2.1;rw[Nat.eq_of_beq_eq_true hc.1,← h1];exact⟨List.mem_cons_self ..,h2,hc.2.2⟩
  ·obtain⟨h1,h2⟩:=ih h
   exact⟨List.mem_cons_of_mem _ h1,h2⟩
def lY(val:Nat->Value)(q:jC):Prop:=∀ t ox oy,(do eqGuard q.1 t ox oy (nW val q.2.1) (nW val q.2.2.1);binOp q.1 t (nW val q.2.1) (nW val q.2.2.1):Sem Value)=pure (nW val q.2.2.2)
def lZ(val:Nat->Value)(q:jD):Prop:=Op.unary q.1 (nW val q.2.1)=pure (nW val q.2.2)
def lE(val:Nat->Value)(q:jE):Prop:=∃ k0 n,nW val q.2.1=.int k0 n/\nW val q.2.2=.int q.1 (q.1.wrap n)
def Ow(P:Program)(val:Nat->Value)(q:lD):Prop:=∀ w,Calls P q.1 (q.2.1.map (Qz val)).toArray w λe w'=>e=.returned (nW val q.2.2)/\Below w.heap.size w w'
theorem JE[bB]{ι:am}{x x':Value}(h:aq ι x x')(hs:JD x=true):x'=Qz bB.val x:=by
 cases h with
 | agg f f' hf hr =>
  have hs':∀ y ∈ f.toList,eT y=true:=by
   have:f.toList.all eT=true:=hs
   rwa [List.all_eq_true]at this
  show Value.agg f'=.agg (f.toList.map (nW bB.val)).toArray
  congr 1
  apply Array.ext (by simp[hf]);intro i h1 h2;have h3:i<f.size:=by rw[hf];exact h1
  have:=rj (hr i _ _ (Array.getElem?_eq_getElem h3) (Array.getElem?_eq_getElem h1)) (hs' _ (by rw[Array.mem_toList_iff];exact Array.getElem_mem h3));rw[this];simp
 | sym n m _ hh=>exact hh.symm
 | _=>first | rfl | cases hs
theorem gE(op:BinOp)(t:TypeId)(ox oy:Operand)(k k':IntKind)(x y:Int):eqGuard op t ox oy (.int k x) (.int k' y)=pure ():=by
 unfold eqGuard
 split<;>rfl
theorem pI{op:BinOp}{t:TypeId}{ox oy:Operand}{k:IntKind}{x y:Int}{b:Bool}(h:Op.intCmp op x y=pure (.bool b))(ho:op=.eql\/op=.neq\/op=.lss\/op=.leq\/op=.gtr\/op=.geq):(do eqGuard op t ox oy (.int k x) (.int k y);binOp op t (.int k x) (.int k y):Sem Value)=pure (.bool b):=by
  rw[gE];show binOp op t (.int k x) (.int k y)=_;rcases ho with rfl | rfl | rfl | rfl | rfl | rfl<;>simp[binOp,h]
theorem ft{t:TypeId}{ox oy:Operand}{k:IntKind}{x y:Int}{b:Bool}(h:decide (x≥y)=b):(do eqGuard .geq t ox oy (.int k x) (.int k y);binOp .geq t (.int k x) (.int k y):Sem Value)=pure (.bool b):=pI (by unfold Op.intCmp;rw[h]) (by simp)
theorem Mz{t:TypeId}{ox oy:Operand}{k:IntKind}{x y:Int}{b:Bool}(h:decide (x<=y)=b):(do eqGuard .leq t ox oy (.int k x) (.int k y);binOp .leq t (.int k x) (.int k y):Sem Value)=pure (.bool b):=pI (by unfold Op.intCmp;rw[h]) (by simp)
theorem a_{t:TypeId}{ox oy:Operand}{k:IntKind}{x y:Int}{b:Bool}(h:decide (x<y)=b):(do eqGuard .lss t ox oy (.int k x) (.int k y);binOp .lss t (.int k x) (.int k y):Sem Value)=pure (.bool b):=pI (by unfold Op.intCmp;rw[h]) (by simp)
theorem ip{t:TypeId}{ox oy:Operand}{k:IntKind}{x y:Int}{b:Bool}(h:decide (x>y)=b):(do eqGuard .gtr t ox oy (.int k x) (.int k y);binOp .gtr t (.int k x) (.int k y):Sem Value)=pure (.bool b):=pI (by unfold Op.intCmp;rw[h]) (by simp)
theorem cZ{t:TypeId}{ox oy:Operand}{k:IntKind}{x y:Int}{b:Bool}(h:decide (x=y)=b):(do eqGuard .eql t ox oy (.int k x) (.int k y);binOp .eql t (.int k x) (.int k y):Sem Value)=pure (.bool b):=pI (by unfold Op.intCmp;rw[← h];rfl) (by simp)
theorem l3{t:TypeId}{ox oy:Operand}{k:IntKind}{x y:Int}{b:Bool}(h:decide (x≠y)=b):(do eqGuard .neq t ox oy (.int k x) (.int k y);binOp .neq t (.int k x) (.int k y):Sem Value)=pure (.bool b):=pI (by unfold Op.intCmp;rw[← h];simp[bne];rfl) (by simp)
theorem aQ{t:TypeId}{ox oy:Operand}{k:IntKind}{x y z:Int}(h:k.wrap (x+y)=z):(do eqGuard .add t ox oy (.int k x) (.int k y);binOp .add t (.int k x) (.int k y):Sem Value)=pure (.int k z):=by
  rw[gE];show binOp .add t (.int k x) (.int k y)=_;simp[binOp,Op.intArith,h]
theorem rK{t:TypeId}{ox oy:Operand}{k:IntKind}{x y z:Int}(h:k.wrap (x-y)=z):(do eqGuard .sub t ox oy (.int k x) (.int k y);binOp .sub t (.int k x) (.int k y):Sem Value)=pure (.int k z):=by
  rw[gE];show binOp .sub t (.int k x) (.int k y)=_;simp[binOp,Op.intArith,h]
theorem Fi{t:TypeId}{ox oy:Operand}{k:IntKind}{x y z:Int}(h:k.wrap (x*y)=z):(do eqGuard .mul t ox oy (.int k x) (.int k y);binOp .mul t (.int k x) (.int k y):Sem Value)=pure (.int k z):=by
  rw[gE];show binOp .mul t (.int k x) (.int k y)=_;simp[binOp,Op.intArith,h]
theorem nI{t:TypeId}{ox oy:Operand}{k:IntKind}{x y z:Int}(hy:y≠0)(h:k.wrap (x.tdiv y)=z):(do eqGuard .quo t ox oy (.int k x) (.int k y);binOp .quo t (.int k x) (.int k y):Sem Value)=pure (.int k z):=by
  rw[gE];show binOp .quo t (.int k x) (.int k y)=_;simp[binOp,Op.intDiv,h,hy]
theorem MA{t:TypeId}{ox oy:Operand}{k:IntKind}{x y z:Int}(hy:y≠0)(h:x.tmod y=z):(do eqGuard .rem t ox oy (.int k x) (.int k y);binOp .rem t (.int k x) (.int k y):Sem Value)=pure (.int k z):=by
  rw[gE];show binOp .rem t (.int k x) (.int k y)=_;simp[binOp,Op.intDiv,h,hy]
abbrev sy(n:Nat):Value:=.complex .f64 n 0
theorem cF{val:Nat->Value}{k k0:IntKind}{x r:Value}{n m:Int}(hx:nW val x=.int k0 n)(hr:nW val r=.int k m)(h:k.wrap n=m):lE val (k,x,r):=⟨k0,n,hx,by rw[h];exact hr⟩
noncomputable def PW:Option Addr->Option Addr->Bool
 | none,none=>true
 | some ⟨b,o,none⟩,some ⟨b',o',none⟩=>Nat.beq b b'&&Nat.beq o o'
 | _,_=>false
noncomputable def QA:Option Nat->Option Nat->Bool
 | none,none=>true
 | some b,some b'=>Nat.beq b b'
 | _,_=>false
noncomputable def RW:FloatKind->FloatKind->Bool
 | .f32,.f32=>true
 | .f64,.f64=>true
 | _,_=>false
noncomputable def qB(f:Value->Value->Bool):List Value->List Value->Bool
 | [],[]=>true
 | x::l,y::m=>f x y&&qB f l m
 | _,_=>false
noncomputable def An:Nat->Value->Value->Bool
 | 0,_,_=>false
 | n+1,x,y =>
  match x,y with
  | .bool a,.bool b=>(match a,b with | true,true=>true | false,false=>true | _,_=>false)
  | .int k a,.int k' b=>Nat.beq (Jn k) (Jn k')&&EM a b
  | .complex k a b,.complex k' a' b'=>RW k k'&&(Nat.beq a a'&&Nat.beq b b')
  | .pointer a,.pointer b=>PW a b
  | .slice a n c,.slice a' n' c'=>PW a a'&&(Nat.beq n n'&&Nat.beq c c')
  | .map a,.map b=>QA a b
  | .nilFunc,.nilFunc=>true
  | .nilIface,.nilIface=>true
  | .iface t a,.iface t' a'=>Nat.beq t t'&&An n a a'
  | .agg a,.agg b=>qB (An n) a.toList b.toList
  | .tuple a,.tuple b=>qB (An n) a.toList b.toList
  | _,_=>false
theorem Fj{a b:Option Addr}(h:PW a b=true):a=b:=by
 unfold PW at h
 split at h
 ·rfl
 ·rw[Bool.and_eq_true]at h
  rw[Nat.eq_of_beq_eq_true h.1,Nat.eq_of_beq_eq_true h.2]
 ·cases h
theorem MB{a b:Option Nat}(h:QA a b=true):a=b:=by
 unfold QA at h
 split at h
 ·rfl
 ·rw[Nat.eq_of_beq_eq_true h]
 ·cases h
theorem MC{a b:FloatKind}(h:RW a b=true):a=b:=by cases a<;>cases b<;>first | rfl | cases h
theorem kR{f:Value->Value->Bool}(hf:∀ x y,f x y=true->x=y):∀ {l m:List Value},qB f l m=true->l=m:=by
 intro l
 induction l with
 | nil=>intro m h;cases m with | nil=>rfl | cons y m=>cases h
 | cons x l ih =>
  intro m h;cases m with
  | nil=>cases h
  | cons y m =>
   have h':(f x y&&qB f l m)=true:=h;rw[Bool.and_eq_true]at h';rw[hf x y h'.1,ih h'.2]
theorem nJ:∀ (n:Nat) (x y:Value),An n x y=true->x=y:=by
 intro n
 induction n with
 | zero=>intro x y h;cases h
 | succ n ih =>
  intro x y h;unfold An at h
  split at h
  ·split at h<;>first | rfl | cases h
  ·rw[Bool.and_eq_true]at h
   rw[@vU dD _ _ h.1,show _=_ from of_decide_eq_true ((@vT dD _ _).symm.trans h.2)]
  ·simp only[Bool.and_eq_true]at h
   rw[MC h.1,Nat.eq_of_beq_eq_true h.2.1,Nat.eq_of_beq_eq_true h.2.2]
  ·rw[Fj h]
  ·simp only[Bool.and_eq_true]at h
   rw[Fj h.1,Nat.eq_of_beq_eq_true h.2.1,Nat.eq_of_beq_eq_true h.2.2]
  ·rw[MB h]
  ·rfl
  ·rfl
  ·rw[Bool.and_eq_true]at h
   rw[Nat.eq_of_beq_eq_true h.1,ih _ _ h.2]
  ·congr 1;exact Array.ext' (kR ih h)
  ·congr 1;exact Array.ext' (kR ih h)
  ·cases h
variable[bB]
def QB:List (Nat×Obj)->Tr
 | []=>.leaf
 | (id,o)::l=>(QB l).set deep id (some o)
def fB(l:List (Nat×Obj))(n:Nat):St:=⟨QB l,n,[]⟩
def bL(l:List (Nat×Nat)):am:=λid=>(l.find? λp=>p.1==id).map (·.2)
theorem kb(n:Nat):∀ (l:List (Nat×Obj)) (id:Nat),(∀ p ∈ l,p.1<lim)->(fB l n).look id=(l.find? λp=>p.1==id).map (·.2):=by
 intro l
 induction l with
 | nil=>intro id _;exact Tr.lL _ _
 | cons p l ih =>
  intro id h;obtain⟨j,o⟩:=p;have hl:j<lim:=h (j,o) (List.mem_cons_self ..);show((QB l).set deep j (some o)).get deep id=_;rw[List.find?_cons]
  by_cases e:j=id
  ·subst e
   simp only[beq_self_eq_true];exact Tr.get_set_same 29 _ _ _ hl
  ·rw[show((j,o).1==id)=false by simpa using e]
   rw[Tr.get_set_other _ _ _ _ _ (λe'=>e e'.symm)];exact ih id (λp hp=>h p (List.mem_cons_of_mem _ hp))
theorem gF{l:List (Nat×Nat)}{id b:Nat}(h:bL l id=some b):(id,b) ∈ l:=by
 unfold bL at h;cases hf:l.find? (λp=>p.1==id) with
 | none=>rw[hf]at h;cases h
 | some p =>
  rw[hf]at h;cases h;have h1:=List.find?_some hf;have h2:=List.mem_of_find?_eq_some hf;obtain⟨x,y⟩:=p;simp only[beq_iff_eq]at h1;subst h1;exact h2
theorem l5{l:List (Nat×Obj)}{id:Nat}{o:Obj}(h:(l.find? λp=>p.1==id).map (·.2)=some o):(id,o) ∈ l:=by
 cases hf:l.find? (λp=>p.1==id) with
 | none=>rw[hf]at h;cases h
 | some p =>
  rw[hf]at h;cases h;have h1:=List.find?_some hf;have h2:=List.mem_of_find?_eq_some hf;obtain⟨x,y⟩:=p;simp only[beq_iff_eq]at h1;subst h1;exact h2
def Rest(l:List (Nat×Nat))(F:Nat->Prop)(w:World)(j:Nat):Prop:=j<w.heap.size/\¬ F j/\∀ p ∈ l,p.2≠j
theorem rL{P:Program}{w:World}{objs:List (Nat×Obj)}{l:List (Nat×Nat)}{n:Nat}{F:Nat->Prop}(hlim:∀ p ∈ objs,p.1<lim)
  (QC:∀ p ∈ objs,qy p.2=none->∃ b o',bL l p.1=some b/\w.heap[b]? = some o'/\ic P (bL l) p.1 p.2 o') (hinj:∀ p ∈ l,∀ q ∈ l,p.2=q.2->p.1=q.1)
  (hF:∀ j,F j->j<w.heap.size) (MD:∀ p ∈ l,¬ F p.2)
  (hg:∀ p ∈ objs,∀ g,qy p.2=some g->p.1=3/\bL l 3=none/\bB.GR g (bL l) F w):dL P (Rest l F w) (bL l) (fB objs n).look w:=by
 refine⟨λid id' o o' b _ _ h1 h2=>?_,λid o ho hrl=>?_,λk hk=>hk.1,λid o g ho hgn=>?_⟩
 ·exact hinj _ (gF h1) _ (gF h2) rfl
 ·rw[kb n objs id hlim]at ho
  obtain⟨b,o',h1,h2,h3⟩:=QC _ (l5 ho) hrl;exact⟨b,o',h1,h2,h3,λhk=>hk.2.2 _ (gF h1) rfl⟩
 ·rw[kb n objs id hlim]at ho
  obtain⟨h1,h2,h3⟩:=hg _ (l5 ho) g hgn;exact⟨h1,h2,F,h3,λj hj=>⟨hF j hj,λhk=>hk.2.1 hj⟩,λx ox b _ h5=>MD _ (gF h5)⟩
theorem pJ{P:Program}(hP:P.check=.ok ())(dA:dR P)(hm:P.follows .mixedOrders=true){n m:Nat}{f:FuncId}{args args':Array Value}{objs:List (Nat×Obj)}{l:List (Nat×Nat)}{F:Nat->Prop}{c:Option (Value×St)->Bool}
  (h:dS P (λB=>c (eF B (tO B n) f args.toList (fB objs m)))=true) (hc:c none=false) {w:World} (hlim:∀ p ∈ objs,p.1<lim) (hnew:∀ p ∈ objs,p.1<4*m) (QD:∀ p ∈ l,p.1<4*m)
  (hr:dL P (Rest l F w) (bL l) (fB objs m).look w) (ha:bZ (bL l) args args') :
  Calls P f args' w λe w1=>∃ κ v v' s1,c (some (v,s1))=true/\e=.returned v'/\Goes P (Rest l F w) (bL l) κ (fB objs m) s1 w w1/\aq κ v v':=by
 obtain⟨B,hB,Ot,e⟩:=rG P (λB=>c (eF B (tO B n) f args.toList (fB objs m)));rw[e]at h;subst Ot;cases hx:eF B (tO B n) f args.toList (fB objs m) with
 | none=>rw[hx,hc]at h;cases h
 | some x =>
  obtain⟨v,s1⟩:=x;rw[hx]at h;have h1:=mF hB (vW hB n) f args _ _ _ hx;refine((Bz hP dA hm n).1 f args _ v s1 h1 (λid x y=>?_) (bL l) args' w hr ha (λid x y=>?_)).mono ?_
  ·rw[kb m objs id hlim]
   cases hf:(objs.find? λp=>p.1==id).map (·.2) with
   | none=>rfl
   | some o =>
    have:=hnew _ (l5 hf);have x':4*m<=id:=x;simp only at this;omega
  ·cases hf:bL l id with
   | none=>rfl
   | some b =>
    have:=QD _ (gF hf);have x':4*m<=id:=x;simp only at this;omega
  ·rintro e w1 ⟨κ,v',rfl,g,hv⟩
   exact⟨κ,v,v',s1,h,rfl,g,hv⟩
def ME:Value->Bool
 | .pointer (some ⟨_,_,none⟩)=>true
 | .pointer none | .slice none 0 0 | .map none | .nilFunc | .nilIface=>true
 | .complex .f32 _ 0=>true
 | .complex .f32 _ (_+2)=>true
 | v=>eT v
def tw(κ:am):Value->Value
 | .pointer (some ⟨id,off,none⟩)=>.pointer (some ⟨(κ id).getD 0,off,none⟩)
 | .complex .f32 id 0=>dec ((κ id).getD 0)
 | .complex .f32 id (j+2)=>Eh j (dec ((κ id).getD 0))
 | v=>nW bB.val v
theorem oF{κ:am}{v v':Value}(h:aq κ v v')(hk:ME v=true):v'=tw κ v:=by
 cases h with
 | ptr id off b h=>simp[tw,h]
 | pu=>rfl
 | dF=>rfl
 | nt=>rfl
 | nilFunc=>rfl
 | nilIface=>rfl
 | sym n m _ h=>exact h.symm
 | dyn id c _ h h'=>simp[tw,h,h']
 | qW id c j _ h h'=>simp[tw,h,h']
 | bool=>rfl
 | int=>rfl
 | float=>rfl
 | string=>rfl
 | _=>first | cases hk | (simp[ME,eT]at hk)
theorem kS{P:Program}{base:Nat->Prop}{ι κ:am}{s s1:St}{w w1:World}(g:Goes P base ι κ s s1 w w1){id:Nat}{c:Array Value}{e:TypeId}(h:s1.look id=some (.cells c e (0,0)))(hg:iV id=false) :
  ∃ b c',κ id=some b/\w1.heap[b]? = some (.cells c' e (0,0))/\¬ base b/\bZ κ c c':=by
 obtain⟨b,o',h1,h2,h3,h4⟩:=g.rep.there id _ h rfl;obtain⟨_,c',rfl,k1,k2,k3,_⟩:=h3;exact⟨b,c',h1,h2,h4,k2 hg,k3⟩
theorem rM{κ:am}{c c':Array Value}(h:bZ κ c c')(hk:c.toList.all ME=true):c'=(c.toList.map (tw κ)).toArray:=by
 rw[List.all_eq_true]at hk;apply Array.ext (by simp[h.1]);intro i h1 h2;have h3:i<c.size:=by rw[h.1];exact h1
 rw[oF (h.2 i _ _ (Array.getElem?_eq_getElem h3) (Array.getElem?_eq_getElem h1)) (hk _ (by rw[Array.mem_toList_iff];exact Array.getElem_mem h3))];simp
theorem rN{P:Program}{base:Nat->Prop}{ι κ:am}{s s1:St}{w w1:World}(g:Goes P base ι κ s s1 w w1){k:Nat}(h:s1.look 3=some (iG k)) :
  ∃ F:Nat->Prop,bB.GR k κ F w1/\(∀ j,F j->j<w1.heap.size/\¬ base j)/\∀ x ox b,s1.look x=some ox->κ x=some b->¬ F b:=by
 obtain⟨_,_,F,h1,h2,h3⟩:=g.rep.gh 3 _ k h rfl;exact⟨F,h1,h2,h3⟩
abbrev iA:=Nat×List Value×TypeId
noncomputable def Fk(s:St)(q:iA):Bool :=
 match Tr.gt deep s.heap q.1 with
 | some (.cells c e (0,0))=>qB (An 4) c.toList q.2.1&&Nat.beq e q.2.2
 | _=>false
noncomputable def MF(s:St):Option Nat->Bool
 | none=>true
 | some g=>(match Tr.gt deep s.heap 3 with | some (.view ⟨b,0,none⟩ 0)=>Nat.beq b g | _=>false)
noncomputable def jm(r:Value)(bl:List iA)(g:Option Nat):Option (Value×St)->Bool
 | some (v,s)=>An 4 v r&&(bl.all (Fk s)&&MF s g)
 | none=>false
theorem rO{r:Value}{bl:List iA}{g:Option Nat}{v:Value}{s:St}(h:jm r bl g (some (v,s))=true) :
  v=r/\(∀ q ∈ bl,s.look q.1=some (.cells q.2.1.toArray q.2.2 (0,0)))/\∀ k,g=some k->s.look 3=some (iG k):=by
 unfold jm at h;simp only[Bool.and_eq_true]at h;obtain⟨h1,h2,h3⟩:=h;rw[List.all_eq_true]at h2;refine⟨nJ _ _ _ h1,λq hq=>?_,λk hk=>?_⟩
 ·have:=h2 q hq
  unfold Fk at this
  split at this
  ·rename_i c e hl
   rw[Bool.and_eq_true]at this;rw[Tr.EU]at hl;show s.heap.get deep q.1=_;rw[hl,← kR (nJ 4) this.1,Nat.eq_of_beq_eq_true this.2]
  ·cases this
 ·subst hk
  simp only[MF]at h3
  split at h3
  ·rename_i b hl
   rw[Tr.EU]at hl;show s.heap.get deep 3=_;rw[hl,Nat.eq_of_beq_eq_true h3];rfl
  ·cases h3
theorem gX{P:Program}(hP:P.check=.ok ())(dA:dR P)(hm:P.follows .mixedOrders=true){n m:Nat}{f:FuncId}{args args':Array Value}{cs c1:List Value}{T:TypeId}{g g':Nat}{r:Value}{bm:Nat}{F:Nat->Prop}{w:World}
  (h:dS P (λB=>jm r [(4,c1,T)] (some g') (eF B (tO B n) f args.toList (fB [(4,.cells cs.toArray T (0,0)),(3,iG g)] m)))=true) (h4:2<=m) {cs':List Value} (hb:w.heap[bm]? = some (.cells cs'.toArray T (0,0)))
  (hcs:dW (bL [(4,bm)]) cs cs') (hg:bB.GR g (bL [(4,bm)]) F w) (hF:∀ j,F j->j<w.heap.size) (Ox:¬ F bm) (ha:bZ (bL [(4,bm)]) args args') (hk:c1.all ME=true) :
  Calls P f args' w λe w1=>∃ κ v',e=.returned v'/\aq κ r v'/\κ 4=some bm/\w1.heap[bm]? = some (.cells (c1.map (tw κ)).toArray T (0,0))/\(∃ F':Nat->Prop,bB.GR g' κ F' w1/\¬ F' bm/\(∀ j,F' j->j<w1.heap.size/\(F j\/w.heap.size<=j)))/\Turn (λj=>j=bm\/F j) w w1:=by
 have hbl:bm<w.heap.size:=(Array.getElem?_eq_some_iff.1 hb).1;have r4:bL [(4,bm)] 4=some bm:=rfl;have hr:dL P (Rest [(4,bm)] F w) (bL [(4,bm)]) (fB [(4,.cells cs.toArray T (0,0)),(3,iG g)] m).look w:=by
  refine rL ?_ ?_ ?_ hF ?_ ?_
  ·intro p hp
   simp only[List.mem_cons,List.not_mem_nil,or_false]at hp;rcases hp with rfl | rfl<;>(show _<lim;unfold lim;omega)
  ·intro p hp hgn
   simp only[List.mem_cons,List.not_mem_nil,or_false]at hp;rcases hp with rfl | rfl
   ·refine⟨bm,_,r4,hb,rfl,cs'.toArray,rfl,by simp[hcs.1],(λ_=>by simp[hcs.1]),λi v v' h1 h2=>hcs.2 i v v' (by simpa using h1) (by simpa using h2),λh=>absurd h (by show ¬ iV 4=true;decide)⟩
   ·cases hgn
  ·intro p hp q hq _
   simp only[List.mem_cons,List.not_mem_nil,or_false]at hp hq;rw[hp,hq]
  ·intro p hp
   simp only[List.mem_cons,List.not_mem_nil,or_false]at hp;rw[hp];exact Ox
  ·intro p hp k hk
   simp only[List.mem_cons,List.not_mem_nil,or_false]at hp;rcases hp with rfl | rfl
   ·cases hk
   ·cases hk
    exact⟨rfl,rfl,hg⟩
 refine(pJ hP dA hm h rfl ?_ ?_ ?_ hr ha).mono ?_
 ·intro p hp
  simp only[List.mem_cons,List.not_mem_nil,or_false]at hp;rcases hp with rfl | rfl<;>(show _<lim;unfold lim;omega)
 ·intro p hp
  simp only[List.mem_cons,List.not_mem_nil,or_false]at hp;rcases hp with rfl | rfl<;>(show _<4*m;omega)
 ·intro p hp
  simp only[List.mem_cons,List.not_mem_nil,or_false]at hp;rw[hp];show 4<4*m;omega
 ·rintro e w1 ⟨κ,v,v',s1,ho,rfl,gg,hv⟩
  obtain⟨rfl,o1,o2⟩:=rO ho;have l4:=o1 _ (List.mem_singleton.2 rfl);obtain⟨b,c',k1,k2,k3,k4⟩:=kS gg l4 (by show iV 4=false;decide);have e4:κ 4=some bm:=by
   rw[gg.ext 4 (.inl (by show 4<4*m;omega))];rfl
  rw[e4]at k1;cases k1;obtain⟨F',q1,q2,q3⟩:=rN gg (o2 g' rfl);refine⟨κ,v',rfl,hv,e4,?_,⟨F',q1,q3 4 _ bm l4 e4,λj hj=>⟨(q2 j hj).1,?_⟩⟩,⟨gg.below.os,gg.below.tape,gg.below.output,gg.below.size,λk hk hn=>?_⟩⟩
  ·rw[k2,rM k4 (by simpa using hk)]
  ·by_cases RX:F j
   ·exact .inl RX
   ·refine .inr ?_
    rcases Nat.lt_or_ge j w.heap.size with hlt | hge
    ·exfalso
     have hjb:j≠bm:=λe=>q3 4 _ bm l4 e4 (e▸hj)
     exact(q2 j hj).2 ⟨hlt,RX,λp hp=>by
      simp only[List.mem_cons,List.not_mem_nil,or_false]at hp;rw[hp]
      exact λe=>hjb e.symm⟩
    ·exact hge
  ·refine gg.below.block k ⟨hk,λh=>hn (.inr h),λp hp e=>?_⟩
   simp only[List.mem_cons,List.not_mem_nil,or_false]at hp;rw[hp]at e;exact hn (.inl e.symm)
end Go.Ev
