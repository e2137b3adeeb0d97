/- Part of a proof: see the last text. -/
import Derived.Test.YtankbefdlbcdnaaZd9
set_option linter.unusedSectionVars false
set_option linter.unusedSimpArgs false
set_option linter.unusedVariables false
namespace Go.Ev
open Go.RowKit
variable[aL]
structure Env(n:Nat)(t:TV)(d:List Deferred)(a:Act):Prop where
 sz:a.tmps.size=n
 lim:n<=4094
 df:a.defers=d
 get:∀ i,t.get i=a.tmps.getD i undef
theorem Env.eval{n:Nat}{t:TV}{df:List Deferred}{a:Act}(h:Env n t df a):cA t=a.eval:=by
 funext x
 cases x with
 | tmp i=>exact h.get i
 | _=>rfl
theorem i6{β:Type}{n:Nat}{t:TV}{df:List Deferred}{a:Act}(h:Env n t df a)(d:Option Tmp)(v:Value)(k:TV->β):∃ t1,qu n t d v k=k t1/\Env n t1 df (a.put d v):=by
 cases d with
 | none=>exact⟨t,rfl,h⟩
 | some d =>
  show ∃ t1,@Bool.rec (λ_=>β) (k t) (BH v (λv=>TV.jC 12 t d v k)) (Nat.blt d n)=k t1/\_;rw[gw]
  by_cases hd:@LT.lt Nat instLTNat d n
  ·have hb:Nat.blt d n=true:=Nat.ble_eq_true_of_le hd
   have hl:=h.lim;rw[if_pos hb,yM,TV.yK];refine⟨_,rfl,by simp[Act.put,h.sz],h.lim,h.df,λi=>?_⟩;rw[TV.gR _ _ _ _ _ (by omega)];simp only[Act.put,Array.getD_eq_getD_getElem?];rw[Array.getElem?_setIfInBounds]
   by_cases e:d=i
   ·subst e
    rw[if_pos rfl,if_pos rfl,if_pos (by rw[h.sz];exact hd)];rfl
   ·rw[if_neg (λe'=>e e'.symm),if_neg e,h.get i,Array.getD_eq_getD_getElem?]
  ·have hb:¬ Nat.blt d n=true:=λhh=>hd (Nat.le_of_ble_eq_true hh)
   rw[if_neg hb];refine⟨t,rfl,by simp[Act.put,h.sz],h.lim,h.df,λi=>?_⟩;rw[h.get i];simp only[Act.put,Array.getD_eq_getD_getElem?];rw[Array.getElem?_setIfInBounds]
   by_cases e:d=i
   ·subst e
    rw[if_pos rfl,if_neg (by rw[h.sz];exact hd),Array.getElem?_eq_none (by rw[h.sz];omega)]
   ·rw[if_neg e]
def l9(call:iY)(call':Caller):Prop:=∀ c s v s1,call c s=some (v,s1)->call' c s=some (v,s1)
theorem uZ{β:Type}{B:Base}(hB:nY B){call:iY}{call':Caller}(hc:l9 call call'){n:Nat}{t:TV}{df:List Deferred}{a:Act}(h:Env n t df a){o:Oper}{s:St}{k:TV->St->Option β}{r:β}
  (hr:qK B call n t o s k=some r):∃ t1 a1 s1,ii B.P call' a o s=some (a1,s1)/\Env n t1 df a1/\k t1 s1=some r:=by
 have key:∀ x,yG B t o s=some x->aS B.P a o s=some x:=by
  intro x hx;have:=B0 hB hx;rw[h.eval,BN]at this;exact this
 have eg:qJ t o.op.operands.toList=ji a o.op:=by
  rw[uY,h.eval];rfl
 unfold qK at hr;unfold ii;rw[eg]at hr
 split at hr
 ·rename_i q hq
  obtain⟨h1,h2⟩:=bO hr;rw[hq];dsimp only;unfold o7;rw[if_pos h1]
  split at h2
  ·rename_i v s1 he
   obtain⟨t1,e1,h3⟩:=i6 h o.dst v (λt1=>k t1 s1);rw[e1]at h2;rw[he];exact⟨t1,_,s1,rfl,h3,h2⟩
  ·cases h2
 rename_i hq;rw[hq];dsimp only
 split at hr
 ·rename_i v s1 he
  rw[key _ he];obtain⟨t1,e1,h1⟩:=i6 h o.dst v (λt1=>k t1 s1);rw[e1]at hr;exact⟨t1,_,s1,rfl,h1,hr⟩
 ·rename_i s1 he
  rw[key _ he];obtain⟨t1,e1,h1⟩:=i6 h o.dst undef (λt1=>k t1 s1);rw[e1]at hr;exact⟨t1,_,s1,rfl,h1,hr⟩
 ·rename_i f args s1 he
  rw[key _ he]
  split at hr
  ·rename_i v s2 hcl
   obtain⟨t1,e1,h1⟩:=i6 h o.dst v (λt1=>k t1 s2);rw[e1]at hr;dsimp only;rw[hc _ _ _ _ hcl];exact⟨t1,_,s2,rfl,h1,hr⟩
  ·cases hr
 ·rename_i l fn tmps assign body s1 he
  rw[key _ he]
  split at hr
  ·rename_i v s2 hcl
   obtain⟨t1,e1,h1⟩:=i6 h o.dst v (λt1=>k t1 s2);rw[e1]at hr;dsimp only;rw[hc _ _ _ _ hcl];exact⟨t1,_,s2,rfl,h1,hr⟩
  ·cases hr
 ·cases hr
theorem Ar{n:Nat}{t:TV}{df:List Deferred}{a:Act}(h:Env n t df a)(ops:Array Oper)(j:Nat):wW ops t j=yielded ops a.tmps j:=by
 unfold wW yielded;cases (ops[j]?).bind (·.dst) with
 | none=>rfl
 | some d =>
  dsimp only[Option.bind];rw[h.get d,Array.getD_eq_getD_getElem?];cases a.tmps[d]? with
  | none=>rfl
  | some v=>cases v<;>rfl
theorem u3{n:Nat}{t:TV}{df:List Deferred}{a:Act}(h:Env n t df a)(ops:Array Oper)(o:Oper):qL ops t o=Region.wanted o (yielded ops a.tmps):=by
 unfold qL Region.wanted;cases o.guard with
 | none=>rfl
 | some g =>
  obtain⟨j,w⟩:=g;dsimp only;rw[Ar h];cases yielded ops a.tmps j with
  | none=>cases w<;>rfl
  | some b=>cases b<;>cases w<;>rfl
theorem B1{B:Base}(hB:nY B){call:iY}{call':Caller}(hc:l9 call call'){n:Nat}(ops:Array Oper)(df:List Deferred):∀ (l:List Oper) (t:TV) (a:Act) (s:St) (x:cT),Env n t df a->uS B call n ops df l t s=some x->
  ∃ a1,ju B.P call' ops l a s=some (a1,x.2.2.2)/\Env n x.2.1 x.2.2.1 a1/\x.1=.normal:=by
 intro l
 induction l with
 | nil =>
  intro t a s x h hx;cases hx;exact⟨a,rfl,h,rfl⟩
 | cons o l ih =>
  intro t a s x h hx;have hx':@Bool.rec (λ_=>Option cT) (qu n t o.dst undef (λt1=>uS B call n ops df l t1 s)) (qK B call n t o s (λt1 s1=>uS B call n ops df l t1 s1)) (qL ops t o)=some x:=hx;rw[gw,u3 h]at hx';unfold ju
  split at hx'
  ·rename_i hw
   rw[if_pos hw];obtain⟨t1,a1,s1,e1,h1,hk⟩:=uZ hB hc h hx';rw[e1];exact ih _ _ _ _ h1 hk
  ·rename_i hw
   rw[if_neg hw];obtain⟨t1,e1,h1⟩:=i6 h o.dst undef (λt1=>uS B call n ops df l t1 s);rw[e1]at hx';exact ih _ _ _ _ h1 hx'
theorem B2{B:Base}(hB:nY B){call:iY}{call':Caller}(hc:l9 call call'){n:Nat}(ops:Array Oper)(df:List Deferred):∀ (l:List Oper) (t:TV) (a:Act) (s:St) (ls:List (List Touch)) (x:cT),Env n t df a->uT B call n ops df l t s ls=some x->
  ∃ a1 KP,jk B.P call' ops l a s ls=some (a1,x.2.2.2,KP)/\(fk ops&&fT (Region.before ops) KP (ops.size-1))=true/\Env n x.2.1 x.2.2.1 a1/\x.1=.normal:=by
 intro l
 induction l with
 | nil =>
  intro t a s ls x h hx;have hx':@Bool.rec (λ_=>Option cT) none (some (.normal,t,df,s)) (fk ops&&fT (Region.before ops) ls (ops.size-1))=some x:=hx;obtain⟨h1,h2⟩:=bO hx';cases h2;exact⟨a,ls,rfl,h1,h,rfl⟩
 | cons o l ih =>
  intro t a s ls x h hx;obtain⟨hh,nx,lg⟩:=s;have hx':@Bool.rec (λ_=>Option cT) (qu n t o.dst undef (λt1=>uT B call n ops df l t1 ⟨hh,nx,lg⟩ ([]::ls)))
   (qK B call n t o ⟨hh,nx,[]⟩ (λt1 s1=>@St.rec (λ_=>Option cT) (λh1 KL Jg=>uT B call n ops df l t1 ⟨h1,KL,List.append Jg lg⟩ (Jg::ls)) s1)) (qL ops t o)=some x:=hx
  rw[gw,u3 h]at hx';unfold jk
  split at hx'
  ·rename_i hw
   rw[if_pos hw];obtain⟨t1,a1,s1,e1,h1,hk⟩:=uZ hB hc h hx';obtain⟨h2,PH,PI⟩:=s1;dsimp only;rw[e1];exact ih _ _ _ _ _ h1 hk
  ·rename_i hw
   rw[if_neg hw];obtain⟨t1,e1,h1⟩:=i6 h o.dst undef (λt1=>uT B call n ops df l t1 ⟨hh,nx,lg⟩ ([]::ls));rw[e1]at hx';exact ih _ _ _ _ _ h1 hx'
theorem B3{β:Type} : ∀ (l:List Value) (i:Nat) (t:TV) (k:TV->β),i+l.length<=4094->∃ t1,jl l i t k=k t1/\∀ j,t1.get j=if i<=j/\j<i+l.length then (l[j-i]?).getD undef else t.get j:=by
 intro l
 induction l with
 | nil =>
  intro i t k hl;refine⟨t,rfl,λj=>?_⟩;rw[if_neg (by simp only[List.length_nil];omega)]
 | cons v l ih =>
  intro i t k hl;rw[List.length_cons]at hl;obtain⟨t1,e1,h1⟩:=ih (i+1) (TV.set 12 t i v) k (by omega);refine⟨t1,?_,λj=>?_⟩
  ·show TV.jC 12 t i v (λt1=>jl l (Nat.succ i) t1 k)=_
   rw[TV.yK];exact e1
  ·rw[h1 j,TV.gR _ _ _ _ _ (by omega),List.length_cons]
   by_cases hj:j=i
   ·subst hj
    rw[if_neg (by omega),if_pos rfl,if_pos (by omega)];simp
   ·rw[if_neg hj]
    by_cases hr:i+1<=j/\j<i+1+l.length
    ·rw[if_pos hr,if_pos (by omega),show j-i=(j-(i+1))+1 by omega]
     simp
    ·rw[if_neg hr,if_neg (by omega)]
theorem HI(t:TV):∀ (k i:Nat),t.HB k i=(List.range' i k).map t.get:=by
 intro k
 induction k with
 | zero=>intro i;rfl
 | succ k ih =>
  intro i;show t.get i::t.HB k (Nat.succ i)=_;rw[ih,List.range'_succ];rfl
theorem xc{n:Nat}{t:TV}{df:List Deferred}{a:Act}(h:Env n t df a):(t.act n).tmps=a.tmps:=by
 apply Array.ext';show t.HB n 0=_;rw[HI];apply List.ext_getElem?;intro i;rw[List.getElem?_map]
 by_cases hi:i<n
 ·rw[List.getElem?_range' hi,Array.getElem?_toList,Array.getElem?_eq_getElem (by rw[h.sz];exact hi)]
  simp only[Option.map_some,Nat.one_mul,Nat.zero_add];rw[h.get i,Array.getD_eq_getD_getElem?,Array.getElem?_eq_getElem (by rw[h.sz];exact hi)];rfl
 ·rw[List.getElem?_eq_none (by simp;omega),Array.getElem?_toList,Array.getElem?_eq_none (by rw[h.sz];omega)]
  rfl
theorem B4{P:Program}{n:Nat}{t:TV}{df:List Deferred}{a:Act}(h:Env n t df a)(s:St)(f:ResultVar->Sem Value)(hf:∀ i,f (.tmp i)=pure (a.tmps.getD i undef)):∀ (l:List ResultVar) (vs:List Value),qM t l=some vs->
  aC P (l.mapM f) s=some (vs,s):=by
 intro l
 induction l with
 | nil =>
  intro vs hv;cases hv;rfl
 | cons r l ih =>
  intro vs hv;have hv':uU t r (qM t l)=some vs:=hv;unfold uU at hv';rw[List.mapM_cons,bC]
  split at hv'
  ·rename_i i ws hl
   cases hv';rw[hf];show aC P _ s=_;rw[bC,ih ws hl,h.get i];rfl
  ·cases hv'
theorem B5{α β:Type}(P:Program)(f:α->β)(m:Sem α)(s:St):aC P (Functor.map f m) s=(aC P m s).bind λ(a,s1)=>some (f a,s1):=by
 show aC P (m >>= λa=>pure (f a)) s=_;rw[bC];rfl
theorem Fk{P:Program}{fn:Func}{t:TV}{df:List Deferred}{a:Act}(h:Env fn.ntmps t df a){s:St}{r:Value×St}(hr:HD P fn t s=some r):lW P fn a s=some r:=by
 have multi:∀ vs,qM t fn.results.toList=some vs->lW P fn a s=some (if h:vs.length=1 then vs[0] else .tuple ⟨vs⟩,s):=by
  intro vs hv;unfold lW results;rw[bC,Array.mapM_eq_mapM_toList,B5,B4 h s _ (λi=>rfl) _ _ hv];rfl
 unfold HD at hr
 split at hr
 ·rename_i i hl
  cases hr;have:=multi [t.get i] (by rw[hl];rfl);rw[this];rfl
 ·rename_i hl
  cases hr;have:=multi [] (by rw[hl];rfl);rw[this];rfl
 ·rename_i x y l hl
  split at hr
  ·rename_i vs hv
   cases hr;have:=multi vs (by rw[hl];exact hv);rw[this,dif_neg];intro hlen;have Ji:∀ (l:List ResultVar) (vs:List Value),qM t l=some vs->vs.length=l.length:=by
    intro l
    induction l with
    | nil=>intro vs hv;cases hv;rfl
    | cons r l ih =>
     intro vs hv;have hv':uU t r (qM t l)=some vs:=hv;unfold uU at hv'
     split at hv'
     ·rename_i i ws hl
      cases hv';rw[List.length_cons,List.length_cons,ih ws hl]
     ·cases hv'
   have:=Ji _ _ hv;simp at this;omega
  ·rw[xc h]at hr
   exact hr
 ·rw[xc h]at hr
  exact hr
theorem Fm{β:Type}(t:TV):∀ (k i:Nat) (f:List Value->β),t.HC k i f=f (t.HB k i):=by
 intro k
 induction k with
 | zero=>intro i f;rfl
 | succ k ih =>
  intro i f;show BH (t.get i) (λv=>t.HC k (Nat.succ i) (λl=>f (v::l)))=f (t.get i::t.HB k (Nat.succ i));rw[yM,ih]
def pu(run:lu)(run':Runner):Prop:=∀ rd n c t d a s ex t1 d1 s1,Env n t d a->run rd n c t d s=some (ex,t1,d1,s1)->∃ a1,run' rd c a s=some (ex,a1,s1)/\Env n t1 d1 a1
theorem m8{args:List Value}{n:Nat}(h1:args.length<=n)(h2:n<=4094){β:Type}(k:TV->β):∃ t,jl args 0 .leaf k=k t/\Env n t [] { tmps:=⟨args⟩++Array.replicate (n-args.length) undef,defers:=[] }:=by
 obtain⟨t0,e0,g0⟩:=B3 args 0 .leaf k (by omega);refine⟨t0,e0,by simp;omega,h2,rfl,λi=>?_⟩;rw[g0 i,Array.getD_eq_getD_getElem?]
 by_cases hi:i<args.length
 ·rw[if_pos (by omega),Array.getElem?_append_left (by simpa using hi),Nat.sub_zero]
  simp
 ·rw[if_neg (by omega),Array.getElem?_append_right (by simpa using hi),Array.getElem?_replicate]
  split<;>rfl
theorem ot{P:Program}{fn:Func}{t:TV}{d:List Deferred}{a:Act}(h:Env fn.ntmps t d a){s:St}{r:Value×St}(hr:E_ P fn t d s=some r){e:Exit}(he:atEnd e=true):gZ P fn e a s=some r:=by
 unfold E_ at hr;unfold gZ;rw[he,h.df];dsimp only
 split at hr
 ·rename_i u s1 hm
  rw[hm];exact Fk h hr
 ·cases hr
theorem m9{B:Base}(hB:nY B){run:lu}{run':Runner}(hr:pu run run')(f:FuncId)(args:Array Value)(s:St)(v:Value)(s1:St)(h:lw B run f args.toList s=some (v,s1)):fI B.P run' f args s=some (v,s1):=by
 unfold lw at h;unfold fI
 split at h
 ·rename_i r hq
  rw[hq];exact h
 ·rename_i hq
  rw[hq];dsimp only
  split at h
  ·rename_i q hg
   rw[hg];exact h
  rename_i hg;rw[hg];dsimp only
  split at h
  case h_2=>cases h
  rename_i fn hf
  split at h
  ·rename_i body hb
   obtain⟨h1,h2⟩:=bO h;rw[Bool.and_eq_true]at h1;have hl1:args.toList.length<=fn.ntmps:=Nat.le_of_ble_eq_true h1.1;have hl2:fn.ntmps<=4094:=Nat.le_of_ble_eq_true h1.2;obtain⟨t0,e0,env⟩:=m8 hl1 hl2 (λt=>sx B.P fn (run none fn.ntmps body t [] s));rw[e0]at h2;rw[hB.F _ _ hf];dsimp only;rw[hb];dsimp only;have env':Env fn.ntmps t0 [] { tmps:=args++Array.replicate (fn.ntmps-args.size) undef,defers:=[] }:=by
    have e:(⟨args.toList⟩:Array Value)=args:=rfl;rw[e,Array.length_toList]at env;exact env
   unfold sx at h2
   split at h2
   ·rename_i t d s2 hrun
    obtain⟨a1,q1,q2⟩:=hr _ _ _ _ _ _ _ _ _ _ _ env' hrun;rw[q1];exact ot q2 h2 rfl
   ·rename_i t d s2 hrun
    obtain⟨a1,q1,q2⟩:=hr _ _ _ _ _ _ _ _ _ _ _ env' hrun;rw[q1];exact ot q2 h2 rfl
   ·cases h2
  ·cases h
theorem As{B:Base}{run:lu}{run':Runner}(hr:pu run run')(l:Nat)(tmps:Array Value)(assign body:Code)(s:St)(v:Value)(s1:St)(h:wX B run l tmps.toList assign body s=some (v,s1)):kZ B.P run' l tmps assign body s=some (v,s1):=by
 unfold wX at h;rw[iZ]at h;obtain⟨h1,h2⟩:=bO h;have hl:tmps.toList.length<=4094:=Nat.le_of_ble_eq_true h1;obtain⟨t0,e0,env⟩:=m8 (Nat.le_refl _) hl (λt=>HE B run l tmps.toList.length body (run (some l) tmps.toList.length assign t [] s));rw[e0]at h2;have env':Env tmps.toList.length t0 [] { tmps:=tmps,defers:=[] }:=by
  have e:(⟨tmps.toList⟩:Array Value)++Array.replicate (tmps.toList.length-tmps.toList.length) undef=tmps:=by
   apply Array.ext';simp
  rw[e]at env;exact env
 unfold kZ;unfold HE at h2
 split at h2
 ·rename_i t d s2 hrun
  obtain⟨a1,q1,q2⟩:=hr _ _ _ _ _ _ _ _ _ _ _ env' hrun;rw[q1];simp only[lX,if_true]
  split at h2
  ·rename_i u s3 hb
   rw[hb];dsimp only;unfold GU at h2
   split at h2
   ·rename_i e t3 d3 s4 Jj
    obtain⟨a3,q3,q4⟩:=hr _ _ _ _ _ _ _ _ _ _ _ q2 Jj;rw[q3];exact h2
   ·cases h2
  ·cases h2
 ·cases h2
theorem B6{B:Base}(hB:nY B){run:lu}{run':Runner}(hr:pu run run'):l9 (yI B run) (jv B.P run'):=by
 intro c s v s1 h;cases c with
 | fn f args=>exact m9 hB hr f args s v s1 h
 | Bp l tmps assign body=>exact As hr l tmps assign body s v s1 h
theorem sE{B:Base}(hB:nY B){n:Nat}{t:TV}{d:List Deferred}{a:Act}(h:Env n t d a){g:Operand}{l:Nat}{f:FuncId}{args:List Value}(hr:m7 B t g l=some (f,args)):eW B.P a g l=some (f,⟨args⟩):=by
 unfold m7 at hr;rw[h.eval]at hr;unfold eW
 split at hr
 ·rename_i f0 first captured hg
  obtain⟨h1,h2⟩:=bO hr;rw[Bool.and_eq_true]at h1;cases h2;rw[if_pos h1.1,hg];dsimp only;rw[if_pos (BZ hB h1.2)]
  congr 2
  apply Array.ext';simp
 ·cases hr
theorem Au{B:Base}(hB:nY B){run:lu}{run':Runner}(hr:pu run run')(rd:Option Nat)(n:Nat)(g:Operand)(ps:Array Tmp)(assign body:Code)(t:TV)(d:List Deferred)(a:Act)(s:St)(ex:Exit)(t1:TV)(d1:List Deferred)(s1:St)(h:Env n t d a)
  (hx:wY B run rd n g ps assign body t d s=some (ex,t1,d1,s1)):∃ a1,lh B.P run' rd g ps assign body a s=some (ex,a1,s1)/\Env n t1 d1 a1:=by
 unfold wY at hx;rw[Fm]at hx;have e:(⟨t.HB n 0⟩:Array Value)=a.tmps:=xc h;rw[e]at hx;unfold lh
 split at hx
 ·rename_i l mark s2 h1
  rw[h1];dsimp only
  split at hx
  ·rename_i f args h2
   rw[sE hB h h2];dsimp only;unfold yJ at hx
   split at hx
   ·rename_i v s3 h3
    rw[m9 hB hr f ⟨args⟩ s2 v s3 h3];dsimp only
    split at hx
    ·rename_i j s4 h4
     rw[h4];obtain⟨h5,h6⟩:=bO hx;dsimp only;rw[if_pos h5];have env:Env n t (List.append mark d) { a with defers:=mark++a.defers }:=⟨h.sz,h.lim,by rw[h.df];rfl,h.get⟩;unfold GV at h6;unfold o8
     split at h6
     ·cases h6
      exact⟨_,rfl,env⟩
     ·exact hr _ _ _ _ _ _ _ _ _ _ _ env h6
    ·cases hx
   ·cases hx
  ·cases hx
 ·cases hx
theorem xd{B:Base}(hB:nY B):∀ (m:Nat),pu (E' B m) (ev B.P m):=by
 intro m
 induction m with
 | zero=>intro rd n c t d a s ex t1 d1 s1 h hx;cases hx
 | succ m ih =>
  intro rd n c t d a s ex t1 d1 s1 h hx;have hc:l9 (yI B (E' B m)) (jv B.P (ev B.P m)):=B6 hB ih;have hx':BQ B (E' B m) rd n c t d s=some (ex,t1,d1,s1):=hx;have seq:∀ (x y:Code),E9 (E' B m rd n x t d s) (λt1 d1 s1=>E' B m rd n y t1 d1 s1)=some (ex,t1,d1,s1)->
    ∃ a1,(match ev B.P m rd x a s with | some (.normal,a1,s1)=>ev B.P m rd y a1 s1 | r=>r)=some (ex,a1,s1)/\Env n t1 d1 a1:=by
   intro x y hs;unfold E9 at hs
   split at hs
   ·rename_i t2 d2 s2 he
    obtain⟨a2,q1,q2⟩:=ih _ _ _ _ _ _ _ _ _ _ _ h he;rw[q1];exact ih _ _ _ _ _ _ _ _ _ _ _ q2 hs
   ·rename_i e t2 d2 s2 hne he
    cases hs;obtain⟨a2,q1,q2⟩:=ih _ _ _ _ _ _ _ _ _ _ _ h he;rw[q1];refine⟨a2,?_,q2⟩;cases ex with
    | normal=>exact(hne rfl).elim
    | _=>rfl
   ·cases hs
  unfold BQ at hx';unfold ev
  split at hx'
  ·cases hx';exact⟨a,rfl,h⟩
  ·cases hx';exact⟨a,rfl,h⟩
  ·cases hx';exact⟨a,rfl,h⟩
  ·cases hx';exact⟨a,rfl,h⟩
  ·cases hx';exact⟨a,rfl,h⟩
  ·exact seq _ _ hx'
  ·rename_i c x y
   obtain⟨h1,h2⟩:=bO hx';unfold GT at h2
   split at h2
   ·rename_i b hb
    rw[h.eval]at hb;dsimp only;rw[h1,hb];dsimp only;cases b with
    | false=>exact ih _ _ _ _ _ _ _ _ _ _ _ h h2
    | true=>exact ih _ _ _ _ _ _ _ _ _ _ _ h h2
   ·cases h2
  ·rename_i id body
   unfold BO at hx'
   split at hx'
   ·rename_i i t2 d2 s2 he
    obtain⟨a2,q1,q2⟩:=ih _ _ _ _ _ _ _ _ _ _ _ h he;dsimp only;rw[q1];dsimp only;rw[gw]at hx'
    split at hx'
    ·rename_i hi
     cases hx';rw[if_pos (Nat.eq_of_beq_eq_true hi)];exact⟨a2,rfl,q2⟩
    ·rename_i hi
     cases hx';rw[if_neg (λe=>hi (by rw[e];exact Nat.beq_refl _))];exact⟨a2,rfl,q2⟩
   ·rename_i e t2 d2 s2 hne he
    cases hx';obtain⟨a2,q1,q2⟩:=ih _ _ _ _ _ _ _ _ _ _ _ h he;dsimp only;rw[q1];refine⟨a2,?_,q2⟩;cases ex with
    | exit i=>exact(hne i rfl).elim
    | _=>rfl
   ·cases hx'
  ·exact seq _ _ hx'
  ·rename_i body
   split at hx'
   ·unfold BP at hx'
    split at hx'
    ·rename_i l t2 d2 s2 he
     obtain⟨a2,q1,q2⟩:=ih _ _ _ _ _ _ _ _ _ _ _ h he;dsimp only;rw[q1];unfold rO
     split at hx'
     case h_2=>cases hx'
     rename_i rest hf;simp only[hf];unfold yH at hx'
     split at hx'
     ·cases hx'
     ·rename_i e t3 d3 s3 hne Np
      cases hx';obtain⟨a3,q3,q4⟩:=ih _ _ _ _ _ _ _ _ _ _ _ q2 Np;rw[q3];refine⟨a3,?_,q4⟩;cases ex with
      | goto i=>exact(hne i rfl).elim
      | _=>rfl
     ·cases hx'
    ·rename_i e t2 d2 s2 hne he
     cases hx';obtain⟨a2,q1,q2⟩:=ih _ _ _ _ _ _ _ _ _ _ _ h he;dsimp only;rw[q1];refine⟨a2,?_,q2⟩;cases ex with
     | goto i=>exact(hne i rfl).elim
     | _=>rfl
    ·cases hx'
   ·cases hx'
  ·rename_i g ps assign body
   exact Au hB ih _ _ _ _ _ _ _ _ _ _ _ _ _ _ h hx'
  ·rename_i id ops draw
   dsimp only;cases draw with
   | false =>
    obtain⟨a1,q1,q2,q3⟩:=B1 hB hc ops _ _ _ _ _ _ h hx';dsimp only at q1 q2 q3;subst q3;have:dR B.P (jv B.P (ev B.P m)) ops false a s=some (a1,s1):=by
     simp only[dR,Bool.false_eq_true,if_false];exact q1
    rw[this];exact⟨a1,rfl,q2⟩
   | true =>
    obtain⟨a1,KP,q1,q4,q2,q3⟩:=B2 hB hc ops _ _ _ _ _ _ _ h hx';dsimp only at q1 q2 q3;subst q3;have:dR B.P (jv B.P (ev B.P m)) ops true a s=some (a1,s1):=by
     simp only[dR,if_true];rw[q1];dsimp only;rw[if_pos q4]
    rw[this];exact⟨a1,rfl,q2⟩
  ·cases hx'
theorem Av{P:Program}(hP:P.check=.ok ())(cE:dV P)(hm:P.follows .mixedOrders=true){n:Nat}{f:FuncId}{args args':Array Value}(h:dL P (λB=>isTrue (lw B (E' B n) f args.toList s0))=true)(ha:bk (λ_=>none) args args')(w:World) :
  Calls P f args' w λe w1=>e=.returned (.bool true)/\Below w.heap.size w w1:=by
 obtain⟨B,hB,KQ,e⟩:=uW P (λB=>isTrue (lw B (E' B n) f args.toList s0));rw[e]at h;subst KQ;refine uO hP cE hm (n:=n) (f:=f) (args:=args) ?_ ha w;unfold isTrue at h
 split at h
 ·rename_i b s1 hc
  have:=m9 hB (xd hB n) f args s0 _ _ hc;show isTrue (fI B.P (ev B.P n) f args s0)=true;rw[this];exact h
 ·cases h
end Go.Ev
namespace Go.Ev
open Go.RowKit
noncomputable def MZ(a b:IntKind):Bool:=Nat.beq (E3 a) (E3 b)
def M0:Int->Int->Bool
 | .ofNat a,.ofNat b=>Nat.beq a b
 | .negSucc a,.negSucc b=>Nat.beq a b
 | _,_=>false
def Jk:BinOp->Nat
 | .add=>0 | .sub=>1 | .mul=>2 | .quo=>3 | .rem=>4 | .and=>5 | .or=>6 | .xor=>7 | .shl=>8 | .shr=>9 | .andNot=>10 | .eql=>11 | .neq=>12 | .lss=>13 | .leq=>14 | .gtr=>15 | .geq=>16
def Jl:UnOp->Nat
 | .neg=>0 | .xor=>1 | .not=>2 | .plus=>3
noncomputable def mb:Value->Value->Bool
 | .int k n,.int k' n'=>MZ k k'&&M0 n n'
 | .bool a,.bool b=>match a,b with | true,true=>true | false,false=>true | _,_=>false
 | .complex .f64 n 0,.complex .f64 n' 0=>Nat.beq n n'
 | .pointer none,.pointer none=>true
 | .slice none 0 0,.slice none 0 0=>true
 | .map none,.map none=>true
 | .nilFunc,.nilFunc=>true
 | .nilIface,.nilIface=>true
 | _,_=>false
noncomputable def yT:List Value->List Value->Bool
 | [],[]=>true
 | x::l,y::m=>mb x y&&yT l m
 | _,_=>false
noncomputable def yU:Value->Value->Bool
 | .agg ⟨l⟩,.agg ⟨m⟩=>yT l m
 | x,y=>mb x y
noncomputable def yV:List Value->List Value->Bool
 | [],[]=>true
 | x::l,y::m=>yU x y&&yV l m
 | _,_=>false
theorem iq{x y:Value}(h:mb x y=true):x=y/\dp x=true:=by
 unfold mb at h
 split at h
 ·rename_i k n k' n'
  rw[Bool.and_eq_true]at h;have hk:=@sD cP _ _ h.1;have hn:n=n':=by
   have h2:=h.2;unfold M0 at h2
   split at h2
   ·rw[Nat.eq_of_beq_eq_true h2]
   ·rw[Nat.eq_of_beq_eq_true h2]
   ·cases h2
  rw[hk,hn];exact⟨rfl,rfl⟩
 ·rename_i a b
  cases a<;>cases b<;>first | exact⟨rfl,rfl⟩ | cases h
 ·rename_i n n'
  rw[Nat.eq_of_beq_eq_true h];exact⟨rfl,rfl⟩
 ·exact⟨rfl,rfl⟩
 ·exact⟨rfl,rfl⟩
 ·exact⟨rfl,rfl⟩
 ·exact⟨rfl,rfl⟩
 ·exact⟨rfl,rfl⟩
 ·cases h
theorem B7:∀ {l m:List Value},yT l m=true->l=m/\l.all dp=true:=by
 intro l
 induction l with
 | nil =>
  intro m h;cases m with
  | nil=>exact⟨rfl,rfl⟩
  | cons y m=>cases h
 | cons x l ih =>
  intro m h;cases m with
  | nil=>cases h
  | cons y m =>
   have h':(mb x y&&yT l m)=true:=h;rw[Bool.and_eq_true]at h';obtain⟨h1,h2⟩:=iq h'.1;obtain⟨h3,h4⟩:=ih h'.2;rw[h1,h3];refine⟨rfl,?_⟩;rw[← h1,← h3];simp[h2,h4]
def KR(val:Nat->Value):Value->Value
 | .agg cs=>.agg (cs.toList.map (lK val)).toArray
 | v=>lK val v
def Fp:Value->Bool
 | .agg cs=>cs.toList.all dp
 | v=>dp v
theorem B8{x y:Value}(h:yU x y=true):x=y/\Fp x=true:=by
 unfold yU at h
 split at h
 ·rename_i l m
  obtain⟨h1,h2⟩:=B7 h;subst h1;exact⟨rfl,h2⟩
 ·rename_i hne
  obtain⟨h1,h2⟩:=iq h;refine⟨h1,?_⟩;cases x<;>first | exact h2 | cases h2
theorem B9:∀ {l m:List Value},yV l m=true->l=m/\∀ x ∈ l,Fp x=true:=by
 intro l
 induction l with
 | nil =>
  intro m h;cases m with
  | nil=>exact⟨rfl,λx hx=>by cases hx⟩
  | cons y m=>cases h
 | cons x l ih =>
  intro m h;cases m with
  | nil=>cases h
  | cons y m =>
   have h':(yU x y&&yV l m)=true:=h;rw[Bool.and_eq_true]at h';obtain⟨h1,h2⟩:=B8 h'.1;obtain⟨h3,h4⟩:=ih h'.2;subst h1 h3;refine⟨rfl,λz hz=>?_⟩;rcases List.mem_cons.1 hz with e | e
   ·rw[e];exact h2
   ·exact h4 z e
abbrev qP:=BinOp×Value×Value×Value
abbrev qQ:=UnOp×Value×Value
abbrev qR:=IntKind×Value×Value
abbrev yW:=FuncId×List Value×Value
noncomputable def yX(op:BinOp)(x y:Value):List qP->Option Value
 | []=>none
 | (o,a,b,r)::l=>if Nat.beq (Jk op) (Jk o)&&(mb x a&&(mb y b&&dp r)) then some r else yX op x y l
noncomputable def yY(op:UnOp)(x:Value):List qQ->Option Value
 | []=>none
 | (o,a,r)::l=>if Nat.beq (Jl op) (Jl o)&&(mb x a&&dp r) then some r else yY op x l
noncomputable def yZ(k:IntKind)(x:Value):List qR->Option Value
 | []=>none
 | (o,a,r)::l=>if MZ k o&&(mb x a&&dp r) then some r else yZ k x l
noncomputable def y4(f:FuncId)(l:List Value):List yW->Option Value
 | []=>none
 | (g,m,r)::ks=>if Nat.beq f g&&(yV l m&&dp r) then some r else y4 f l ks
theorem HJ{a b:BinOp}(h:Nat.beq (Jk a) (Jk b)=true):a=b:=by
 cases a<;>cases b<;>first | rfl | (simp[Jk]at h)
theorem HK{a b:UnOp}(h:Nat.beq (Jl a) (Jl b)=true):a=b:=by
 cases a<;>cases b<;>first | rfl | (simp[Jl]at h)
theorem B_{op:BinOp}{x y r:Value} : ∀ {l:List qP},yX op x y l=some r->(op,x,y,r) ∈ l/\dp x=true/\dp y=true/\dp r=true:=by
 intro l
 induction l with
 | nil=>intro h;cases h
 | cons q l ih =>
  intro h;obtain⟨o,a,b,z⟩:=q;simp only[yX]at h
  split at h
  ·rename_i hc
   simp only[Bool.and_eq_true]at hc;cases h;obtain⟨h1,h2⟩:=iq hc.2.1;obtain⟨h3,h4⟩:=iq hc.2.2.1;rw[HJ hc.1,← h1,← h3];exact⟨List.mem_cons_self ..,h2,h4,hc.2.2.2⟩
  ·obtain⟨h1,h2⟩:=ih h
   exact⟨List.mem_cons_of_mem _ h1,h2⟩
theorem B'{op:UnOp}{x r:Value} : ∀ {l:List qQ},yY op x l=some r->(op,x,r) ∈ l/\dp x=true/\dp r=true:=by
 intro l
 induction l with
 | nil=>intro h;cases h
 | cons q l ih =>
  intro h;obtain⟨o,a,z⟩:=q;simp only[yY]at h
  split at h
  ·rename_i hc
   simp only[Bool.and_eq_true]at hc;cases h;obtain⟨h1,h2⟩:=iq hc.2.1;rw[HK hc.1,← h1];exact⟨List.mem_cons_self ..,h2,hc.2.2⟩
  ·obtain⟨h1,h2⟩:=ih h
   exact⟨List.mem_cons_of_mem _ h1,h2⟩
theorem Ca{k:IntKind}{x r:Value} : ∀ {l:List qR},yZ k x l=some r->(k,x,r) ∈ l/\dp x=true/\dp r=true:=by
 intro l
 induction l with
 | nil=>intro h;cases h
 | cons q l ih =>
  intro h;obtain⟨o,a,z⟩:=q;simp only[yZ]at h
  split at h
  ·rename_i hc
   simp only[Bool.and_eq_true]at hc;cases h;obtain⟨h1,h2⟩:=iq hc.2.1;rw[@sD cP _ _ hc.1,← h1];exact⟨List.mem_cons_self ..,h2,hc.2.2⟩
  ·obtain⟨h1,h2⟩:=ih h
   exact⟨List.mem_cons_of_mem _ h1,h2⟩
theorem u4{f:FuncId}{args:List Value}{r:Value} : ∀ {l:List yW},y4 f args l=some r->(f,args,r) ∈ l/\(∀ x ∈ args,Fp x=true)/\dp r=true:=by
 intro l
 induction l with
 | nil=>intro h;cases h
 | cons q l ih =>
  intro h;obtain⟨o,a,z⟩:=q;simp only[y4]at h
  split at h
  ·rename_i hc
   simp only[Bool.and_eq_true]at hc;cases h;obtain⟨h1,h2⟩:=B9 hc.2.1;rw[Nat.eq_of_beq_eq_true hc.1,← h1];exact⟨List.mem_cons_self ..,h2,hc.2.2⟩
  ·obtain⟨h1,h2⟩:=ih h
   exact⟨List.mem_cons_of_mem _ h1,h2⟩
def Cb(val:Nat->Value)(q:qP):Prop:=∀ t ox oy,(do eqGuard q.1 t ox oy (lK val q.2.1) (lK val q.2.2.1);binOp q.1 t (lK val q.2.1) (lK val q.2.2.1):Sem Value)=pure (lK val q.2.2.2)
def Cc(val:Nat->Value)(q:qQ):Prop:=Op.unary q.1 (lK val q.2.1)=pure (lK val q.2.2)
def y5(val:Nat->Value)(q:qR):Prop:=∃ k0 n,lK val q.2.1=.int k0 n/\lK val q.2.2=.int q.1 (q.1.wrap n)
def Jm(P:Program)(val:Nat->Value)(q:yW):Prop:=∀ w,Calls P q.1 (q.2.1.map (KR val)).toArray w λe w'=>e=.returned (lK val q.2.2)/\Below w.heap.size w w'
theorem Fq[aL]{ι:ag}{x x':Value}(h:aw ι x x')(hs:Fp x=true):x'=KR aL.val x:=by
 cases h with
 | agg f f' hf hr =>
  have hs':∀ y ∈ f.toList,dp y=true:=by
   have:f.toList.all dp=true:=hs
   rwa [List.all_eq_true]at this
  show Value.agg f'=.agg (f.toList.map (lK aL.val)).toArray
  congr 1
  apply Array.ext (by simp[hf]);intro i h1 h2;have h3:i<f.size:=by rw[hf];exact h1
  have:=oZ (hr i _ _ (Array.getElem?_eq_getElem h3) (Array.getElem?_eq_getElem h1)) (hs' _ (by rw[Array.mem_toList_iff];exact Array.getElem_mem h3));rw[this];simp
 | sym n m _ hh=>exact hh.symm
 | _=>first | rfl | cases hs
theorem f6(op:BinOp)(t:TypeId)(ox oy:Operand)(k k':IntKind)(x y:Int):eqGuard op t ox oy (.int k x) (.int k' y)=pure ():=by
 unfold eqGuard
 split<;>rfl
theorem pv{op:BinOp}{t:TypeId}{ox oy:Operand}{k:IntKind}{x y:Int}{b:Bool}(h:Op.intCmp op x y=pure (.bool b))(ho:op=.eql\/op=.neq\/op=.lss\/op=.leq\/op=.gtr\/op=.geq):(do eqGuard op t ox oy (.int k x) (.int k y);binOp op t (.int k x) (.int k y):Sem Value)=pure (.bool b):=by
  rw[f6];show binOp op t (.int k x) (.int k y)=_;rcases ho with rfl | rfl | rfl | rfl | rfl | rfl<;>simp[binOp,h]
theorem aP{t:TypeId}{ox oy:Operand}{k:IntKind}{x y:Int}{b:Bool}(h:decide (x≥y)=b):(do eqGuard .geq t ox oy (.int k x) (.int k y);binOp .geq t (.int k x) (.int k y):Sem Value)=pure (.bool b):=pv (by unfold Op.intCmp;rw[h]) (by simp)
theorem ax{t:TypeId}{ox oy:Operand}{k:IntKind}{x y:Int}{b:Bool}(h:decide (x<y)=b):(do eqGuard .lss t ox oy (.int k x) (.int k y);binOp .lss t (.int k x) (.int k y):Sem Value)=pure (.bool b):=pv (by unfold Op.intCmp;rw[h]) (by simp)
theorem bJ{t:TypeId}{ox oy:Operand}{k:IntKind}{x y:Int}{b:Bool}(h:decide (x>y)=b):(do eqGuard .gtr t ox oy (.int k x) (.int k y);binOp .gtr t (.int k x) (.int k y):Sem Value)=pure (.bool b):=pv (by unfold Op.intCmp;rw[h]) (by simp)
theorem bL{t:TypeId}{ox oy:Operand}{k:IntKind}{x y:Int}{b:Bool}(h:decide (x=y)=b):(do eqGuard .eql t ox oy (.int k x) (.int k y);binOp .eql t (.int k x) (.int k y):Sem Value)=pure (.bool b):=pv (by unfold Op.intCmp;rw[← h];rfl) (by simp)
theorem gx{t:TypeId}{ox oy:Operand}{k:IntKind}{x y:Int}{b:Bool}(h:decide (x≠y)=b):(do eqGuard .neq t ox oy (.int k x) (.int k y);binOp .neq t (.int k x) (.int k y):Sem Value)=pure (.bool b):=pv (by unfold Op.intCmp;rw[← h];simp[bne];rfl) (by simp)
theorem bM{t:TypeId}{ox oy:Operand}{k:IntKind}{x y z:Int}(h:k.wrap (x+y)=z):(do eqGuard .add t ox oy (.int k x) (.int k y);binOp .add t (.int k x) (.int k y):Sem Value)=pure (.int k z):=by
  rw[f6];show binOp .add t (.int k x) (.int k y)=_;simp[binOp,Op.intArith,h]
theorem jE{t:TypeId}{ox oy:Operand}{k:IntKind}{x y z:Int}(h:k.wrap (x-y)=z):(do eqGuard .sub t ox oy (.int k x) (.int k y);binOp .sub t (.int k x) (.int k y):Sem Value)=pure (.int k z):=by
  rw[f6];show binOp .sub t (.int k x) (.int k y)=_;simp[binOp,Op.intArith,h]
theorem dz{t:TypeId}{ox oy:Operand}{k:IntKind}{x y z:Int}(h:k.wrap (x*y)=z):(do eqGuard .mul t ox oy (.int k x) (.int k y);binOp .mul t (.int k x) (.int k y):Sem Value)=pure (.int k z):=by
  rw[f6];show binOp .mul t (.int k x) (.int k y)=_;simp[binOp,Op.intArith,h]
theorem HL{t:TypeId}{ox oy:Operand}{k:IntKind}{x y z:Int}(hy:y≠0)(h:k.wrap (x.tdiv y)=z):(do eqGuard .quo t ox oy (.int k x) (.int k y);binOp .quo t (.int k x) (.int k y):Sem Value)=pure (.int k z):=by
  rw[f6];show binOp .quo t (.int k x) (.int k y)=_;simp[binOp,Op.intDiv,h,hy]
theorem g9{t:TypeId}{ox oy:Operand}{k:IntKind}{x y z:Int}(hy:y≠0)(h:x.tmod y=z):(do eqGuard .rem t ox oy (.int k x) (.int k y);binOp .rem t (.int k x) (.int k y):Sem Value)=pure (.int k z):=by
  rw[f6];show binOp .rem t (.int k x) (.int k y)=_;simp[binOp,Op.intDiv,h,hy]
abbrev sy(n:Nat):Value:=.complex .f64 n 0
theorem y6{val:Nat->Value}{k k0:IntKind}{x r:Value}{n m:Int}(hx:lK val x=.int k0 n)(hr:lK val r=.int k m)(h:k.wrap n=m):y5 val (k,x,r):=⟨k0,n,hx,by rw[h];exact hr⟩
noncomputable def Kc:Option Addr->Option Addr->Bool
 | none,none=>true
 | some ⟨b,o,none⟩,some ⟨b',o',none⟩=>Nat.beq b b'&&Nat.beq o o'
 | _,_=>false
noncomputable def KS:Option Nat->Option Nat->Bool
 | none,none=>true
 | some b,some b'=>Nat.beq b b'
 | _,_=>false
noncomputable def M1:FloatKind->FloatKind->Bool
 | .f32,.f32=>true
 | .f64,.f64=>true
 | _,_=>false
noncomputable def oe(f:Value->Value->Bool):List Value->List Value->Bool
 | [],[]=>true
 | x::l,y::m=>f x y&&oe f l m
 | _,_=>false
noncomputable def xe:Nat->Value->Value->Bool
 | 0,_,_=>false
 | n+1,x,y =>
  match x,y with
  | .bool a,.bool b=>(match a,b with | true,true=>true | false,false=>true | _,_=>false)
  | .int k a,.int k' b=>Nat.beq (E3 k) (E3 k')&&BJ a b
  | .complex k a b,.complex k' a' b'=>M1 k k'&&(Nat.beq a a'&&Nat.beq b b')
  | .pointer a,.pointer b=>Kc a b
  | .slice a n c,.slice a' n' c'=>Kc a a'&&(Nat.beq n n'&&Nat.beq c c')
  | .map a,.map b=>KS a b
  | .nilFunc,.nilFunc=>true
  | .nilIface,.nilIface=>true
  | .iface t a,.iface t' a'=>Nat.beq t t'&&xe n a a'
  | .agg a,.agg b=>oe (xe n) a.toList b.toList
  | .tuple a,.tuple b=>oe (xe n) a.toList b.toList
  | _,_=>false
theorem Cd{a b:Option Addr}(h:Kc a b=true):a=b:=by
 unfold Kc at h
 split at h
 ·rfl
 ·rw[Bool.and_eq_true]at h
  rw[Nat.eq_of_beq_eq_true h.1,Nat.eq_of_beq_eq_true h.2]
 ·cases h
theorem HM{a b:Option Nat}(h:KS a b=true):a=b:=by
 unfold KS at h
 split at h
 ·rfl
 ·rw[Nat.eq_of_beq_eq_true h]
 ·cases h
theorem HN{a b:FloatKind}(h:M1 a b=true):a=b:=by cases a<;>cases b<;>first | rfl | cases h
theorem i7{f:Value->Value->Bool}(hf:∀ x y,f x y=true->x=y):∀ {l m:List Value},oe f l m=true->l=m:=by
 intro l
 induction l with
 | nil=>intro m h;cases m with | nil=>rfl | cons y m=>cases h
 | cons x l ih =>
  intro m h;cases m with
  | nil=>cases h
  | cons y m =>
   have h':(f x y&&oe f l m)=true:=h;rw[Bool.and_eq_true]at h';rw[hf x y h'.1,ih h'.2]
theorem lx:∀ (n:Nat) (x y:Value),xe n x y=true->x=y:=by
 intro n
 induction n with
 | zero=>intro x y h;cases h
 | succ n ih =>
  intro x y h;unfold xe at h
  split at h
  ·split at h<;>first | rfl | cases h
  ·rw[Bool.and_eq_true]at h
   rw[@sD cP _ _ h.1,show _=_ from of_decide_eq_true ((@sC cP _ _).symm.trans h.2)]
  ·simp only[Bool.and_eq_true]at h
   rw[HN h.1,Nat.eq_of_beq_eq_true h.2.1,Nat.eq_of_beq_eq_true h.2.2]
  ·rw[Cd h]
  ·simp only[Bool.and_eq_true]at h
   rw[Cd h.1,Nat.eq_of_beq_eq_true h.2.1,Nat.eq_of_beq_eq_true h.2.2]
  ·rw[HM h]
  ·rfl
  ·rfl
  ·rw[Bool.and_eq_true]at h
   rw[Nat.eq_of_beq_eq_true h.1,ih _ _ h.2]
  ·congr 1;exact Array.ext' (i7 ih h)
  ·congr 1;exact Array.ext' (i7 ih h)
  ·cases h
variable[aL]
def KT:List (Nat×Obj)->Tr
 | []=>.leaf
 | (id,o)::l=>(KT l).set deep id (some o)
def jF(l:List (Nat×Obj))(n:Nat):St:=⟨KT l,n,[]⟩
def bh(l:List (Nat×Nat)):ag:=λid=>(l.find? λp=>p.1==id).map (·.2)
theorem j_(n:Nat):∀ (l:List (Nat×Obj)) (id:Nat),(∀ p ∈ l,p.1<lim)->(jF l n).look id=(l.find? λp=>p.1==id).map (·.2):=by
 intro l
 induction l with
 | nil=>intro id _;exact Tr.jr _ _
 | cons p l ih =>
  intro id h;obtain⟨j,o⟩:=p;have hl:j<lim:=h (j,o) (List.mem_cons_self ..);show((KT l).set deep j (some o)).get deep id=_;rw[List.find?_cons]
  by_cases e:j=id
  ·subst e
   simp only[beq_self_eq_true];exact Tr.get_set_same 29 _ _ _ hl
  ·rw[show((j,o).1==id)=false by simpa using e]
   rw[Tr.get_set_other _ _ _ _ _ (λe'=>e e'.symm)];exact ih id (λp hp=>h p (List.mem_cons_of_mem _ hp))
theorem f7{l:List (Nat×Nat)}{id b:Nat}(h:bh l id=some b):(id,b) ∈ l:=by
 unfold bh at h;cases hf:l.find? (λp=>p.1==id) with
 | none=>rw[hf]at h;cases h
 | some p =>
  rw[hf]at h;cases h;have h1:=List.find?_some hf;have h2:=List.mem_of_find?_eq_some hf;obtain⟨x,y⟩:=p;simp only[beq_iff_eq]at h1;subst h1;exact h2
theorem mc{l:List (Nat×Obj)}{id:Nat}{o:Obj}(h:(l.find? λp=>p.1==id).map (·.2)=some o):(id,o) ∈ l:=by
 cases hf:l.find? (λp=>p.1==id) with
 | none=>rw[hf]at h;cases h
 | some p =>
  rw[hf]at h;cases h;have h1:=List.find?_some hf;have h2:=List.mem_of_find?_eq_some hf;obtain⟨x,y⟩:=p;simp only[beq_iff_eq]at h1;subst h1;exact h2
def Rest(l:List (Nat×Nat))(F:Nat->Prop)(w:World)(j:Nat):Prop:=j<w.heap.size/\¬ F j/\∀ p ∈ l,p.2≠j
theorem xg{P:Program}{w:World}{objs:List (Nat×Obj)}{l:List (Nat×Nat)}{n:Nat}{F:Nat->Prop}(hlim:∀ p ∈ objs,p.1<lim)
  (KU:∀ p ∈ objs,ob p.2=none->∃ b o',bh l p.1=some b/\w.heap[b]? = some o'/\fF P (bh l) p.1 p.2 o') (hinj:∀ p ∈ l,∀ q ∈ l,p.2=q.2->p.1=q.1)
  (hF:∀ j,F j->j<w.heap.size) (Nq:∀ p ∈ l,¬ F p.2)
  (hg:∀ p ∈ objs,∀ g,ob p.2=some g->p.1=3/\bh l 3=none/\aL.GR g (bh l) F w):bY P (Rest l F w) (bh l) (jF objs n).look w:=by
 refine⟨λid id' o o' b _ _ h1 h2=>?_,λid o ho hrl=>?_,λk hk=>hk.1,λid o g ho hgn=>?_⟩
 ·exact hinj _ (f7 h1) _ (f7 h2) rfl
 ·rw[j_ n objs id hlim]at ho
  obtain⟨b,o',h1,h2,h3⟩:=KU _ (mc ho) hrl;exact⟨b,o',h1,h2,h3,λhk=>hk.2.2 _ (f7 h1) rfl⟩
 ·rw[j_ n objs id hlim]at ho
  obtain⟨h1,h2,h3⟩:=hg _ (mc ho) g hgn;exact⟨h1,h2,F,h3,λj hj=>⟨hF j hj,λhk=>hk.2.1 hj⟩,λx ox b _ h5=>Nq _ (f7 h5)⟩
def IB:Value->Bool
 | .pointer (some ⟨_,_,none⟩)=>true
 | .pointer none | .slice none 0 0 | .map none | .nilFunc | .nilIface=>true
 | .complex .f32 _ 0=>true
 | .complex .f32 _ (_+2)=>true
 | v=>dp v
def rH(κ:ag):Value->Value
 | .pointer (some ⟨id,off,none⟩)=>.pointer (some ⟨(κ id).getD 0,off,none⟩)
 | .complex .f32 id 0=>dec ((κ id).getD 0)
 | .complex .f32 id (j+2)=>aq j (dec ((κ id).getD 0))
 | v=>lK aL.val v
theorem me{κ:ag}{v v':Value}(h:aw κ v v')(hk:IB v=true):v'=rH κ v:=by
 cases h with
 | ptr id off b h=>simp[rH,h]
 | lM=>rfl
 | cz=>rfl
 | kU=>rfl
 | nilFunc=>rfl
 | nilIface=>rfl
 | sym n m _ h=>exact h.symm
 | dyn id c _ h h'=>simp[rH,h,h']
 | oR id c j _ h h'=>simp[rH,h,h']
 | bool=>rfl
 | int=>rfl
 | float=>rfl
 | string=>rfl
 | _=>first | cases hk | (simp[IB,dp]at hk)
theorem ly{P:Program}{base:Nat->Prop}{ι κ:ag}{s s1:St}{w w1:World}(g:Goes P base ι κ s s1 w w1){id:Nat}{c:Array Value}{e:TypeId}(h:s1.look id=some (.cells c e (0,0)))(hg:gG id=false) :
  ∃ b c',κ id=some b/\w1.heap[b]? = some (.cells c' e (0,0))/\¬ base b/\bk κ c c':=by
 obtain⟨b,o',h1,h2,h3,h4⟩:=g.rep.there id _ h rfl;obtain⟨_,c',rfl,k1,k2,k3,_⟩:=h3;exact⟨b,c',h1,h2,h4,k2 hg,k3⟩
theorem xh{κ:ag}{c c':Array Value}(h:bk κ c c')(hk:c.toList.all IB=true):c'=(c.toList.map (rH κ)).toArray:=by
 rw[List.all_eq_true]at hk;apply Array.ext (by simp[h.1]);intro i h1 h2;have h3:i<c.size:=by rw[h.1];exact h1
 rw[me (h.2 i _ _ (Array.getElem?_eq_getElem h3) (Array.getElem?_eq_getElem h1)) (hk _ (by rw[Array.mem_toList_iff];exact Array.getElem_mem h3))];simp
theorem xi{P:Program}{base:Nat->Prop}{ι κ:ag}{s s1:St}{w w1:World}(g:Goes P base ι κ s s1 w w1){k:Nat}(h:s1.look 3=some (lV k)) :
  ∃ F:Nat->Prop,aL.GR k κ F w1/\(∀ j,F j->j<w1.heap.size/\¬ base j)/\∀ x ox b,s1.look x=some ox->κ x=some b->¬ F b:=by
 obtain⟨_,_,F,h1,h2,h3⟩:=g.rep.gh 3 _ k h rfl;exact⟨F,h1,h2,h3⟩
abbrev g_:=Nat×List Value×TypeId
noncomputable def Ce(s:St)(q:g_):Bool :=
 match Tr.gt deep s.heap q.1 with
 | some (.cells c e (0,0))=>oe (xe 4) c.toList q.2.1&&Nat.beq e q.2.2
 | _=>false
noncomputable def HO(s:St):Option Nat->Bool
 | none=>true
 | some g=>(match Tr.gt deep s.heap 3 with | some (.view ⟨b,0,none⟩ 0)=>Nat.beq b g | _=>false)
noncomputable def qS(r:Value)(bl:List g_)(g:Option Nat):Option (Value×St)->Bool
 | some (v,s)=>xe 4 v r&&(bl.all (Ce s)&&HO s g)
 | none=>false
theorem u5{r:Value}{bl:List g_}{g:Option Nat}{v:Value}{s:St}(h:qS r bl g (some (v,s))=true) :
  v=r/\(∀ q ∈ bl,s.look q.1=some (.cells q.2.1.toArray q.2.2 (0,0)))/\∀ k,g=some k->s.look 3=some (lV k):=by
 unfold qS at h;simp only[Bool.and_eq_true]at h;obtain⟨h1,h2,h3⟩:=h;rw[List.all_eq_true]at h2;refine⟨lx _ _ _ h1,λq hq=>?_,λk hk=>?_⟩
 ·have:=h2 q hq
  unfold Ce at this
  split at this
  ·rename_i c e hl
   rw[Bool.and_eq_true]at this;rw[Tr.BR]at hl;show s.heap.get deep q.1=_;rw[hl,← i7 (lx 4) this.1,Nat.eq_of_beq_eq_true this.2]
  ·cases this
 ·subst hk
  simp only[HO]at h3
  split at h3
  ·rename_i b hl
   rw[Tr.BR]at hl;show s.heap.get deep 3=_;rw[hl,Nat.eq_of_beq_eq_true h3];rfl
  ·cases h3
end Go.Ev
namespace Go.Ev
open Go.RowKit
structure aK where
 p:ag->(Nat->Prop)->World->Prop
 keep:∀ ι F w w',(∀ j,F j->w'.heap[j]? = w.heap[j]?)->p ι F w->p ι F w'
 mono:∀ ι κ F w,ib ι κ->p ι F w->p κ F w
noncomputable def cy:Op->Option (List Nat)
 | .load t _=>some [1,t]
 | .store t _ _=>some [2,t]
 | .indexAddr t _ _=>some [3,t]
 | .slice t _ lo hi mx=>some [4,t,(match lo with | some _=>1 | none=>0),(match hi with | some _=>1 | none=>0),(match mx with | some _=>1 | none=>0)]
 | .lookup t _ _ ok=>some [5,t,(match ok with | true=>1 | false=>0)]
 | .mapUpdate t _ _ _=>some [6,t]
 | .fieldAddr t _ f=>some [7,t,f]
 | .index t _ _=>some [8,t]
 | .nilCheck _=>some [9]
 | .call { callee:=.builtin .len,args:=⟨[_]⟩,argTypes:=⟨[t]⟩ }=>some [10,t]
 | .call { callee:=.builtin .append,args:=⟨[_,_]⟩,argTypes:=⟨[t,u]⟩ }=>some [11,t,u]
 | .call { callee:=.builtin .delete,args:=⟨[_,_]⟩,argTypes:=⟨[t,u]⟩ }=>some [12,t,u]
 | .call { callee:=.builtin .min,args:=⟨[_,_]⟩,argTypes:=⟨[t,u]⟩ }=>some [16,t,u]
 | .call { callee:=.builtin .max,args:=⟨[_,_]⟩,argTypes:=⟨[t,u]⟩ }=>some [17,t,u]
 | .range t _=>some [13,t]
 | .next _ b=>some [14,(match b with | true=>1 | false=>0)]
 | .entry _=>some [15]
 | .makeMap t none=>some [18,t]
 | .makeSlice t _ _=>some [19,t]
 | .binOp .eql t _ _ _=>some [20,t]
 | .binOp .neq t _ _ _=>some [21,t]
 | .mapEntry t _ _=>some [22,t]
 | .entryStore t _ _ _=>some [23,t]
 | .buildSlice t 1 ⟨[(0,_)]⟩=>some [24,t]
 | _=>none
noncomputable def IC:List Nat->List Nat->Bool
 | [],[]=>true
 | x::l,y::m=>Nat.beq x y&&IC l m
 | _,_=>false
theorem xj:∀ {l m:List Nat},IC l m=true->l=m:=by
 intro l
 induction l with
 | nil=>intro m h;cases m with | nil=>rfl | cons y m=>cases h
 | cons x l ih =>
  intro m h;cases m with
  | nil=>cases h
  | cons y m =>
   have h':(Nat.beq x y&&IC l m)=true:=h;rw[Bool.and_eq_true]at h';rw[Nat.eq_of_beq_eq_true h'.1,ih h'.2]
structure og where
 key:List Nat
 vals:List Value
 src:Option (Nat×Nat×List Value)
 g:Nat
 d:Option Nat
 r:Value
 ng:Option Nat
structure kK where
 f:FuncId
 args:List Value
 g:Nat
 d:Option Nat
 r:Value
 ng:Option Nat
noncomputable def KW:Option Nat->Nat->Bool
 | none,_=>true
 | some x,d=>Nat.beq x d
theorem Cf{x:Option Nat}{d:Nat}(h:KW x d=true):∀ y,x=some y->y=d:=by
 intro y e;subst e;exact Nat.eq_of_beq_eq_true h
noncomputable def Jn(c:List Value):Option (Nat×Nat×List Value)->Bool
 | none=>false
 | some (_,_,l)=>oe (xe 4) c l
noncomputable def Jo:Bool->List Value->Option (Nat×Nat×List Value)->Bool
 | true,c,x=>Jn c x
 | false,_,none=>true
 | false,_,some _=>false
noncomputable def u6(src:Bool)(key:List Nat)(vals c:List Value)(g d:Nat):List og->Option (Value×Option Nat)
 | []=>none
 | q::l=>if IC key q.key&&(oe (xe 4) (vals.take q.vals.length) q.vals&&(Nat.beq g q.g&&(KW q.d d&&Jo src c q.src))) then some (q.r,q.ng) else u6 src key vals c g d l
noncomputable def HP(sz j:Nat):Bool:=Nat.beq j 7&&Nat.beq sz 0
noncomputable def Cg:Option (Nat×Nat×List Value)->Bool
 | none=>false
 | some (sz,j,_)=>HP sz j
noncomputable def y7(rows:List og)(key:List Nat)(vals:List Value):List og->Option oa
 | []=>none
 | q::l=>if IC key q.key&&oe (xe 4) (vals.take q.vals.length) q.vals then (match q.src with | none=>some (.now (λg d=>u6 false key vals [] g d rows)) | some (sz,j,_)=>@Bool.rec (λ_=>Option oa) (some (.src sz j (λc g d=>u6 true key vals c g d (rows.filter (λr=>match r.src with | some (sz',j',_)=>Nat.beq sz' sz&&Nat.beq j' j | none=>false))))) (some (.stay q.r)) (HP sz j)) else y7 rows key vals l
noncomputable def KX:List Value->Bool
 | .complex _ _ _::_=>true
 | _::.complex _ _ _::_=>true
 | _=>false
noncomputable def KY:Op->Bool
 | .makeMap _ _=>true
 | .makeSlice _ _ _=>true
 | .call { callee:=.builtin .append,args:=⟨[_,_]⟩,argTypes:=⟨[_,_]⟩ }=>true
 | _=>false
noncomputable def Ch(rows:List og)(op:Op)(vals:List Value):Option oa :=
 @Bool.rec (λ_=>Option oa) none (match cy op with | some k=>y7 rows k vals rows | none=>none) (KY op||KX vals)
noncomputable def pw(f:FuncId)(args:List Value)(g d:Nat):List kK->Option (Value×Option Nat)
 | []=>none
 | q::l=>if Nat.beq f q.f&&(oe (xe 4) args q.args&&(Nat.beq g q.g&&KW q.d d)) then some (q.r,q.ng) else pw f args g d l
noncomputable def px(rows:List kK)(f:FuncId)(args:List Value):List kK->Option GQ
 | []=>none
 | q::l=>if Nat.beq f q.f&&oe (xe 4) args q.args then some (λg d=>pw f args g d rows) else px rows f args l
theorem u7{src:Bool}{key:List Nat}{vals c:List Value}{g d:Nat}{r:Value}{ng:Option Nat} : ∀ {l:List og},u6 src key vals c g d l=some (r,ng)->
  ∃ q ∈ l,q.key=key/\q.vals=vals.take q.vals.length/\q.g=g/\(∀ y,q.d=some y->y=d)/\q.r=r/\q.ng=ng/\(match src with | true=>∃ sz j,q.src=some (sz,j,c) | false=>q.src=none):=by
 intro l
 induction l with
 | nil=>intro h;cases h
 | cons q l ih =>
  intro h;unfold u6 at h
  split at h
  ·rename_i hc
   simp only[Bool.and_eq_true]at hc;obtain⟨h1,h2,h3,h4,h5⟩:=hc;cases h;refine⟨q,List.mem_cons_self ..,(xj h1).symm,(i7 (lx 4) h2).symm,(Nat.eq_of_beq_eq_true h3).symm,Cf h4,rfl,rfl,?_⟩;cases src with
   | true =>
    cases hs:q.src with
    | none=>rw[hs]at h5;cases h5
    | some x =>
     obtain⟨sz,j,l0⟩:=x;rw[hs]at h5;exact⟨sz,j,by rw[i7 (lx 4) (show oe (xe 4) c l0=true from h5)]⟩
   | false =>
    cases hs:q.src with
    | none=>rfl
    | some x=>rw[hs]at h5;cases h5
  ·obtain⟨q',h1,h2⟩:=ih h
   exact⟨q',List.mem_cons_of_mem _ h1,h2⟩
theorem Aw{f:FuncId}{args:List Value}{g d:Nat}{r:Value}{ng:Option Nat} : ∀ {l:List kK},pw f args g d l=some (r,ng)->
  ∃ q ∈ l,q.f=f/\q.args=args/\q.g=g/\(∀ y,q.d=some y->y=d)/\q.r=r/\q.ng=ng:=by
 intro l
 induction l with
 | nil=>intro h;cases h
 | cons q l ih =>
  intro h;unfold pw at h
  split at h
  ·rename_i hc
   simp only[Bool.and_eq_true]at hc;obtain⟨h1,h2,h3,h4⟩:=hc;cases h;exact⟨q,List.mem_cons_self ..,(Nat.eq_of_beq_eq_true h1).symm,(i7 (lx 4) h2).symm,(Nat.eq_of_beq_eq_true h3).symm,Cf h4,rfl,rfl⟩
  ·obtain⟨q',h1,h2⟩:=ih h
   exact⟨q',List.mem_cons_of_mem _ h1,h2⟩
structure Kn where
 val:Nat->Value
 leaf:∀ n,aR (val n)=true
 bs:List qP
 us:List qQ
 cs:List qR
 ks:List yW
 hb:∀ q ∈ bs,Cb val q
 hu:∀ q ∈ us,Cc val q
 hc:∀ q ∈ cs,y5 val q
 gs:List aK
 ops:List og
 cls:List kK
@[reducible] noncomputable def Kn.sig(k:Kn):aL where
 val:=k.val
 leaf:=k.leaf
 bin:=λop x y=>yX op x y k.bs
 wj:=λop x y r h=>by
  obtain⟨h1,h2,h3,h4⟩:=B_ h;exact⟨h2,h3,h4,k.hb _ h1⟩
 J2:=λop x=>yY op x k.us
 wk:=λop x r h=>by
  obtain⟨h1,h2,h3⟩:=B' h;exact⟨h2,h3,k.hu _ h1⟩
 J3:=λkd x=>yZ kd x k.cs
 wm:=λkd x r h=>by
  obtain⟨h1,h2,h3⟩:=Ca h;exact⟨h2,h3,k.hc _ h1⟩
 EK:=λf l=>y4 f l k.ks
 yv:=λf l r h=>(u4 h).2.2
 GR:=λg ι F w=>∃ a,k.gs[g]? = some a/\a.p ι F w
 rz:=λg ι F w w' h ⟨a,h1,h2⟩=>⟨a,h1,a.keep ι F w w' h h2⟩
 rA:=λg ι κ F w h ⟨a,h1,h2⟩=>⟨a,h1,a.mono ι κ F w h h2⟩
 EG:=λop vals=>Ch k.ops op vals
 tW:=λf args=>px k.cls f args k.cls
def KZ(k:Kn)(P:Program)(q:og):Prop :=
 letI:aL:=k.sig
 ∀ (o:Oper),cy o.op=some q.key->∀ (ev:Operand->Value) (ι:ag) (F:Nat->Prop) (w:World) (d:Nat),cx ι q.vals ((o.op.operands.toList.map ev).take q.vals.length)->
  (∀ sz j c,q.src=some (sz,j,c)->∃ (y:Value) (c':Array Value) (m:Nat),(o.op.operands.toList.map ev)[j]? = some y/\cx ι c c'.toList/\c.length=m*sz/\c.all oneCell=true/\(∀ w':World,w'.heap=w.heap->(Builtin.firstCells sz m y).run P w'=.ok c' w')/\(∀ w':World,(Builtin.lenOf y).run P w'=.ok m w'))->
  (∃ a,k.gs[q.g]? = some a/\a.p ι F w)->(∀ j,F j->j<w.heap.size)->(ι d=none\/q.ng=none)->(∀ y,q.d=some y->y=d)->
  ∃ n v' w',(execOp ev o).run P w=.ok n w'/\(n=.value v'\/n=.skip/\v'=undef)/\si ι d F w q.r q.ng v' w'
def aD(k:Kn)(P:Program)(q:og):Prop:=match Cg q.src with
 | true=>∀ g,KZ k P ⟨q.key,q.vals,none,g,none,q.r,none⟩
 | false=>KZ k P q
def dn(k:Kn)(P:Program)(q:kK):Prop :=
 letI:aL:=k.sig
 ∀ (ι:ag) (args':Array Value) (F:Nat->Prop) (w:World) (d:Nat),cx ι q.args args'.toList->
  (∃ a,k.gs[q.g]? = some a/\a.p ι F w)->(∀ j,F j->j<w.heap.size)->(ι d=none\/q.ng=none)->(∀ y,q.d=some y->y=d)->
  Calls P q.f args' w λe w'=>∃ v',e=.returned v'/\si ι d F w q.r q.ng v' w'
theorem sF{op:Op}{k:List Nat}(h:cy op=some k):∀ c,op≠.defer c:=by
 intro c e;subst e;cases h
theorem Ci{rows:List og}{key:List Nat}{vals:List Value}{rq:oa} : ∀ {l:List og},(∀ q ∈ l,q ∈ rows)->y7 rows key vals l=some rq->∀ c g d r ng,rq.q c g d=some (r,ng)->
  ∃ q ∈ rows,q.key=key/\q.vals=vals.take q.vals.length/\((Cg q.src=true/\q.r=r/\ng=none)\/(Cg q.src=false/\q.g=g/\(∀ y,q.d=some y->y=d)/\q.r=r/\q.ng=ng/\(∀ sz j c',q.src=some (sz,j,c')->c'=c/\∃ q',rq=.src sz j q'))):=by
 intro l
 induction l with
 | nil=>intro _ h;cases h
 | cons q0 l ih =>
  intro hl h;unfold y7 at h
  split at h
  ·rename_i hc
   split at h
   ·cases h
    intro c g d r ng hx;obtain⟨q,h1,h2,h3,h4,h5,h6,h7,h8⟩:=u7 hx;exact⟨q,h1,h2,h3,.inr ⟨by rw[h8];rfl,h4,h5,h6,h7,λsz j c' e=>by rw[h8]at e;cases e⟩⟩
   ·rename_i sz j c0 e0
    cases hst:HP sz j with
    | true =>
     rw[hst]at h;cases h;intro c g d r ng hx;cases hx;rw[Bool.and_eq_true]at hc;exact⟨q0,hl _ List.mem_cons_self,(xj hc.1).symm,(i7 (lx 4) hc.2).symm,.inl ⟨by rw[e0];exact hst,rfl,rfl⟩⟩
    | false =>
     rw[hst]at h;cases h;intro c g d r ng hx;obtain⟨q,h1,h2,h3,h4,h5,h6,h7,PJ,j2,h8⟩:=u7 hx;obtain⟨m1,m2⟩:=List.mem_filter.1 h1;rw[h8]at m2;simp only[Bool.and_eq_true]at m2;have e1:=Nat.eq_of_beq_eq_true m2.1;have e2:=Nat.eq_of_beq_eq_true m2.2;subst e1 e2;refine⟨q,m1,h2,h3,.inr ⟨by rw[h8];exact hst,h4,h5,h6,h7,λsz j c' e=>?_⟩⟩;rw[h8]at e;cases e;exact⟨rfl,_,rfl⟩
  ·exact ih (λq hq=>hl q (List.mem_cons_of_mem _ hq)) h
theorem Ay{rows:List kK}{f:FuncId}{args:List Value}{q:GQ} : ∀ {l:List kK},px rows f args l=some q->q=λg d=>pw f args g d rows:=by
 intro l
 induction l with
 | nil=>intro h;cases h
 | cons q0 l ih =>
  intro h;unfold px at h
  split at h
  ·cases h;rfl
  ·exact ih h
theorem Kn.ok(k:Kn){P:Program}(hk:∀ q ∈ k.ks,Jm P k.val q)(ho:∀ q ∈ k.ops,aD k P q)(hl:∀ q ∈ k.cls,dn k P q):@dV k.sig P:=by
 letI:aL:=k.sig;refine⟨?_,?_,?_⟩
 ·intro f args r h ι args' w ha
  obtain⟨h1,h2,h3⟩:=u4 h;have he:args'=(args.toList.map (KR k.val)).toArray:=by
   apply Array.ext (by simp[ha.1]);intro i g1 g2;have g3:i<args.size:=by rw[ha.1];exact g1
   have:=Fq (ha.2 i _ _ (Array.getElem?_eq_getElem g3) (Array.getElem?_eq_getElem g1)) (h2 _ (by rw[Array.mem_toList_iff];exact Array.getElem_mem g3));rw[this];simp;rfl
  rw[he];refine(hk _ h1 w).mono ?_;rintro e w' ⟨rfl,hb'⟩;exact⟨_,rfl,oj h3,hb'⟩
 ·intro op vals rq h
  have h':Ch k.ops op vals=some rq:=h;unfold Ch at h';obtain⟨_,h2⟩:=bO h'
  split at h2
  case h_2=>cases h2
  rename_i key hkey;refine⟨sF hkey,λc g d r ng hx o ev ι F w hop hv hsrc hg hF hd=>?_⟩;obtain⟨q,m1,e1,e2,hor⟩:=Ci (λ_ h=>h) h2 c g d r ng hx;subst hop;have hv0:∀ m,cx ι (vals.take m) ((o.op.operands.toList.map ev).take m):=by
   intro m;refine⟨by rw[List.length_take,List.length_take,hv.1],λj x y h1 h2=>?_⟩;rw[List.getElem?_take]at h1 h2
   split at h1
   ·rw[if_pos (by assumption)]at h2
    exact hv.2 j x y h1 h2
   ·cases h1
  have hv':=hv0 q.vals.length;rw[← e2]at hv';have hq:=ho q m1;unfold aD at hq;rcases hor with ⟨s1,rfl,rfl⟩ | ⟨s1,rfl,e4,rfl,rfl,e7⟩
  ·rw[s1]at hq
   exact hq g o (by rw[hkey,e1]) ev ι F w d hv' (λsz j c' e=>by cases e) hg hF hd (λy e=>by cases e)
  ·rw[s1]at hq
   exact hq o (by rw[hkey,e1]) ev ι F w d hv' (λsz j c' e=>by
    obtain⟨rfl,q',hq'⟩:=e7 sz j c' e
    exact hsrc sz j q' hq') hg hF hd e4
 ·intro f args q h g d r ng hx ι args' F w ha hg hF hd
  have h':px k.cls f args.toList k.cls=some q:=h;rw[Ay h']at hx;obtain⟨q',m1,e1,e2,e3,e4,e5,e6⟩:=Aw hx;subst e1 e3 e5 e6;exact hl q' m1 ι args' F w d (by rw[e2];exact ha.list) hg hF hd e4
end Go.Ev
