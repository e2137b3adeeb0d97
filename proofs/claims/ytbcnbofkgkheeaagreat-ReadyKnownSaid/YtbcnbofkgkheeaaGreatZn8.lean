/- Part of a proof: see the last text. -/
import Derived.Test.YtbcnbofkgkheeaaGreatZn7
import GoSem.Core.CheckCode
set_option linter.unusedSectionVars false
set_option linter.unusedSimpArgs false
set_option linter.unusedVariables false
namespace Go.Ev
open Go.RowKit
variable[aP]
theorem bind_ok{ε α β:Type}{x:Except ε α}{f:α->Except ε β}{r:β}(h:x >>= f=.ok r):∃ a,x=.ok a/\f a=.ok r:=by
 cases x with
 | error e=>cases h
 | ok a=>exact⟨a,rfl,h⟩
theorem forM_ok{ε α:Type}{f:α->Except ε Unit} : ∀ {l:List α},l.forM f=.ok ()->∀ x ∈ l,f x=.ok ():=by
 intro l
 induction l with
 | nil=>intro _ x hx;cases hx
 | cons y rest ih =>
  intro h x hx;obtain⟨u,h1,h2⟩:=bind_ok (show f y >>= (λ_=>rest.forM f)=.ok () from h);rcases List.mem_cons.1 hx with e | e
  ·rw[e];exact h1
  ·exact ih h2 x e
theorem require_ok{b:Bool}{m:String}(h:CheckCode.require b m=.ok ()):b=true:=by
 cases b with
 | true=>rfl
 | false=>cases h
theorem bf.seq{P:Program}{x y:Code}(h:bf P (.seq x y)):bf P x/\bf P y:=by
 obtain⟨fn,bl,lb,h⟩:=h;unfold CheckCode.code at h;obtain⟨_,h1,h2⟩:=bind_ok h;exact⟨⟨fn,bl,lb,h1⟩,⟨fn,bl,lb,h2⟩⟩
theorem bf.cond{P:Program}{c:Operand}{x y:Code}(h:bf P (.cond c x y)):bf P x/\bf P y:=by
 obtain⟨fn,bl,lb,h⟩:=h;unfold CheckCode.code at h;obtain⟨_,_,h⟩:=bind_ok h;obtain⟨_,h1,h2⟩:=bind_ok h;exact⟨⟨fn,bl,lb,h1⟩,⟨fn,bl,lb,h2⟩⟩
theorem bf.block{P:Program}{id:Nat}{x:Code}(h:bf P (.block id x)):bf P x:=by
 obtain⟨fn,bl,lb,h⟩:=h;unfold CheckCode.code at h;exact⟨fn,_,_,h⟩
theorem bf.loop{P:Program}{x:Code}(h:bf P (.loop x)):bf P x:=by
 obtain⟨fn,bl,lb,h⟩:=h;unfold CheckCode.code at h;exact⟨fn,_,_,h⟩
theorem bf.scope{P:Program}{x:Code}(h:bf P (.scope x)):bf P x:=by
 obtain⟨fn,bl,lb,h⟩:=h;unfold CheckCode.code at h;exact⟨fn,_,_,h⟩
theorem Ck{P:Program}{fn:Func}{bl lb:List Nat}{l:Nat} : ∀ {c rest:Code},CheckCode.code P fn bl lb c=.ok ()->findLabel c l=some rest->CheckCode.code P fn bl lb rest=.ok ():=by
 intro c
 induction c with
 | seq x y RF ihy =>
  intro rest h hf;unfold CheckCode.code at h;obtain⟨_,h1,h2⟩:=bind_ok h;unfold findLabel at hf
  split at hf
  ·rename_i r hr
   cases hf;have:=RF h1 hr;unfold CheckCode.code;rw[this];exact h2
  ·exact ihy h2 hf
 | label l' =>
  intro rest h hf;unfold findLabel at hf
  split at hf
  ·cases hf;rfl
  ·cases hf
 | _=>intro rest h hf;cases hf
theorem bf.label{P:Program}{c rest:Code}{l:Nat}(h:bf P c)(hf:findLabel c l=some rest):bf P rest:=by
 obtain⟨fn,bl,lb,h⟩:=h;exact⟨fn,bl,lb,Ck h hf⟩
theorem vn{P:Program}{c:Code}{a:Act}{w:World}{Q:Exit->Act->World->Prop}(h:c.wp P (λe a w=>match e with | .goto l=>∃ rest,findLabel c l=some rest/\rest.wp P (Exit.noGoto Q) a w | e=>Q e a w) a w):(Code.scope c).wp P Q a w:=by
 intro b k cs;obtain⟨e,a₁,w₁,hq,harr⟩:=h b (.inScope c::k) cs;cases e with
 | normal=>exact⟨.normal,a₁,w₁,hq,.head step_scope (Steps.trans harr (.one step_inScope))⟩
 | exit id=>exact⟨.exit id,a₁,w₁,hq,λk' hk=>.head step_scope (harr k' (by simp[exitTo,hk]))⟩
 | goto l =>
  obtain⟨rest,hf,hr⟩:=hq;have hg:gotoIn l (.inScope c::k)=some (.code rest::.inScope c::k):=by simp[gotoIn,hf]
  obtain⟨e₂,a₂,w₂,hq₂,harr₂⟩:=hr b (.inScope c::k) cs;cases e₂ with
  | normal=>exact⟨.normal,a₂,w₂,hq₂,.head step_scope (Steps.trans (harr _ hg) (Steps.trans harr₂ (.one step_inScope)))⟩
  | exit id=>exact⟨.exit id,a₂,w₂,hq₂,λk' hk=>.head step_scope (Steps.trans (harr _ hg) (harr₂ k' (by simp[exitTo,hk])))⟩
  | goto l'=>exact hq₂.elim
  | ret=>exact⟨_,a₂,w₂,hq₂,.of_steps (.head step_scope (harr _ hg)) harr₂⟩
  | panic ch=>exact⟨_,a₂,w₂,hq₂,.of_steps (.head step_scope (harr _ hg)) harr₂⟩
  | outgrown=>exact⟨_,a₂,w₂,hq₂,.of_steps (.head step_scope (harr _ hg)) harr₂⟩
 | ret=>exact⟨_,a₁,w₁,hq,.of_steps (.one step_scope) harr⟩
 | panic ch=>exact⟨_,a₁,w₁,hq,.of_steps (.one step_scope) harr⟩
 | outgrown=>exact⟨_,a₁,w₁,hq,.of_steps (.one step_scope) harr⟩
theorem bf.region{P:Program}{id:Nat}{ops:Array Oper}{draw:Bool}(h:bf P (.region id ops draw)):Region.ok P.types ops draw=true:=by
 obtain⟨fn,bl,lb,h⟩:=h;unfold CheckCode.code at h;unfold CheckCode.region at h;obtain⟨_,_,h⟩:=bind_ok h;obtain⟨_,_,h⟩:=bind_ok h;exact require_ok h
theorem bf.rangeFunc{P:Program}{g:Operand}{ps:Array Tmp}{x y:Code}(h:bf P (.rangeFunc g ps x y)):bf P x/\bf P y:=by
 obtain⟨fn,bl,lb,h⟩:=h;unfold CheckCode.code at h;obtain⟨_,_,h⟩:=bind_ok h;obtain⟨_,_,h⟩:=bind_ok h;obtain⟨_,_,h⟩:=bind_ok h;obtain⟨_,h1,h2⟩:=bind_ok h;exact⟨⟨fn,_,_,h1⟩,⟨fn,_,_,h2⟩⟩
theorem xy{P:Program}(hP:P.check=.ok ()){f:FuncId}{fn:Func}{body:Code}(hf:P.funcs[f]? = some fn)(hb:fn.body=some body):bf P body:=by
 unfold Program.check at hP;obtain⟨_,h,_⟩:=bind_ok hP;have hlt:f<P.funcs.size:=(Array.getElem?_eq_some_iff.1 hf).1;have h1:=forM_ok h f (List.mem_range.2 hlt);unfold CheckCode.funcAt at h1;rw[hf]at h1;dsimp only at h1;have h2:CheckCode.func P fn=.ok ():=by
  cases hx:CheckCode.func P fn with
  | ok u=>rfl
  | error e=>rw[hx]at h1;cases h1
 unfold CheckCode.func at h2;obtain⟨_,_,h2⟩:=bind_ok h2;obtain⟨_,_,h2⟩:=bind_ok h2;obtain⟨_,_,h2⟩:=bind_ok h2;rw[hb]at h2;dsimp only at h2;obtain⟨_,_,h2⟩:=bind_ok h2;obtain⟨_,h3,_⟩:=bind_ok h2;exact⟨fn,[],[],h3⟩
def FQ(P:Program)(base:Nat->Prop)(run:Runner):Prop :=
 ∀ rd c a s ex a1 s1,run rd c a s=some (ex,a1,s1)->bf P c->nP s s.next s1.next->∀ (ι:ag) (ro:Option Nat) (A:Act) (w:World),oS ι rd ro->bQ ι a A->dg P base ι s.look w->da ι s s1->∀ Q:Exit->Act->World->Prop,
  (∀ κ A1 w1,bQ κ a1 A1->Goes P base ι κ s s1 w w1->Q ex A1 w1)->c.wpIn (FR ro) 0 P Q A w
theorem dh.next{run:Runner}(hl:dh run){rd:Option Nat}{c:Code}{a a1:Act}{s s1:St}{e:Exit}(h:run rd c a s=some (e,a1,s1)):s.next<=s1.next :=
 (hl rd c a).next (r:=(e,a1)) (by unfold uU;rw[h])
theorem dh.win{run:Runner}(hl:dh run){rd:Option Nat}{c:Code}{a a1:Act}{s s1:St}{e:Exit}(h:run rd c a s=some (e,a1,s1)){m:Nat}(hw:nP s s.next m)(hm:s1.next<=m):nP s1 s1.next m :=
 (hl rd c a).win (r:=(e,a1)) (by unfold uU;rw[h]) hw hm
theorem jd{α β:Type}{P:Program}{base:Nat->Prop}{R:ag->α->β->Prop}{ι:ag}{m:Sem α}{m':Sem β}(h:aq P base R ι m m'){s s1:St}{w:World}{x:α}(hr:dg P base ι s.look w)(hx:az P m s=some (x,s1))(hfr:da ι s s1) :
  ∃ κ y w1,m'.run P w=.ok y w1/\R κ x y/\Goes P base ι κ s s1 w w1:=by
 obtain⟨κ,y,w1,h1,h2,h3,h4,h5⟩:=h s w x s1 hr hx hfr;exact⟨κ,y,w1,h1,h4,h2,h3,h5⟩
theorem rx{P:Program}{base:Nat->Prop}{fn:Func}{T:Array Value}{R:Ending->World->Prop} : ∀ (ds ds':List Deferred) (s s1:St) (ι:ag) (w:World),nF ι ds ds'->kO P ds s=some ((),s1)->dg P base ι s.look w->da ι s s1->
  (∀ κ w1,Goes P base ι κ s s1 w w1->LeavesInM Fence.wide 0 P fn T R [] .returning w1)->LeavesInM Fence.wide 0 P fn T R ds' .returning w:=by
 intro ds
 induction ds with
 | nil =>
  intro ds' s s1 ι w hd h hr hfr hg;cases hd;cases h;exact hg ι w (Goes.refl hr)
 | cons d ds ih =>
  intro ds' s s1 ι w hd h hr hfr hg;cases hd with
  | cons r r' l l' hr' ht =>
   simp only[kO]at h
   split at h
   ·rename_i x s2 hx
    have n1:=cV P _ _ _ _ hx;have n2:=(iI P ds).next h
    obtain⟨κ,y,w1,h1,⟨e1,e2⟩,g⟩:=jd (qf (P:=P) (base:=base) hr') hr hx (hfr.left n2);subst e2;refine⟨(λh=>by cases h),.inl ⟨r',w1,rfl,h1,?_⟩⟩;exact ih l' s2 s1 κ w1 (ht.mono (g.le (hfr.left n2))) h g.rep (hfr.right g n1) (λμ w2 g2=>hg μ w2 (g.trans g2 n1 n2))
   ·cases h
theorem vN{P:Program}{base:Nat->Prop}(hP:P.check=.ok ())(cY:di P){run:Runner}(hl:dh run)(hrun:FQ P base run) :
  ∀ f args s v s1,ig P run f args s=some (v,s1)->nP s s.next s1.next->∀ ι args' w,dg P base ι s.look w->bh ι args args'->da ι s s1->
   Calls P f args' w λe w1=>∃ κ v',e=.returned v'/\Goes P base ι κ s s1 w w1/\ao κ v v':=by
 intro f args s v s1 h hwin;unfold ig at h
 split at h
 ·rename_i r hq
  cases h;intro ι args' w hr ha hfr;refine(cY.Mb f args _ hq ι args' w ha).mono ?_;rintro e w1 ⟨v',rfl,hv,hb⟩;exact⟨ι,v',rfl,Goes.vL hr hb _ (λ_=>rfl),hv⟩
 ·split at h
  ·rename_i q hq
   intro ι args' w hr ha hfr;obtain⟨g,F,ng,g1,g2,g3,g4,g5⟩:=oj h hwin hr hfr;refine(cY.wL f args q hq g _ _ ng g1 ι args' F w ha g2 g3 g4).mono ?_;rintro e w1 ⟨v',rfl,hg⟩;obtain⟨κ,gg,hv⟩:=g5 v' w1 hg;exact⟨κ,v',rfl,gg,hv⟩
  split at h
  case h_2=>cases h
  rename_i fn hf
  split at h
  ·rename_i body hb
   split at h
   ·rename_i ex a s2 hr1
    unfold jW at h
    split at h
    ·rename_i hex
     split at h
     ·rename_i s3 hmk
      have n1:=hl.next hr1
      have n2:=(iI P a.defers).next hmk
      have n3:=cV P _ _ _ _ h;have hs:=hrun _ _ _ _ _ _ _ hr1 (xy hP hf hb) (hwin.left (Nat.le_trans n2 n3));intro ι args' w hr ha hfr;refine callsIn_wide.1 (callsIn_of_wp_marks (F:=Fence.wide) (n:=0) hf hb trivial ?_);have hact:bQ ι { tmps:=args++Array.replicate (fn.ntmps-args.size) undef,defers:=[] } { tmps:=args'++Array.replicate (fn.ntmps-args'.size) undef,defers:=[] }:=by
       refine⟨?_,.nil⟩;rw[ha.1];refine ha.append (bh.of_flat (λi x hx=>?_));rw[Array.getElem?_replicate]at hx
       split at hx
       ·cases hx;exact e9 ι
       ·cases hx
      refine hs ι none _ w trivial hact hr (hfr.left (Nat.le_trans n2 n3)) _ (λκ A1 w1 hA1 g=>?_);have f1:=hfr.right g n1;have fin:LeavesInM Fence.wide 0 P fn A1.tmps (λe w1=>∃ κ v',e=.returned v'/\Goes P base ι κ s s1 w w1/\ao κ v v') A1.defers .returning w1:=by
       refine rx a.defers A1.defers s2 s3 κ w1 hA1.Ml hmk g.rep (f1.left n3) (λμ w2 g2=>?_);have f2:=f1.right g2 n2;obtain⟨ν,v',w3,r1,r4,g3⟩:=jd (rl (P:=P) (base:=base) fn (hA1.tmps.mono (g2.le (f1.left n3)))) g2.rep h f2;have hw:=nM (P:=P) fn A1.tmps w2 v' w3 r1;subst hw;exact⟨v',r1,ν,v',rfl,g.trans (g2.trans g3 n2 n3) n1 (Nat.le_trans n2 n3),r4⟩
      cases ex with
      | normal=>exact fin
      | ret=>exact fin
      | _=>cases hex
     ·cases h
    ·cases h
   ·cases h
  ·cases h
theorem FSq{P:Program}{base:Nat->Prop}{run:Runner}(hl:dh run)(hrun:FQ P base run) :
  ∀ l tmps assign body s v s1,oc P run l tmps assign body s=some (v,s1)->bf P assign->bf P body->nP s s.next s1.next->∀ ι l' nI w,dg P base ι s.look w->ι l=some l'->bh ι tmps nI->da ι s s1->
   ∀ f',RoundIn Fence.wide 0 P l' f' nI assign body w λe w1=>∃ κ v',e=.returned v'/\Goes P base ι κ s s1 w w1/\ao κ v v':=by
 intro l tmps assign body s v s1 h o1 o2 hwin ι l' nI w hr hl' ht hfr f';unfold oc at h
 split at h
 case h_2=>cases h
 rename_i e1 a1 s2 h1
 split at h
 case isFalse=>cases h
 rename_i hno
 split at h
 case h_2=>cases h
 rename_i u s3 h2
 split at h
 case h_2=>cases h
 rename_i e2 a2 s4 h3;have m1:=hl.next h1
 have m2:=cV P _ _ _ _ h2;have m3:=hl.next h3
 have m4:s4.next<=s1.next:=by
  unfold u_ at h
  split at h
  ·exact cV P _ _ _ _ h
  ·cases h
 have Wk:e1=.normal:=by cases e1<;>first | rfl | cases hno
 subst Wk;refine roundIn_of_wpIn (F:=Fence.wide) trivial ?_;have w2:=hl.win h1 hwin (by omega);have w3:=(bW P (Instr.beginRound l)).win h2 w2 (by omega);refine hrun _ _ _ _ _ _ _ h1 o1 (hwin.left (by omega)) ι (some l') _ w hl' ⟨ht,.nil⟩ hr (hfr.left (by omega)) _ (λκ A1 w1 hA1 g=>?_);have f1:=hfr.right g m1;have k1:κ l=some l':=(g.le (hfr.left (by omega))) _ _ hl';obtain⟨μ,y,w2',r1,_,g2⟩:=jd (sR (P:=P) (base:=base) k1) g.rep h2 (f1.left (by omega));have f2:=f1.right g2 m2;have Q8:=g2.le (f1.left (by omega));refine⟨w2',r1,?_⟩;refine hrun _ _ _ _ _ _ _ h3 o2 (w3.left (by omega)) μ (some l') A1 w2' (Q8 _ _ k1) (hA1.mono Q8) g2.rep (f2.left (by omega)) _ (λν A2 w3' hA2 g3=>?_);have f3:=f2.right g3 m3;have TY:=g3.le (f2.left (by omega));unfold u_ at h
 split at h
 ·rename_i j hj
  obtain⟨ξ,v',w4,q1,q2,g4⟩:=jd (wX (P:=P) (base:=base) (TY _ _ (Q8 _ _ k1)) j) g3.rep h f3;have gg:Goes P base ι ξ s s1 w w4:=g.trans (g2.trans (g3.trans g4 m3 m4) m2 (by omega)) m1 (by omega);cases e2 with
  | normal=>cases hj;exact⟨v',w4,q1,ξ,v',rfl,gg,q2⟩
  | ret=>cases hj;exact⟨v',w4,q1,ξ,v',rfl,gg,q2⟩
  | exit id=>cases hj;exact⟨v',w4,q1,ξ,v',rfl,gg,q2⟩
  | _=>cases hj
 ·cases h
theorem zX{P:Program}{base:Nat->Prop}(hP:P.check=.ok ())(cY:di P){run:Runner}(hl:dh run)(hrun:FQ P base run):oi P base (l3 P run) :=
 ⟨vN hP cY hl hrun,FSq hl hrun⟩
theorem FT{P:Program}{base:Nat->Prop}(hP:P.check=.ok ())(cY:di P){run:Runner}(hl:dh run)(hrun:FQ P base run)(T0:∀ rd c a s,(c=.ret\/∃ id,c=.exit id)->∀ r,run rd c a s=some r->r=(match c with | .ret=>Exit.ret | .exit id=>Exit.exit id | _=>Exit.normal,a,s))
  {rd:Option Nat} {g:Operand} {ps:Array Tmp} {assign body:Code} {a:Act} {s:St} {ex:Exit} {a1:Act} {s1:St} (h:oe P run rd g ps assign body a s=some (ex,a1,s1)) (o1:bf P assign) (o2:bf P body) (hwin:nP s s.next s1.next)
  (ι:ag) (ro:Option Nat) (A:Act) (w:World) (hrd:oS ι rd ro) (hA:bQ ι a A) (hr:dg P base ι s.look w) (hfr:da ι s s1) (Q:Exit->Act->World->Prop)
  (hQ:∀ κ A1 w1,bQ κ a1 A1->Goes P base ι κ s s1 w w1->Q ex A1 w1):(Code.rangeFunc g ps assign body).wpIn (FR ro) 0 P Q A w:=by
 unfold oe at h
 split at h
 case h_2=>cases h
 rename_i l mark s2 h1
 split at h
 case h_2=>cases h
 rename_i f args h2
 split at h
 case h_2=>cases h
 rename_i v s3 h3
 split at h
 case h_2=>cases h
 rename_i j s4 h4
 split at h
 case isFalse=>cases h
 rename_i hj;have m1:=cV P _ _ _ _ h1;have m2:=(kU hl f args).next h3
 have m3:=cV P _ _ _ _ h4;have last:s1=s4/\a1 = { a with defers:=mark++a.defers }/\((j=none/\ex=.normal)\/(j=some .ret/\ex=.ret)\/∃ id,j=some (.exit id)/\ex=.exit id):=by
  cases j with
  | none=>cases h;exact⟨rfl,rfl,.inl ⟨rfl,rfl⟩⟩
  | some c =>
   have hc:c=.ret\/∃ id,c=.exit id:=by
    unfold od at hj
    split at hj
    ·rename_i e;cases e
    ·rename_i e;cases e;exact .inl rfl
    ·rename_i id e;cases e;exact .inr ⟨id,rfl⟩
    ·cases hj
   have:=T0 rd c _ _ hc _ h;rcases hc with rfl | ⟨id,rfl⟩
   ·cases this;exact⟨rfl,rfl,.inr (.inl ⟨rfl,rfl⟩)⟩
   ·cases this;exact⟨rfl,rfl,.inr (.inr ⟨id,rfl,rfl⟩)⟩
 obtain⟨rfl,rfl,Wm⟩:=last;refine wpIn_rangeFunc (λfn _=>?_);obtain⟨κ,⟨l',mark'⟩,w1,q1,⟨k1,k2⟩,g1⟩:=jd (u6 (P:=P) (base:=base) 0 fn ps assign body hA.tmps hrd o1 o2) hr h1 (hfr.left (by omega));have f1:=hfr.right g1 m1;have Tc:=g1.le (hfr.left (by omega));have T1:=(bW P _).win h1 hwin (by omega);unfold gA at h2
 split at h2
 case isFalse=>cases h2
 rename_i hgo
 split at h2
 case h_2=>cases h2
 rename_i f0 first captured hg
 split at h2
 case isFalse=>cases h2
 rename_i hfn;cases h2;have hv:=aE hA g hgo;rw[hg]at hv;generalize Wn:A.eval g=Ag at hv;cases hv with
 | func _ _ f' _ c' hy hf hc h5 h6 =>
  have hargs:bh κ ((first ++ #[.func (.yield l) #[] #[]])++captured) ((f' ++ #[.func (.yield l') #[] #[]])++c'):=by
   refine bh.append (bh.append (bh.mono Tc ⟨hf,h5⟩) ⟨rfl,?_⟩) (bh.mono Tc ⟨hc,h6⟩);intro i x y hx hy
   match i with
   | 0 =>
    simp only[List.size_toArray,List.length_cons,List.length_nil,Nat.zero_add,Nat.lt_add_one,Array.getElem?_eq_getElem,List.getElem_toArray,List.getElem_cons_zero,Option.some.injEq]at hx hy;subst hx hy;exact .yield _ _ k1
   | i+1=>simp at hx
  refine⟨l',mark',w1,{ target:=.fn (.func f) c',args:=f' ++ #[.func (.yield l') #[] #[]] },w1,f,(f' ++ #[.func (.yield l') #[] #[]])++c',w1,?_,?_,λf _=>DZ ro f,?_,xu ro,?_⟩
  ·rw[Hh];exact q1
  ·have hres:resolve A.eval (rangeCall g l') 0=Deferred.ofValue (A.eval g) #[.func (.yield l') #[] #[]]:=by
    unfold resolve;simp[rangeCall,Act.eval]
   rw[hres,Wn];rfl
  ·exact kL hfn _ w1
  ·refine D0 ro ((vN hP cY hl hrun _ _ _ _ _ h3 (T1.left m3) κ _ w1 g1.rep hargs (f1.left m3)).mono ?_)
   rintro e w2 ⟨μ,v',rfl,g2,_⟩;have Q8:=g2.le (f1.left m3);have f2:=f1.right g2 m2;obtain⟨ν,j',w3,q3,ej,g3⟩:=jd (zy (P:=P) (base:=base) (Q8 _ _ k1)) g2.rep h4 f2;subst ej;have TY:=g3.le f2;have gg:Goes P base ι ν s s1 w w3:=g1.trans (g2.trans g3 m2 m3) m1 (by omega);have hA2:bQ ν { a with defers:=mark++a.defers } { A with defers:=mark'++A.defers }:=by
    have Oc:=gg.le hfr;exact⟨hA.tmps.mono Oc,nF.append ((k2.mono Q8).mono TY) (hA.Ml.mono Oc)⟩
   refine⟨j',w3,q3,?_⟩;rcases Wm with ⟨rfl,rfl⟩ | ⟨rfl,rfl⟩ | ⟨id,rfl,rfl⟩
   ·exact hQ _ _ _ hA2 gg
   ·exact wpIn_ret (hQ _ _ _ hA2 gg)
   ·exact wpIn_exit (hQ _ _ _ hA2 gg)
theorem Ho{P:Program}{base:Nat->Prop}(hP:P.check=.ok ())(cY:di P)(hm:P.follows .mixedOrders=true):∀ n,FQ P base (ev P n)/\∀ rd body a s ex a1 s1,ev P n rd (.loop body) a s=some (ex,a1,s1)->bf P body->nP s s.next s1.next->∀ (ι:ag) (ro:Option Nat) (A:Act) (w:World),oS ι rd ro->bQ ι a A->dg P base ι s.look w->da ι s s1->∀ Q:Exit->Act->World->Prop,
  (∀ κ A1 w1,bQ κ a1 A1->Goes P base ι κ s s1 w w1->Q ex A1 w1)->Code.roundsIn (FR ro) 0 P body Q n A w:=by
 intro n
 induction n with
 | zero=>exact⟨(λrd c a s ex a1 s1 h=>by cases h),(λrd body a s ex a1 s1 h=>by cases h)⟩
 | succ n ih =>
  obtain⟨ih1,ih2⟩:=ih;have hl:=o8 P n;have hloop:∀ rd body a s ex a1 s1,ev P (n+1) rd (.loop body) a s=some (ex,a1,s1)->bf P body->nP s s.next s1.next->∀ (ι:ag) (ro:Option Nat) (A:Act) (w:World),oS ι rd ro->bQ ι a A->dg P base ι s.look w->da ι s s1->∀ Q:Exit->Act->World->Prop,
    (∀ κ A1 w1,bQ κ a1 A1->Goes P base ι κ s s1 w w1->Q ex A1 w1)->Code.roundsIn (FR ro) 0 P body Q (n+1) A w:=by
   intro rd body a s ex a1 s1 h hco hwin;simp only[ev]at h
   split at h
   ·rename_i a2 s2 hb
    have n1:=hl.next hb
    have n2:=hl.next h
    intro ι ro A w hrd hA hr hfr Q hQ;rw[roundsIn_succ];refine ih1 _ _ _ _ _ _ _ hb hco (hwin.left n2) ι ro A w hrd hA hr (hfr.left n2) _ (λκ A1 w1 hA1 g=>?_);exact ih2 _ _ _ _ _ _ _ h hco (hl.win hb hwin n2) κ ro A1 w1 (hrd.mono (g.le (hfr.left n2))) hA1 g.rep (hfr.right g n1) Q (λμ A2 w2 hA2 g2=>hQ μ A2 w2 hA2 (g.trans g2 n1 n2))
   ·rename_i hb
    intro ι ro A w hrd hA hr hfr Q hQ;rw[roundsIn_succ];refine ih1 _ _ _ _ _ _ _ h hco hwin ι ro A w hrd hA hr hfr _ (λκ A1 w1 hA1 g=>?_);have:=hQ κ A1 w1 hA1 g;cases ex with
    | normal=>exact(hb _ _ h).elim
    | _=>exact this
  refine⟨?_,λrd body a s ex a1 s1 h hco hwin ι ro A w hrd hA hr hfr Q hQ=>hloop rd body a s ex a1 s1 h hco hwin ι ro A w hrd hA hr hfr Q hQ⟩;intro rd c a s ex a1 s1 h hco hwin;cases c with
  | skip =>
   simp only[ev]at h;cases h;exact λι ro A w hrd hA hr hfr Q hQ=>wpIn_skip (hQ ι A w hA (Goes.refl hr))
  | label l =>
   simp only[ev]at h;cases h;exact λι ro A w hrd hA hr hfr Q hQ=>wpIn_label (hQ ι A w hA (Goes.refl hr))
  | ret =>
   simp only[ev]at h;cases h;exact λι ro A w hrd hA hr hfr Q hQ=>wpIn_ret (hQ ι A w hA (Goes.refl hr))
  | exit id =>
   simp only[ev]at h;cases h;exact λι ro A w hrd hA hr hfr Q hQ=>wpIn_exit (hQ ι A w hA (Goes.refl hr))
  | goto l =>
   simp only[ev]at h;cases h;exact λι ro A w hrd hA hr hfr Q hQ=>wpIn_goto (hQ ι A w hA (Goes.refl hr))
  | seq x y =>
   obtain⟨RG,Tj⟩:=hco.seq;simp only[ev]at h
   split at h
   ·rename_i a2 s2 hb
    have n1:=hl.next hb
    have n2:=hl.next h
    refine λι ro A w hrd hA hr hfr Q hQ=>wpIn_seq ?_
    refine ih1 _ _ _ _ _ _ _ hb RG (hwin.left n2) ι ro A w hrd hA hr (hfr.left n2) _ (λκ A1 w1 hA1 g=>?_);exact ih1 _ _ _ _ _ _ _ h Tj (hl.win hb hwin n2) κ ro A1 w1 (hrd.mono (g.le (hfr.left n2))) hA1 g.rep (hfr.right g n1) Q (λμ A2 w2 hA2 g2=>hQ μ A2 w2 hA2 (g.trans g2 n1 n2))
   ·rename_i hb
    refine λι ro A w hrd hA hr hfr Q hQ=>wpIn_seq ?_
    refine ih1 _ _ _ _ _ _ _ h RG hwin ι ro A w hrd hA hr hfr _ (λκ A1 w1 hA1 g=>?_);have:=hQ κ A1 w1 hA1 g;cases ex with
    | normal=>exact(hb _ _ h).elim
    | _=>exact this
  | cond c x y =>
   obtain⟨RG,Tj⟩:=hco.cond;simp only[ev]at h
   split at h
   ·rename_i b hok hb
    have co:bf P (if b=true then x else y):=by cases b<;>assumption
    refine λι ro A w hrd hA hr hfr Q hQ=>?_
    have hv:=aE hA c hok;rw[hb]at hv;generalize TJ:A.eval c=Ac at hv;cases hv;exact wpIn_cond TJ (ih1 _ _ _ _ _ _ _ h co hwin ι ro A w hrd hA hr hfr Q hQ)
   ·cases h
  | block id body =>
   have co:=hco.block;simp only[ev]at h
   split at h
   ·rename_i i a2 s2 hb
    split at h
    ·rename_i he
     cases h;refine λι ro A w hrd hA hr hfr Q hQ=>wpIn_block (ih1 _ _ _ _ _ _ _ hb co hwin ι ro A w hrd hA hr hfr _ (λκ A1 w1 hA1 g=>?_))
     show(if i=id then Q .normal A1 w1 else Q (.exit i) A1 w1);rw[if_pos he];exact hQ κ A1 w1 hA1 g
    ·rename_i he
     cases h;refine λι ro A w hrd hA hr hfr Q hQ=>wpIn_block (ih1 _ _ _ _ _ _ _ hb co hwin ι ro A w hrd hA hr hfr _ (λκ A1 w1 hA1 g=>?_))
     show(if i=id then Q .normal A1 w1 else Q (.exit i) A1 w1);rw[if_neg he];exact hQ κ A1 w1 hA1 g
   ·rename_i hb
    refine λι ro A w hrd hA hr hfr Q hQ=>wpIn_block (ih1 _ _ _ _ _ _ _ h co hwin ι ro A w hrd hA hr hfr _ (λκ A1 w1 hA1 g=>?_))
    have:=hQ κ A1 w1 hA1 g;cases ex with
    | exit i=>exact(hb _ _ _ h).elim
    | _=>exact this
  | loop body =>
   exact λι ro A w hrd hA hr hfr Q hQ=>wpIn_loop_rounds (n+1) (hloop rd body a s ex a1 s1 h hco.loop hwin ι ro A w hrd hA hr hfr Q hQ)
  | scope body =>
   have co:=hco.scope;cases rd with
   | some l=>simp[ev]at h
   | none =>
    simp only[ev]at h;unfold wZ at h
    split at h
    ·rename_i l a2 s2 hb
     split at h
     case h_2=>cases h
     rename_i rest hf;have n1:=hl.next hb
     have main:∀ r,ev P n none rest a2 s2=some r->(∀ l,r.1≠.goto l)->r=(ex,a1,s1)->s2.next<=s1.next/\∀ (ι:ag) (ro:Option Nat) (A:Act) (w:World),oS ι none ro->bQ ι a A->dg P base ι s.look w->da ι s s1->∀ Q:Exit->Act->World->Prop,
       (∀ κ A1 w1,bQ κ a1 A1->Goes P base ι κ s s1 w w1->Q ex A1 w1)->(Code.scope body).wpIn (FR ro) 0 P Q A w:=by
      rintro r hr2 Rj rfl;have n2:=hl.next hr2
      refine⟨n2,λι ro A w hrd hA hr hfr Q hQ=>?_⟩;cases ro with
      | some l=>exact hrd.elim
      | none =>
       refine wpIn_wide.2 (vn (wpIn_wide.1 (ih1 _ _ _ _ _ _ _ hb co (hwin.left n2) ι none A w trivial hA hr (hfr.left n2) _ (λκ A1 w1 hA1 g=>?_))));refine⟨rest,hf,wpIn_wide.1 (ih1 _ _ _ _ _ _ _ hr2 (co.label hf) (hl.win hb hwin n2) κ none A1 w1 trivial hA1 g.rep (hfr.right g n1) _ (λμ A2 w2 hA2 g2=>?_))⟩;have:=hQ μ A2 w2 hA2 (g.trans g2 n1 n2);cases ex with
       | goto l=>exact(Rj _ rfl).elim
       | _=>exact this
     split at h
     ·cases h
     ·rename_i Rj
      exact(main _ h (λl e=>by
       simp only at e;subst e
       exact Rj _ _ _ h) rfl).2
    ·rename_i hb
     refine λι ro A w hrd hA hr hfr Q hQ=>?_
     cases ro with
     | some l=>exact hrd.elim
     | none =>
      refine wpIn_wide.2 (wp_scope_straight (wpIn_wide.1 (ih1 _ _ _ _ _ _ _ h co hwin ι none A w trivial hA hr hfr _ (λκ A1 w1 hA1 g=>?_))));have:=hQ κ A1 w1 hA1 g;cases ex with
      | goto l=>exact(hb _ _ _ h).elim
      | _=>exact this
  | rangeFunc g ps assign body =>
   obtain⟨RG,Tj⟩:=hco.rangeFunc;simp only[ev]at h;refine λι ro A w hrd hA hr hfr Q hQ=>FT hP cY hl ih1 (λrd c a s hc r hr=>?_) h RG Tj hwin ι ro A w hrd hA hr hfr Q hQ
   cases n with
   | zero=>cases hr
   | succ n =>
    rcases hc with rfl | ⟨id,rfl⟩
    ·cases hr;rfl
    ·cases hr;rfl
  | region id ops draw =>
   have hok:=hco.region;simp only[ev]at h
   split at h
   ·rename_i a2 s2 hb
    cases h;exact λι ro A w hrd hA hr hfr Q hQ=>xx cY hm (rr hl) (zX hP cY hl ih1) ro hok hb hwin id hA hr hfr hQ
   ·cases h
  | _=>simp[ev]at h
theorem D1{P:Program}{base:Nat->Prop}(hP:P.check=.ok ())(cY:di P)(hm:P.follows .mixedOrders=true)(n:Nat):oi P base (l3 P (ev P n)):=zX hP cY (o8 P n) (Ho hP cY hm n).1
theorem mU(id:Nat):s0.look id=none:=Tr.lW _ _
theorem FU(P:Program)(w:World):dg P (· < w.heap.size) (λ_=>none) s0.look w :=
 ⟨(λid id' o o' b h=>by rw[mU]at h;cases h),(λid o h=>by rw[mU]at h;cases h),λk hk=>hk,(λid o g h=>by rw[mU]at h;cases h)⟩
theorem closed{P:Program}(hP:P.check=.ok ())(cY:di P)(hm:P.follows .mixedOrders=true){n:Nat}{f:FuncId}{args args':Array Value}{v:Value}{s1:St}(h:l3 P (ev P n) (.fn f args) s0=some (v,s1))(ha:bh (λ_=>none) args args')(w:World) :
  Calls P f args' w λe w1=>∃ κ v',e=.returned v'/\Goes P (· < w.heap.size) (λ_=>none) κ s0 s1 w w1/\ao κ v v' :=
 (D1 hP cY hm n).1 f args s0 v s1 h (λid _ _=>mU id) _ args' w (FU P w) ha (λid _ _=>rfl)
theorem zY{P:Program}(hP:P.check=.ok ())(cY:di P)(hm:P.follows .mixedOrders=true){n:Nat}{f:FuncId}{args args':Array Value}(h:isTrue (l3 P (ev P n) (.fn f args) s0)=true)(ha:bh (λ_=>none) args args')(w:World) :
  Calls P f args' w λe w1=>e=.returned (.bool true)/\Below w.heap.size w w1:=by
 unfold isTrue at h
 split at h
 ·rename_i b s1 hc
  subst h;refine(closed hP cY hm hc ha w).mono ?_;rintro e w1 ⟨κ,v',rfl,g,hv⟩;cases hv;exact⟨rfl,g.below.below⟩
 ·cases h
@[reducible] def dY:aP where
 val:=λ_=>.int .i64 0
 leaf:=λ_=>rfl
 bin:=λ_ _ _=>none
 wH:=λ_ _ _ _ h=>by cases h
 Rg:=λ_ _=>none
 wI:=λ_ _ _ h=>by cases h
 Rh:=λ_ _=>none
 wJ:=λ_ _ _ h=>by cases h
 Mb:=λ_ _=>none
 wK:=λ_ _ _ h=>by cases h
 GR:=λ_ _ _ _=>False
 rN:=λ_ _ _ _ _ _ h=>h
 rO:=λ_ _ _ _ _ _ h=>h
 G0:=λ_ _=>none
 wL:=λ_ _=>none
theorem RH(P:Program):@di dY P:=@di.mk dY P (λ_ _ _ h=>by cases h) (λ_ _ _ h=>by cases h) (λ_ _ _ h=>by cases h)
variable[aP]
inductive TV where
 | leaf
 | node (v:Value) (l r:TV)
noncomputable def TV.get(t:TV):Nat->Value :=
 @TV.rec (λ_=>Nat->Value) (λ_=>undef)
  (λv _ _ gl gr n=>@Bool.rec (λ_=>Value) (@Bool.rec (λ_=>Value) (gr (Nat.sub (Nat.div n 2) 1)) (gl (Nat.div n 2)) (Nat.beq (Nat.mod n 2) 1)) v (Nat.beq n 0)) t
noncomputable def TV.mc{β:Type}(d:Nat):TV->Nat->Value->(TV->β)->β :=
 @Nat.rec (λ_=>TV->Nat->Value->(TV->β)->β) (λt _ _ k=>k t)
  (λ_ ih t n x k=>@TV.rec (λ_=>β)
   (@Bool.rec (λ_=>β)
    (@Bool.rec (λ_=>β) (ih .leaf (Nat.sub (Nat.div n 2) 1) x (λr=>k (.node undef .leaf r))) (ih .leaf (Nat.div n 2) x (λl=>k (.node undef l .leaf))) (Nat.beq (Nat.mod n 2) 1))
    (k (.node x .leaf .leaf)) (Nat.beq n 0))
   (λv l r _ _=>@Bool.rec (λ_=>β)
    (@Bool.rec (λ_=>β) (ih r (Nat.sub (Nat.div n 2) 1) x (λr'=>k (.node v l r'))) (ih l (Nat.div n 2) x (λl'=>k (.node v l' r))) (Nat.beq (Nat.mod n 2) 1))
    (k (.node x l r)) (Nat.beq n 0)) t) d
noncomputable def rJ{β:Type}(n:Nat)(k:Nat->β):β:=@Nat.rec (λ_=>β) (k 0) (λm _=>k (Nat.succ m)) n
noncomputable def zZ{β:Type}(i:Int)(k:Int->β):β:=@Int.rec (λ_=>β) (λn=>rJ n (λn=>k (.ofNat n))) (λn=>rJ n (λn=>k (.negSucc n))) i
noncomputable def Mx{β:Type}(a:Option Addr)(k:Option Addr->β):β :=
 match a with
 | none=>k none
 | some ⟨b,off,sp⟩=>rJ b (λb=>rJ off (λoff=>k (some ⟨b,off,sp⟩)))
noncomputable def Hp{β:Type}(v:Value)(k:Value->β):β :=
 match v with
 | .pointer a=>Mx a (λa=>k (.pointer a))
 | .slice a n c=>Mx a (λa=>rJ n (λn=>rJ c (λc=>k (.slice a n c))))
 | v=>k v
noncomputable def Tr.gt(d:Nat):Tr->Nat->Option Obj :=
 @Nat.rec (λ_=>Tr->Nat->Option Obj) (λ_ _=>none)
  (λ_ ih t n=>@Tr.rec (λ_=>Option Obj) none (λv l r _ _=>@Bool.rec (λ_=>Option Obj) (@Bool.rec (λ_=>Option Obj) (ih r (Nat.div n 2)) (ih l (Nat.div n 2)) (Nat.beq (Nat.mod n 2) 0)) v (Nat.beq n 0)) t) d
noncomputable def Tr.Pp{β:Type}(d:Nat):Tr->Nat->Option Obj->(Tr->β)->β :=
 @Nat.rec (λ_=>Tr->Nat->Option Obj->(Tr->β)->β) (λt _ _ k=>k t)
  (λ_ ih t n x k=>@Tr.rec (λ_=>β)
   (@Bool.rec (λ_=>β)
    (@Bool.rec (λ_=>β) (ih .leaf (Nat.div n 2) x (λr=>k (.node none .leaf r))) (ih .leaf (Nat.div n 2) x (λl=>k (.node none l .leaf))) (Nat.beq (Nat.mod n 2) 0))
    (k (.node x .leaf .leaf)) (Nat.beq n 0))
   (λv l r _ _=>@Bool.rec (λ_=>β)
    (@Bool.rec (λ_=>β) (ih r (Nat.div n 2) x (λr'=>k (.node v l r'))) (ih l (Nat.div n 2) x (λl'=>k (.node v l' r))) (Nat.beq (Nat.mod n 2) 0))
    (k (.node x l r)) (Nat.beq n 0)) t) d
noncomputable def Pq(l:List Value):Nat->Option Value :=
 @List.rec Value (λ_=>Nat->Option Value) (λ_=>none) (λv _ ih n=>@Nat.rec (λ_=>Option Value) (some v) (λm _=>ih m) n) l
noncomputable def Hq{β:Type}(l:List Value)(x:Value):Nat->(List Value->β)->β :=
 @List.rec Value (λ_=>Nat->(List Value->β)->β) (λ_ k=>k []) (λv l ih n k=>@Nat.rec (λ_=>β) (k (x::l)) (λm _=>ih m (λl'=>k (v::l'))) n) l
noncomputable def My:IntKind->Nat
 | .i8=>0 | .i16=>1 | .i32=>2 | .i64=>3 | .u8=>4 | .u16=>5 | .u32=>6 | .u64=>7
noncomputable def ry(k:IntKind)(n:Int):Int :=
 match k,n with
 | .i64,.ofNat m=>@Bool.rec (λ_=>Int) (IntKind.i64.wrap (.ofNat m)) (.ofNat m) (Nat.ble m 9223372036854775807)
 | .i64,.negSucc m=>@Bool.rec (λ_=>Int) (IntKind.i64.wrap (.negSucc m)) (.negSucc m) (Nat.ble m 9223372036854775807)
 | .u64,.ofNat m=>.ofNat (Nat.mod m 18446744073709551616)
 | .u32,.ofNat m=>.ofNat (Nat.mod m 4294967296)
 | .u8,.ofNat m=>.ofNat (Nat.mod m 256)
 | k,n=>k.wrap n
noncomputable def FV:Int->Int->Bool
 | .ofNat a,.ofNat b=>Nat.ble a b
 | .ofNat _,.negSucc _=>false
 | .negSucc _,.ofNat _=>true
 | .negSucc a,.negSucc b=>Nat.ble b a
noncomputable def Hr:Int->Int->Bool
 | .ofNat a,.ofNat b=>Nat.beq a b
 | .ofNat _,.negSucc _=>false
 | .negSucc _,.ofNat _=>false
 | .negSucc a,.negSucc b=>Nat.beq a b
noncomputable def fint(op:BinOp)(k:IntKind)(a b:Int):Option Value :=
 match op with
 | .add=>zZ (ry k (Int.add a b)) (λn=>some (.int k n))
 | .sub=>zZ (ry k (Int.sub a b)) (λn=>some (.int k n))
 | .mul=>zZ (ry k (Int.mul a b)) (λn=>some (.int k n))
 | .eql=>@Bool.rec (λ_=>Option Value) (some (.bool false)) (some (.bool true)) (Hr a b)
 | .neq=>@Bool.rec (λ_=>Option Value) (some (.bool true)) (some (.bool false)) (Hr a b)
 | .lss=>@Bool.rec (λ_=>Option Value) (some (.bool true)) (some (.bool false)) (FV b a)
 | .leq=>@Bool.rec (λ_=>Option Value) (some (.bool false)) (some (.bool true)) (FV a b)
 | .gtr=>@Bool.rec (λ_=>Option Value) (some (.bool true)) (some (.bool false)) (FV a b)
 | .geq=>@Bool.rec (λ_=>Option Value) (some (.bool false)) (some (.bool true)) (FV b a)
 | _=>none
noncomputable def Mz(op:BinOp)(x y:Value):Option Value :=
 match x,y with
 | .int k a,.int k' b=>@Bool.rec (λ_=>Option Value) none (fint op k a b) (Nat.beq (My k) (My k'))
 | _,_=>none
noncomputable def db(t:TV)(x:Operand):Value :=
 @Operand.rec (λ_=>Value) (λi=>t.get i) (λv=>v) (λg=>.pointer (some ⟨g,0,none⟩)) (λf=>.func (.func f) #[] #[]) x
inductive gU(α:Type) where
 | leaf
 | node (v:Option α) (l r:gU α)
noncomputable def gU.get{α:Type}(t:gU α):Nat->Option α :=
 @gU.rec α (λ_=>Nat->Option α) (λ_=>none)
  (λv _ _ gl gr n=>@Bool.rec (λ_=>Option α) (@Bool.rec (λ_=>Option α) (gr (Nat.sub (Nat.div n 2) 1)) (gl (Nat.div n 2)) (Nat.beq (Nat.mod n 2) 1)) v (Nat.beq n 0)) t
noncomputable def gU.mc{α β:Type}(d:Nat):gU α->Nat->α->(gU α->β)->β :=
 @Nat.rec (λ_=>gU α->Nat->α->(gU α->β)->β) (λt _ _ k=>k t)
  (λ_ ih t n x k=>@gU.rec α (λ_=>β)
   (@Bool.rec (λ_=>β)
    (@Bool.rec (λ_=>β) (ih .leaf (Nat.sub (Nat.div n 2) 1) x (λr=>k (.node none .leaf r))) (ih .leaf (Nat.div n 2) x (λl=>k (.node none l .leaf))) (Nat.beq (Nat.mod n 2) 1))
    (k (.node (some x) .leaf .leaf)) (Nat.beq n 0))
   (λv l r _ _=>@Bool.rec (λ_=>β)
    (@Bool.rec (λ_=>β) (ih r (Nat.sub (Nat.div n 2) 1) x (λr'=>k (.node v l r'))) (ih l (Nat.div n 2) x (λl'=>k (.node v l' r))) (Nat.beq (Nat.mod n 2) 1))
    (k (.node (some x) l r)) (Nat.beq n 0)) t) d
noncomputable def gU.Od{α β:Type}(l:List α):Nat->gU α->(gU α->β)->β :=
 @List.rec α (λ_=>Nat->gU α->(gU α->β)->β) (λ_ t k=>k t) (λv _ ih i t k=>gU.mc 16 t i v (λt1=>ih (Nat.succ i) t1 k)) l
structure Base where
 P:Program
 T:gU TypeInfo
 F:gU Func
noncomputable def z_(B:Base)(t:TypeId):Option TypeDesc :=
 match B.T.get t with
 | some i =>
  match i.desc with
  | .named _ u=>(match B.T.get u with | some j=>some j.desc | none=>none)
  | d=>some d
 | none=>none
noncomputable def xB(B:Base)(t:TypeId):Bool :=
 match z_ B t with
 | some (.struct _)=>false
 | some (.array _ _)=>false
 | some _=>true
 | none=>false
noncomputable def RI(B:Base)(t:TypeId)(f:Nat):Option Nat :=
 match z_ B t with
 | some (.struct fields) =>
  match fields[f]? with
  | some fd=>(match B.T.get fd.type with | some i=>@Bool.rec (λ_=>Option Nat) (some fd.offset) none (Nat.beq i.size 0) | none=>none)
  | none=>none
 | _=>none
noncomputable def RJ(B:Base)(t:TypeId):Bool :=
 match B.T.get t with
 | some i=>Nat.beq i.size 1
 | none=>false
noncomputable def MA(B:Base)(t:TypeId):Bool :=
 match z_ B t with
 | some (.pointer _)=>true
 | _=>false
noncomputable def Oe(B:Base)(t:TypeId):Option (Array Value) :=
 match B.T.get t with
 | some i=>(match i.zero with | some z=>@Bool.rec (λ_=>Option (Array Value)) none (some z.cells) (bH 6 z) | none=>none)
 | none=>none
noncomputable def Og(B:Base)(t:TypeId):Option Nat :=
 match z_ B t with
 | some (.slice e)=>(match B.T.get e with | some i=>some i.size | none=>none)
 | _=>none
noncomputable def MB(B:Base)(t:TypeId):Option IntKind :=
 match z_ B t with
 | some (.int k)=>some k
 | _=>none
noncomputable def MC(B:Base)(t:TypeId):Nat :=
 match z_ B t with
 | some (.slice _)=>1
 | some .string=>2
 | _=>0
noncomputable def Tk(B:Base)(f:FuncId):Bool :=
 match B.F.get f with
 | some fn=>fn.name != "runtime.NumGoroutine" && fn.body.isSome
 | none=>false
noncomputable def MD(c:Array Value)(e:TypeId)(s:St):Option (Next×St) :=
 match s with
 | ⟨h,nx,lg⟩=>@Bool.rec (λ_=>Option (Next×St)) none (Tr.Pp deep h (Nat.mul 4 nx) (some (.cells c e (0,0))) (λh'=>some (.value (.pointer (some ⟨Nat.mul 4 nx,0,none⟩)),⟨h',Nat.succ nx,⟨Nat.mul 4 nx,none,true⟩::lg⟩))) (Nat.blt (Nat.mul 4 nx) lim)
noncomputable def Cl(B:Base)(t:TypeId)(s:St):Option (Next×St) :=
 match Oe B t with
 | some c=>MD c t s
 | none=>none
noncomputable def RL(t:TypeId)(v:Value)(s:St):Option (Next×St):=MD v.cells t s
noncomputable def Pr(B:Base)(t:TypeId)(x:Value)(s:St):Option (Next×St) :=
 match x with
 | .slice _ n _=>@Bool.rec (λ_=>Option (Next×St)) none (some (.value (.int .i64 (.ofNat n)),s)) (Nat.beq (MC B t) 1)
 | .string b=>@Bool.rec (λ_=>Option (Next×St)) none (some (.value (.int .i64 (.ofNat b.size)),s)) (Nat.beq (MC B t) 2)
 | _=>none
noncomputable def Cm(B:Base)(t:TypeId)(x i:Value)(s:St):Option (Next×St) :=
 match x,i with
 | .slice (some ⟨b,off,none⟩) n _,.int _ (.ofNat i)=>(match Og B t with | some z=>@Bool.rec (λ_=>Option (Next×St)) none (some (.value (.pointer (some ⟨b,Nat.add off (Nat.mul i z),none⟩)),s)) (Nat.blt i n) | none=>none)
 | _,_=>none
noncomputable def Hs(B:Base)(t u:TypeId)(x:Value)(s:St):Option (Next×St) :=
 match x with
 | .int _ n=>(match MB B t,MB B u with | some _,some k=>zZ (ry k n) (λn=>some (.value (.int k n),s)) | _,_=>none)
 | _=>none
noncomputable def Ht(B:Base)(op:BinOp)(t:TypeId)(x y:Value)(s:St):Option (Next×St) :=
 match x,y with
 | .pointer (some _),.pointer none=>@Bool.rec (λ_=>Option (Next×St)) none (match op with | .eql=>some (.value (.bool false),s) | .neq=>some (.value (.bool true),s) | _=>none) (MA B t)
 | .pointer none,.pointer none=>@Bool.rec (λ_=>Option (Next×St)) none (match op with | .eql=>some (.value (.bool true),s) | .neq=>some (.value (.bool false),s) | _=>none) (MA B t)
 | _,_=>none
noncomputable def Hu(B:Base)(ty:TypeId)(x:Value)(s:St):Option (Next×St) :=
 match x,s with
 | .pointer (some ⟨b,off,none⟩),⟨h,nx,lg⟩ =>
  @Bool.rec (λ_=>Option (Next×St)) none
   (match Tr.gt deep h b with
    | some (.cells c _ _)=>(match Pq c.toList off with | some v=>some (.value v,⟨h,nx,⟨b,some off,false⟩::lg⟩) | none=>none)
    | _=>none) (xB B ty)
 | _,_=>none
noncomputable def Cn(B:Base)(ty:TypeId)(x v:Value)(s:St):Option (Next×St) :=
 match x,s with
 | .pointer (some ⟨b,off,none⟩),⟨h,nx,lg⟩ =>
  @Bool.rec (λ_=>Option (Next×St)) none
   (match Tr.gt deep h b with
    | some (.cells c e (0,0))=>@Bool.rec (λ_=>Option (Next×St)) none (Hq c.toList v off (λl=>Tr.Pp deep h b (some (.cells ⟨l⟩ e (0,0))) (λh'=>some (.skip,⟨h',nx,⟨b,some off,true⟩::lg⟩)))) (Nat.blt off c.toList.length&&Nat.blt b lim)
    | _=>none) (oneCell v&&RJ B ty)
 | _,_=>none
noncomputable def Co(B:Base)(ty:TypeId)(x:Value)(f:Nat)(s:St):Option (Next×St) :=
 match x with
 | .pointer (some ⟨b,off,none⟩)=>(match RI B ty f with | some d=>some (.value (.pointer (some ⟨b,Nat.add off d,none⟩)),s) | none=>none)
 | _=>none
noncomputable def T2(x:Value)(s:St):Option (Next×St) :=
 match x with
 | .pointer (some _)=>some (.value x,s)
 | .func (.func _) _ _=>some (.value x,s)
 | .iface _ _=>some (.value x,s)
 | _=>none
noncomputable def Oh(c x y:Value)(s:St):Option (Next×St) :=
 match c with
 | .bool b=>some (.value (@Bool.rec (λ_=>Value) y x b),s)
 | _=>none
noncomputable def tj(x:Value)(i:Nat)(s:St):Option (Next×St) :=
 match x with
 | .tuple vs=>(match Pq vs.toList i with | some v=>some (.value v,s) | none=>none)
 | _=>none
noncomputable def Ps(op:UnOp)(x:Value)(s:St):Option (Next×St) :=
 match op,x with
 | .not,.bool b=>@Bool.rec (λ_=>Option (Next×St)) (some (.value (.bool true),s)) (some (.value (.bool false),s)) b
 | _,_=>none
noncomputable def vO(t:TV)(xs:List Operand):List Value:=@List.rec Operand (λ_=>List Value) [] (λx _ ih=>db t x::ih) xs
noncomputable def fI(P:Program)(ρ:Operand->Value)(o:Oper)(s:St):Option (Next×St) :=
 if kM o.op&&o.op.operands.toList.all (λx=>aZ x&&bH 5 (ρ x)) then
  match iZ P (execOp ρ o) with
  | some (.value v)=>if bH 5 v then some (.value v,s) else none
  | _=>none
 else none
noncomputable def D2(P:Program)(ρ:Operand->Value)(c:Call)(ty:TypeId)(s:St):Option (Next×St) :=
 if bg c.operands.toList then
  match c.callee with
  | .value f =>
   match ρ f with
   | .func (.func g) first captured=>if wW P g then some (.enter g ((first++c.args.map ρ)++captured),s) else none
   | .func (.yield l) first captured=>if first.isEmpty&&captured.isEmpty then az P (Instr.yield l (c.args.map ρ)) s else none
   | _=>none
  | .invoke r name =>
   match ρ r with
   | .iface t v=>(match oT P t v name with | some f=>if wW P f then some (.enter f (#[v]++c.args.map ρ),s) else none | none=>none)
   | _=>none
  | .builtin b =>
   match b,c.args.toList,c.argTypes.toList with
   | .len,[x],[t]=>sv (az P (Builtin.len_ #[t] ty #[ρ x]) s)
   | .cap,[x],[t]=>if DX (ρ x) then sv (az P (Builtin.cap_ #[t] ty #[ρ x]) s) else none
   | .append,[x,y],[t,u]=>if wU P u (ρ x) (ρ y) then sv (az P (Builtin.append_ #[t,u] ty #[ρ x,ρ y]) s) else sv (cL P s t u (ρ x) (ρ y))
   | .copy,[x,y],[t,u]=>sv (az P (Builtin.copy_ #[t,u] ty #[ρ x,ρ y]) s)
   | .delete,[x,y],[t,u]=>(fe P s t (ρ x) (ρ y)).map λs1=>(.value (.tuple #[]),s1)
   | _,_,_=>none
 else none
noncomputable def fJ(P:Program)(ρ:Operand->Value)(o:Oper)(s:St):Option (Next×St) :=
 match o.op with
 | .move x | .assign x=>if aZ x then some (.value (ρ x),s) else none
 | .pick c x y =>
  if bg [c,x,y] then
   match ρ c with
   | .bool b=>some (.value (if b then ρ x else ρ y),s)
   | _=>none
  else none
 | .alloc t=>if uX P t then sv (az P (Instr.alloc t true (.tuple #[])) s) else none
 | .box t x=>if aZ x then sv (az P (Instr.box t (ρ x)) s) else none
 | .build t ps=>if uX P t&&bg (ps.toList.map (·.2)) then sv (az P (Instr.build t (ps.map λ(i,x)=>(i,ρ x))) s) else none
 | .buildSlice t n ps=>if uX P (iC P t)&&zo P (iC P t)&&bg (ps.toList.map (·.2)) then sv (az P (Instr.buildSlice t n (ps.map λ(i,x)=>(i,ρ x))) s) else none
 | .load t x=>if aZ x then sv (az P (Instr.loadAt t (ρ x)) s) else none
 | .store t x y=>if bg [x,y] then su (az P (Instr.storeAt t (ρ x) (ρ y)) s) else none
 | .nilCheck x =>
  if aZ x then
   match ρ x with
   | .pointer (some b)=>some (.value (ρ x),s)
   | .func (.func _) _ _=>some (.value (ρ x),s)
   | .iface _ _=>some (.value (ρ x),s)
   | _=>none
  else none
 | .binOp op t x y _ =>
  match fI P ρ o s with
  | some r=>some r
  | none=>if bg [x,y] then (if fX P t (ρ x) (ρ y) then (match op with | .eql=>some (.value (.bool false),s) | .neq=>some (.value (.bool true),s) | _=>none) else G9 op (ρ x) (ρ y) s) else none
 | .unOp op _ x =>
  match fI P ρ o s with
  | some r=>some r
  | none=>if aZ x then G_ op (ρ x) s else none
 | .convert t u x =>
  match fI P ρ o s with
  | some r=>some r
  | none=>if aZ x then B7 P t u (ρ x) s else none
 | .makeInterface t x=>if aZ x then sv (az P (Instr.makeInterface t (ρ x)) s) else none
 | .makeFunc (.func f) first captured=>if bg first.toList&&bg captured.toList then some (.value (.func (.func f) (first.map ρ) (captured.map ρ)),s) else none
 | .makeMap t none=>sv (az P (Instr.makeMap t none) s)
 | .makeMap t (some x)=>if aZ x then sv (az P (Instr.makeMap t (some (ρ x))) s) else none
 | .makeSlice t l c=>if uX P (iC P t)&&zo P (iC P t)&&bg [l,c] then sv (az P (Instr.makeSlice t (ρ l) (ρ c)) s) else none
 | .slice t x lo hi mx =>
  if FF P t&&aZ x&&bg lo.toList&&bg hi.toList&&bg mx.toList&&FE (ρ x) (mx.map ρ) then
   match az P (Instr.sliceAt t (ρ x) (lo.map ρ) (hi.map ρ) (mx.map ρ)) s with
   | some (v,s1)=>if oP v then some (.value v,s1) else none
   | none=>none
  else none
 | .fieldAddr t x f=>if aZ x&&vI P t f then sv (az P (Instr.fieldAt t (ρ x) f) s) else none
 | .field t x f=>if aZ x then sv (az P (Instr.field t (ρ x) f) s) else none
 | .indexAddr t x i=>if bg [x,i] then sv (az P (Instr.indexAt t (ρ x) (ρ i)) s) else none
 | .index t x i=>if bg [x,i] then sv (az P (Instr.index t (ρ x) (ρ i)) s) else none
 | .lookup t m k ok=>if bg [m,k] then sv (jw P s t (ρ m) (ρ k) ok) else none
 | .mapUpdate t m k v=>if bg [m,k,v] then (d8 P s t (ρ m) (ρ k) (ρ v)).map λs1=>(.skip,s1) else none
 | .insert t m k v=>if bg [m,k,v] then (d8 P s t (ρ m) (ρ k) (ρ v)).map λs1=>(.skip,s1) else none
 | .mapEntry t m k=>if bg [m,k] then sv (gy P s t (ρ m) (ρ k)) else none
 | .entryStore _ m st v=>if bg [m,st,v] then (ic s (ρ m) (ρ st) (ρ v)).map λs1=>(.skip,s1) else none
 | .range t x=>if aZ x then sv (az P (Instr.range t (ρ x)) s) else none
 | .next x str=>if aZ x then sv (az P (Instr.next (ρ x) str o.type) s) else none
 | .entry x=>if aZ x then sv (az P (Instr.entry (ρ x)) s) else none
 | .typeAssert x t u ok=>if aZ x&&(!ok||uX P u) then sv (az P (Instr.typeAssert (ρ x) t u ok) s) else none
 | .extract x i=>if aZ x then sv (az P (Instr.extract (ρ x) i) s) else none
 | .call c=>(match fI P ρ o s with | some r=>some r | none=>D2 P ρ c o.type s)
 | _=>none
theorem Hv(P:Program)(a:Act)(o:Oper)(s:St):fJ P a.eval o s=aU P a o s:=rfl
noncomputable def fall(B:Base)(t:TV)(o:Oper)(s:St):Option (Next×St):=fJ B.P (db t) o s
noncomputable def GU(r:Option (Next×St))(f:Option (Next×St)):Option (Next×St):=@Option.rec (Next×St) (λ_=>Option (Next×St)) f (λx=>some x) r
noncomputable def BV(c:Bool)(r:Option (Next×St)):Option (Next×St):=@Bool.rec (λ_=>Option (Next×St)) none r c
noncomputable def Aa(B:Base)(t:TV)(o:Oper)(c:Call)(b:Builtin)(s:St):Option (Next×St) :=
 match b,c.args.toList,c.argTypes.toList with
 | .len,[x],[ty]=>BV (bg c.operands.toList) (GU (Pr B ty (db t x) s) (fall B t o s))
 | _,_,_=>fall B t o s
noncomputable def xC(B:Base)(t:TV)(o:Oper)(c:Call)(s:St):Option (Next×St) :=
 match c.callee with
 | .value f =>
  match db t f with
  | .func (.func g) first captured=>BV (bg c.operands.toList&&Tk B g) (some (.enter g ⟨List.append first.toList (List.append (vO t c.args.toList) captured.toList)⟩,s))
  | _=>fall B t o s
 | .builtin b=>Aa B t o c b s
 | _=>fall B t o s
noncomputable def D3(B:Base)(t:TV)(o:Oper)(s:St):Option (Next×St) :=
 match o.op with
 | .move x=>BV (aZ x) (some (.value (db t x),s))
 | .assign x=>BV (aZ x) (some (.value (db t x),s))
 | .pick c x y=>BV (bg [c,x,y]) (Oh (db t c) (db t x) (db t y) s)
 | .binOp op ty x y u=>BV (bg [x,y]) (match Mz op (db t x) (db t y) with | some v=>some (.value v,s) | none=>GU (Ht B op ty (db t x) (db t y) s) (fall B t o s))
 | .unOp op ty x=>BV (aZ x) (GU (Ps op (db t x) s) (fall B t o s))
 | .convert a u x=>BV (aZ x) (GU (Hs B a u (db t x) s) (fall B t o s))
 | .alloc ty=>GU (Cl B ty s) (fall B t o s)
 | .box ty x=>BV (aZ x) (GU (RL ty (db t x) s) (fall B t o s))
 | .load ty x=>BV (aZ x) (GU (Hu B ty (db t x) s) (fall B t o s))
 | .store ty x y=>BV (bg [x,y]) (GU (Cn B ty (db t x) (db t y) s) (fall B t o s))
 | .fieldAddr ty x f=>BV (aZ x) (GU (Co B ty (db t x) f s) (fall B t o s))
 | .indexAddr ty x i=>BV (bg [x,i]) (GU (Cm B ty (db t x) (db t i) s) (fall B t o s))
 | .nilCheck x=>BV (aZ x) (T2 (db t x) s)
 | .extract x i=>BV (aZ x) (GU (tj (db t x) i s) (fall B t o s))
 | .call c=>xC B t o c s
 | _=>fall B t o s
abbrev dF:=Exit×TV×List Deferred×St
abbrev om:=Option Nat->Nat->Code->TV->List Deferred->St->Option dF
abbrev kX:=TK->St->Option (Value×St)
noncomputable def vp{β:Type}(n:Nat)(t:TV)(d:Option Tmp)(v:Value)(k:TV->β):β :=
 match d with
 | none=>k t
 | some d=>@Bool.rec (λ_=>β) (k t) (Hp v (λv=>TV.mc 12 t d v k)) (Nat.blt d n)
noncomputable def vP{β:Type}(B:Base)(call:kX)(n:Nat)(t:TV)(o:Oper)(s:St)(k:TV->St->Option β):Option β :=
 match aP.G0 o.op (vO t o.op.operands.toList) with
 | some q=>@Bool.rec (λ_=>Option β) none (match qg q (vO t o.op.operands.toList) s with | some (v,s1)=>vp n t o.dst v (λt1=>k t1 s1) | none=>none) (bg o.op.operands.toList)
 | none =>
 match D3 B t o s with
 | some (.value v,s1)=>vp n t o.dst v (λt1=>k t1 s1)
 | some (.skip,s1)=>vp n t o.dst undef (λt1=>k t1 s1)
 | some (.enter f args,s1)=>(match call (.fn f args) s1 with | some (v,s2)=>vp n t o.dst v (λt1=>k t1 s2) | none=>none)
 | some (.round l _ tmps assign body,s1)=>(match call (.G' l tmps assign body) s1 with | some (v,s2)=>vp n t o.dst v (λt1=>k t1 s2) | none=>none)
 | _=>none
noncomputable def Cp(ops:Array Oper)(t:TV)(j:Nat):Option Bool :=
 match (ops[j]?).bind (·.dst) with
 | some d=>(match t.get d with | .bool b=>some b | _=>none)
 | none=>none
noncomputable def vQ(ops:Array Oper)(t:TV)(o:Oper):Bool :=
 match o.guard with
 | none=>true
 | some (j,want) =>
  match Cp ops t j,want with
  | some true,true=>true
  | some false,false=>true
  | _,_=>false
noncomputable def Ab(B:Base)(call:kX)(n:Nat)(ops:Array Oper)(d:List Deferred)(l:List Oper):TV->St->Option dF :=
 @List.rec Oper (λ_=>TV->St->Option dF) (λt s=>some (.normal,t,d,s))
  (λo _ ih t s=>@Bool.rec (λ_=>Option dF) (vp n t o.dst undef (λt1=>ih t1 s)) (vP B call n t o s (λt1 s1=>ih t1 s1)) (vQ ops t o)) l
noncomputable def Ad(B:Base)(call:kX)(n:Nat)(ops:Array Oper)(d:List Deferred)(l:List Oper):TV->St->List (List Touch)->Option dF :=
 @List.rec Oper (λ_=>TV->St->List (List Touch)->Option dF)
  (λt s ls=>@Bool.rec (λ_=>Option dF) none (some (.normal,t,d,s)) (gT ops&&iH (Region.before ops) ls (ops.size-1)))
  (λo _ ih t s ls=>@Bool.rec (λ_=>Option dF) (vp n t o.dst undef (λt1=>ih t1 s ([]::ls)))
   (@St.rec (λ_=>Option dF) (λh nx lg=>vP B call n t o ⟨h,nx,[]⟩ (λt1 s1=>@St.rec (λ_=>Option dF) (λh1 T3 RM=>ih t1 ⟨h1,T3,List.append RM lg⟩ (RM::ls)) s1)) s) (vQ ops t o)) l
noncomputable def ME(r:Option dF)(k:TV->List Deferred->St->Option dF):Option dF :=
 match r with
 | some (.normal,t,d,s)=>k t d s
 | some (e,t,d,s)=>some (e,t,d,s)
 | none=>none
noncomputable def Hw(id:Nat)(r:Option dF):Option dF :=
 match r with
 | some (.exit i,t,d,s)=>@Bool.rec (λ_=>Option dF) (some (.exit i,t,d,s)) (some (.normal,t,d,s)) (Nat.beq i id)
 | some (e,t,d,s)=>some (e,t,d,s)
 | none=>none
noncomputable def D4(r:Option dF):Option dF :=
 match r with
 | some (.goto _,_,_,_)=>none
 | some (e,t,d,s)=>some (e,t,d,s)
 | none=>none
noncomputable def Hx(run:Code->TV->List Deferred->St->Option dF)(body:Code)(r:Option dF):Option dF :=
 match r with
 | some (.goto l,t,d,s)=>(match findLabel body l with | some rest=>D4 (run rest t d s) | none=>none)
 | some (e,t,d,s)=>some (e,t,d,s)
 | none=>none
noncomputable def Oi(v:Value)(x y:Option dF):Option dF :=
 match v with
 | .bool b=>@Bool.rec (λ_=>Option dF) y x b
 | _=>none
noncomputable def lO{β:Type}(l:List Value):Nat->TV->(TV->β)->β :=
 @List.rec Value (λ_=>Nat->TV->(TV->β)->β) (λ_ t k=>k t) (λv _ ih i t k=>TV.mc 12 t i v (λt1=>ih (Nat.succ i) t1 k)) l
noncomputable def TV.Pt(t:TV)(k:Nat):Nat->List Value:=@Nat.rec (λ_=>Nat->List Value) (λ_=>[]) (λ_ ih i=>t.get i::ih (Nat.succ i)) k
noncomputable def TV.Pu{β:Type}(t:TV)(k:Nat):Nat->(List Value->β)->β:=@Nat.rec (λ_=>Nat->(List Value->β)->β) (λ_ f=>f []) (λ_ ih i f=>Hp (t.get i) (λv=>ih (Nat.succ i) (λl=>f (v::l)))) k
noncomputable def TV.act(t:TV)(n:Nat):Act:=⟨⟨t.Pt n 0⟩,[]⟩
noncomputable def Ae(t:TV)(r:ResultVar)(ih:Option (List Value)):Option (List Value) :=
 match r,ih with
 | .tmp i,some l=>some (t.get i::l)
 | _,_=>none
noncomputable def vR(t:TV)(l:List ResultVar):Option (List Value):=@List.rec ResultVar (λ_=>Option (List Value)) (some []) (λr _ ih=>Ae t r ih) l
noncomputable def Pv(P:Program)(fn:Func)(t:TV)(s:St):Option (Value×St) :=
 match fn.results.toList with
 | [.tmp i]=>some (t.get i,s)
 | []=>some (.tuple #[],s)
 | a::b::l=>(match vR t (a::b::l) with | some vs=>some (.tuple ⟨vs⟩,s) | none=>az P (results fn (t.act fn.ntmps).tmps) s)
 | _=>az P (results fn (t.act fn.ntmps).tmps) s
noncomputable def MF(P:Program)(fn:Func)(t:TV)(d:List Deferred)(s:St):Option (Value×St) :=
 match kO P d s with
 | some (_,s1)=>Pv P fn t s1
 | none=>none
noncomputable def xD(P:Program)(fn:Func)(r:Option dF):Option (Value×St) :=
 match r with
 | some (.ret,t,d,s)=>MF P fn t d s
 | some (.normal,t,d,s)=>MF P fn t d s
 | _=>none
noncomputable def dG(B:Base)(run:om)(f:FuncId)(args:List Value)(s:St):Option (Value×St) :=
 match aP.Mb f args with
 | some r=>some (r,s)
 | none =>
 match aP.wL f args with
 | some q=>u9 q s
 | none =>
 match B.F.get f with
 | some fn =>
  match fn.body with
  | some body=>@Bool.rec (λ_=>Option (Value×St)) none (lO args 0 .leaf (λt=>xD B.P fn (run none fn.ntmps body t [] s))) (Nat.ble args.length fn.ntmps&&Nat.ble fn.ntmps 4094)
  | none=>none
 | none=>none
noncomputable def Oj(P:Program)(l:Nat)(r:Option dF):Option (Value×St) :=
 match r with
 | some (e,_,_,s)=>u_ P l e s
 | none=>none
noncomputable def Pw(B:Base)(run:om)(l n:Nat)(body:Code)(r:Option dF):Option (Value×St) :=
 match r with
 | some (.normal,t,d,s) =>
  match az B.P (Instr.beginRound l) s with
  | some (_,s1)=>Oj B.P l (run (some l) n body t d s1)
  | none=>none
 | _=>none
noncomputable def Cq(B:Base)(run:om)(l:Nat)(tmps:List Value)(assign body:Code)(s:St):Option (Value×St) :=
 rJ tmps.length (λn=>@Bool.rec (λ_=>Option (Value×St)) none (lO tmps 0 .leaf (λt=>Pw B run l n body (run (some l) n assign t [] s))) (Nat.ble n 4094))
noncomputable def D5(B:Base)(run:om)(c:TK)(s:St):Option (Value×St) :=
 match c with
 | .fn f args=>dG B run f args.toList s
 | .G' l tmps assign body=>Cq B run l tmps.toList assign body s
noncomputable def qn(B:Base)(t:TV)(g:Operand)(l:Nat):Option (FuncId×List Value) :=
 match db t g with
 | .func (.func f) first captured=>@Bool.rec (λ_=>Option (FuncId×List Value)) none (some (f,List.append first.toList (.func (.yield l) #[] #[]::captured.toList))) (aZ g&&Tk B f)
 | _=>none
noncomputable def Ol(run:om)(rd:Option Nat)(n:Nat)(j:Option Code)(t:TV)(d:List Deferred)(s:St):Option dF :=
 match j with
 | none=>some (.normal,t,d,s)
 | some c=>run rd n c t d s
noncomputable def D6(B:Base)(run:om)(rd:Option Nat)(n l:Nat)(t:TV)(d:List Deferred)(r:Option (Value×St)):Option dF :=
 match r with
 | some (_,s2) =>
  match az B.P (Instr.endLoop l) s2 with
  | some (j,s3)=>@Bool.rec (λ_=>Option dF) none (Ol run rd n j t d s3) (od j)
  | none=>none
 | none=>none
noncomputable def Cr(B:Base)(run:om)(rd:Option Nat)(n:Nat)(g:Operand)(ps:Array Tmp)(assign body:Code)(t:TV)(d:List Deferred)(s:St):Option dF :=
 t.Pu n 0 (λL =>
 match az B.P (Instr.enterLoop 0 ⟨L⟩ ps assign body rd) s with
 | some ((l,mark),s1) =>
  match qn B t g l with
  | some (f,args)=>D6 B run rd n l t (List.append mark d) (dG B run f args s1)
  | none=>none
 | none=>none)
noncomputable def Hy(B:Base)(run:om)(rd:Option Nat)(n:Nat)(c:Code)(t:TV)(d:List Deferred)(s:St):Option dF :=
 match c with
 | .skip=>some (.normal,t,d,s)
 | .label _=>some (.normal,t,d,s)
 | .ret=>some (.ret,t,d,s)
 | .exit id=>some (.exit id,t,d,s)
 | .goto l=>some (.goto l,t,d,s)
 | .seq x y=>ME (run rd n x t d s) (λt1 d1 s1=>run rd n y t1 d1 s1)
 | .cond c x y=>@Bool.rec (λ_=>Option dF) none (Oi (db t c) (run rd n x t d s) (run rd n y t d s)) (aZ c)
 | .block id body=>Hw id (run rd n body t d s)
 | .loop body=>ME (run rd n body t d s) (λt1 d1 s1=>run rd n (.loop body) t1 d1 s1)
 | .scope body=>(match rd with | none=>Hx (run none n) body (run none n body t d s) | some _=>none)
 | .rangeFunc g ps assign body=>Cr B run rd n g ps assign body t d s
 | .region _ ops draw=>@Bool.rec (λ_=>Option dF) (Ab B (D5 B run) n ops d ops.toList t s) (Ad B (D5 B run) n ops d ops.toList t s []) draw
 | _=>none
noncomputable def FW{α β:Type}(l:List α):(List α->β)->β :=
 @List.rec α (λ_=>(List α->β)->β) (λk=>k []) (λv _ ih k=>ih (λl=>k (v::l))) l
noncomputable def cZ{β:Type}(P:Program)(k:Base->β):β :=
 match P with
 | ⟨⟨a1,a2,a3,a4,types,a6,a7,a8,a9,Q9,Q_⟩,funcs⟩=>FW types.toList (λL=>FW funcs.toList (λM=>gU.Od L 0 .leaf (λT=>gU.Od M 0 .leaf (λF=>k ⟨⟨⟨a1,a2,a3,a4,⟨L⟩,a6,a7,a8,a9,Q9,Q_⟩,⟨M⟩⟩,T,F⟩))))
noncomputable def tn(B:Base)(fuel:Nat):om :=
 @Nat.rec (λ_=>om) (λ_ _ _ _ _ _=>none) (λ_ ih rd n c t d s=>Hy B ih rd n c t d s) fuel
end Go.Ev
