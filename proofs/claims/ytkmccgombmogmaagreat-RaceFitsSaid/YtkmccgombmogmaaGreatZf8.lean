/- Part of a proof: see the last text. -/
import Derived.Test.YtkmccgombmogmaaGreatZf7
import GoSem.Core.CheckCode
set_option linter.unusedSectionVars false
set_option linter.unusedSimpArgs false
set_option linter.unusedVariables false
namespace Go.Ev
open Go.RowKit
variable[bB]
theorem bind_ok{ε α β:Type}{x:Except ε α}{f:α->Except ε β}{r:β}(h:x >>= f=.ok r):∃ a,x=.ok a/\f a=.ok r:=by
 cases x with
 | error e=>cases h
 | ok a=>exact⟨a,rfl,h⟩
theorem forM_ok{ε α:Type}{f:α->Except ε Unit} : ∀ {l:List α},l.forM f=.ok ()->∀ x ∈ l,f x=.ok ():=by
 intro l
 induction l with
 | nil=>intro _ x hx;cases hx
 | cons y rest ih =>
  intro h x hx;obtain⟨u,h1,h2⟩:=bind_ok (show f y >>= (λ_=>rest.forM f)=.ok () from h);rcases List.mem_cons.1 hx with e | e
  ·rw[e];exact h1
  ·exact ih h2 x e
theorem require_ok{b:Bool}{m:String}(h:CheckCode.require b m=.ok ()):b=true:=by
 cases b with
 | true=>rfl
 | false=>cases h
theorem bU.seq{P:Program}{x y:Code}(h:bU P (.seq x y)):bU P x/\bU P y:=by
 obtain⟨fn,bl,lb,h⟩:=h;unfold CheckCode.code at h;obtain⟨_,h1,h2⟩:=bind_ok h;exact⟨⟨fn,bl,lb,h1⟩,⟨fn,bl,lb,h2⟩⟩
theorem bU.cond{P:Program}{c:Operand}{x y:Code}(h:bU P (.cond c x y)):bU P x/\bU P y:=by
 obtain⟨fn,bl,lb,h⟩:=h;unfold CheckCode.code at h;obtain⟨_,_,h⟩:=bind_ok h;obtain⟨_,h1,h2⟩:=bind_ok h;exact⟨⟨fn,bl,lb,h1⟩,⟨fn,bl,lb,h2⟩⟩
theorem bU.block{P:Program}{id:Nat}{x:Code}(h:bU P (.block id x)):bU P x:=by
 obtain⟨fn,bl,lb,h⟩:=h;unfold CheckCode.code at h;exact⟨fn,_,_,h⟩
theorem bU.loop{P:Program}{x:Code}(h:bU P (.loop x)):bU P x:=by
 obtain⟨fn,bl,lb,h⟩:=h;unfold CheckCode.code at h;exact⟨fn,_,_,h⟩
theorem bU.scope{P:Program}{x:Code}(h:bU P (.scope x)):bU P x:=by
 obtain⟨fn,bl,lb,h⟩:=h;unfold CheckCode.code at h;exact⟨fn,_,_,h⟩
theorem z8{P:Program}{fn:Func}{bl lb:List Nat}{l:Nat} : ∀ {c rest:Code},CheckCode.code P fn bl lb c=.ok ()->findLabel c l=some rest->CheckCode.code P fn bl lb rest=.ok ():=by
 intro c
 induction c with
 | seq x y Oc ihy =>
  intro rest h hf;unfold CheckCode.code at h;obtain⟨_,h1,h2⟩:=bind_ok h;unfold findLabel at hf
  split at hf
  ·rename_i r hr
   cases hf;have:=Oc h1 hr;unfold CheckCode.code;rw[this];exact h2
  ·exact ihy h2 hf
 | label l' =>
  intro rest h hf;unfold findLabel at hf
  split at hf
  ·cases hf;rfl
  ·cases hf
 | _=>intro rest h hf;cases hf
theorem bU.label{P:Program}{c rest:Code}{l:Nat}(h:bU P c)(hf:findLabel c l=some rest):bU P rest:=by
 obtain⟨fn,bl,lb,h⟩:=h;exact⟨fn,bl,lb,z8 h hf⟩
theorem tM{P:Program}{c:Code}{a:Act}{w:World}{Q:Exit->Act->World->Prop}(h:c.wp P (λe a w=>match e with | .goto l=>∃ rest,findLabel c l=some rest/\rest.wp P (Exit.noGoto Q) a w | e=>Q e a w) a w):(Code.scope c).wp P Q a w:=by
 intro b k cs;obtain⟨e,a₁,w₁,hq,harr⟩:=h b (.inScope c::k) cs;cases e with
 | normal=>exact⟨.normal,a₁,w₁,hq,.head step_scope (Steps.trans harr (.one step_inScope))⟩
 | exit id=>exact⟨.exit id,a₁,w₁,hq,λk' hk=>.head step_scope (harr k' (by simp[exitTo,hk]))⟩
 | goto l =>
  obtain⟨rest,hf,hr⟩:=hq;have hg:gotoIn l (.inScope c::k)=some (.code rest::.inScope c::k):=by simp[gotoIn,hf]
  obtain⟨e₂,a₂,w₂,hq₂,harr₂⟩:=hr b (.inScope c::k) cs;cases e₂ with
  | normal=>exact⟨.normal,a₂,w₂,hq₂,.head step_scope (Steps.trans (harr _ hg) (Steps.trans harr₂ (.one step_inScope)))⟩
  | exit id=>exact⟨.exit id,a₂,w₂,hq₂,λk' hk=>.head step_scope (Steps.trans (harr _ hg) (harr₂ k' (by simp[exitTo,hk])))⟩
  | goto l'=>exact hq₂.elim
  | ret=>exact⟨_,a₂,w₂,hq₂,.of_steps (.head step_scope (harr _ hg)) harr₂⟩
  | panic ch=>exact⟨_,a₂,w₂,hq₂,.of_steps (.head step_scope (harr _ hg)) harr₂⟩
  | outgrown=>exact⟨_,a₂,w₂,hq₂,.of_steps (.head step_scope (harr _ hg)) harr₂⟩
 | ret=>exact⟨_,a₁,w₁,hq,.of_steps (.one step_scope) harr⟩
 | panic ch=>exact⟨_,a₁,w₁,hq,.of_steps (.one step_scope) harr⟩
 | outgrown=>exact⟨_,a₁,w₁,hq,.of_steps (.one step_scope) harr⟩
theorem bU.region{P:Program}{id:Nat}{ops:Array Oper}{draw:Bool}(h:bU P (.region id ops draw)):Region.ok P.types ops draw=true:=by
 obtain⟨fn,bl,lb,h⟩:=h;unfold CheckCode.code at h;unfold CheckCode.region at h;obtain⟨_,_,h⟩:=bind_ok h;obtain⟨_,_,h⟩:=bind_ok h;exact require_ok h
theorem bU.rangeFunc{P:Program}{g:Operand}{ps:Array Tmp}{x y:Code}(h:bU P (.rangeFunc g ps x y)):bU P x/\bU P y:=by
 obtain⟨fn,bl,lb,h⟩:=h;unfold CheckCode.code at h;obtain⟨_,_,h⟩:=bind_ok h;obtain⟨_,_,h⟩:=bind_ok h;obtain⟨_,_,h⟩:=bind_ok h;obtain⟨_,h1,h2⟩:=bind_ok h;exact⟨⟨fn,_,_,h1⟩,⟨fn,_,_,h2⟩⟩
theorem vP{P:Program}(hP:P.check=.ok ()){f:FuncId}{fn:Func}{body:Code}(hf:P.funcs[f]? = some fn)(hb:fn.body=some body):bU P body:=by
 unfold Program.check at hP;obtain⟨_,h,_⟩:=bind_ok hP;have hlt:f<P.funcs.size:=(Array.getElem?_eq_some_iff.1 hf).1;have h1:=forM_ok h f (List.mem_range.2 hlt);unfold CheckCode.funcAt at h1;rw[hf]at h1;dsimp only at h1;have h2:CheckCode.func P fn=.ok ():=by
  cases hx:CheckCode.func P fn with
  | ok u=>rfl
  | error e=>rw[hx]at h1;cases h1
 unfold CheckCode.func at h2;obtain⟨_,_,h2⟩:=bind_ok h2;obtain⟨_,_,h2⟩:=bind_ok h2;obtain⟨_,_,h2⟩:=bind_ok h2;rw[hb]at h2;dsimp only at h2;obtain⟨_,_,h2⟩:=bind_ok h2;obtain⟨_,h3,_⟩:=bind_ok h2;exact⟨fn,[],[],h3⟩
def CZ(P:Program)(base:Nat->Prop)(run:Runner):Prop :=
 ∀ rd c a s ex a1 s1,run rd c a s=some (ex,a1,s1)->bU P c->m6 s s.next s1.next->∀ (ι:am) (ro:Option Nat) (A:Act) (w:World),n_ ι rd ro->cA ι a A->dL P base ι s.look w->eA ι s s1->∀ Q:Exit->Act->World->Prop,
  (∀ κ A1 w1,cA κ a1 A1->Goes P base ι κ s s1 w w1->Q ex A1 w1)->c.wpIn (FR ro) 0 P Q A w
theorem dM.next{run:Runner}(hl:dM run){rd:Option Nat}{c:Code}{a a1:Act}{s s1:St}{e:Exit}(h:run rd c a s=some (e,a1,s1)):s.next<=s1.next :=
 (hl rd c a).next (r:=(e,a1)) (by unfold tj;rw[h])
theorem dM.win{run:Runner}(hl:dM run){rd:Option Nat}{c:Code}{a a1:Act}{s s1:St}{e:Exit}(h:run rd c a s=some (e,a1,s1)){m:Nat}(hw:m6 s s.next m)(hm:s1.next<=m):m6 s1 s1.next m :=
 (hl rd c a).win (r:=(e,a1)) (by unfold tj;rw[h]) hw hm
theorem jk{α β:Type}{P:Program}{base:Nat->Prop}{R:am->α->β->Prop}{ι:am}{m:Sem α}{m':Sem β}(h:au P base R ι m m'){s s1:St}{w:World}{x:α}(hr:dL P base ι s.look w)(hx:ay P m s=some (x,s1))(hfr:eA ι s s1) :
  ∃ κ y w1,m'.run P w=.ok y w1/\R κ x y/\Goes P base ι κ s s1 w w1:=by
 obtain⟨κ,y,w1,h1,h2,h3,h4,h5⟩:=h s w x s1 hr hx hfr;exact⟨κ,y,w1,h1,h4,h2,h3,h5⟩
theorem qj{P:Program}{base:Nat->Prop}{fn:Func}{T:Array Value}{R:Ending->World->Prop} : ∀ (ds ds':List Deferred) (s s1:St) (ι:am) (w:World),mT ι ds ds'->kH P ds s=some ((),s1)->dL P base ι s.look w->eA ι s s1->
  (∀ κ w1,Goes P base ι κ s s1 w w1->LeavesInM Fence.wide 0 P fn T R [] .returning w1)->LeavesInM Fence.wide 0 P fn T R ds' .returning w:=by
 intro ds
 induction ds with
 | nil =>
  intro ds' s s1 ι w hd h hr hfr hg;cases hd;cases h;exact hg ι w (Goes.refl hr)
 | cons d ds ih =>
  intro ds' s s1 ι w hd h hr hfr hg;cases hd with
  | cons r r' l l' hr' ht =>
   simp only[kH]at h
   split at h
   ·rename_i x s2 hx
    have n1:=dw P _ _ _ _ hx;have n2:=(iK P ds).next h
    obtain⟨κ,y,w1,h1,⟨e1,e2⟩,g⟩:=jk (py (P:=P) (base:=base) hr') hr hx (hfr.left n2);subst e2;refine⟨(λh=>by cases h),.inl ⟨r',w1,rfl,h1,?_⟩⟩;exact ih l' s2 s1 κ w1 (ht.mono (g.le (hfr.left n2))) h g.rep (hfr.right g n1) (λμ w2 g2=>hg μ w2 (g.trans g2 n1 n2))
   ·cases h
theorem ua{P:Program}{base:Nat->Prop}(hP:P.check=.ok ())(dA:dR P){run:Runner}(hl:dM run)(hrun:CZ P base run) :
  ∀ f args s v s1,ij P run f args s=some (v,s1)->m6 s s.next s1.next->∀ ι args' w,dL P base ι s.look w->bZ ι args args'->eA ι s s1->
   Calls P f args' w λe w1=>∃ κ v',e=.returned v'/\Goes P base ι κ s s1 w w1/\aq κ v v':=by
 intro f args s v s1 h hwin;unfold ij at h
 split at h
 ·rename_i r hq
  cases h;intro ι args' w hr ha hfr;refine(dA.I8 f args _ hq ι args' w ha).mono ?_;rintro e w1 ⟨v',rfl,hv,hb⟩;exact⟨ι,v',rfl,Goes.pF hr hb _ (λ_=>rfl),hv⟩
 ·split at h
  ·rename_i q hq
   intro ι args' w hr ha hfr;obtain⟨g,F,ng,g1,g2,g3,g4,g5⟩:=nG h hwin hr hfr;refine(dA.xj f args q hq g _ _ ng g1 ι args' F w ha g2 g3 g4).mono ?_;rintro e w1 ⟨v',rfl,hg⟩;obtain⟨κ,gg,hv⟩:=g5 v' w1 hg;exact⟨κ,v',rfl,gg,hv⟩
  split at h
  case h_2=>cases h
  rename_i fn hf
  split at h
  ·rename_i body hb
   split at h
   ·rename_i ex a s2 hr1
    unfold jP at h
    split at h
    ·rename_i hex
     split at h
     ·rename_i s3 hmk
      have n1:=hl.next hr1
      have n2:=(iK P a.defers).next hmk
      have n3:=dw P _ _ _ _ h;have hs:=hrun _ _ _ _ _ _ _ hr1 (vP hP hf hb) (hwin.left (Nat.le_trans n2 n3));intro ι args' w hr ha hfr;refine callsIn_wide.1 (callsIn_of_wp_marks (F:=Fence.wide) (n:=0) hf hb trivial ?_);have hact:cA ι { tmps:=args++Array.replicate (fn.ntmps-args.size) undef,defers:=[] } { tmps:=args'++Array.replicate (fn.ntmps-args'.size) undef,defers:=[] }:=by
       refine⟨?_,.nil⟩;rw[ha.1];refine ha.append (bZ.of_flat (λi x hx=>?_));rw[Array.getElem?_replicate]at hx
       split at hx
       ·cases hx;exact fj ι
       ·cases hx
      refine hs ι none _ w trivial hact hr (hfr.left (Nat.le_trans n2 n3)) _ (λκ A1 w1 hA1 g=>?_);have f1:=hfr.right g n1;have fin:LeavesInM Fence.wide 0 P fn A1.tmps (λe w1=>∃ κ v',e=.returned v'/\Goes P base ι κ s s1 w w1/\aq κ v v') A1.defers .returning w1:=by
       refine qj a.defers A1.defers s2 s3 κ w1 hA1.I' hmk g.rep (f1.left n3) (λμ w2 g2=>?_);have f2:=f1.right g2 n2;obtain⟨ν,v',w3,r1,r4,g3⟩:=jk (qf (P:=P) (base:=base) fn (hA1.tmps.mono (g2.le (f1.left n3)))) g2.rep h f2;have hw:=mZ (P:=P) fn A1.tmps w2 v' w3 r1;subst hw;exact⟨v',r1,ν,v',rfl,g.trans (g2.trans g3 n2 n3) n1 (Nat.le_trans n2 n3),r4⟩
      cases ex with
      | normal=>exact fin
      | ret=>exact fin
      | _=>cases hex
     ·cases h
    ·cases h
   ·cases h
  ·cases h
theorem C0{P:Program}{base:Nat->Prop}{run:Runner}(hl:dM run)(hrun:CZ P base run) :
  ∀ l tmps assign body s v s1,nB P run l tmps assign body s=some (v,s1)->bU P assign->bU P body->m6 s s.next s1.next->∀ ι l' mW w,dL P base ι s.look w->ι l=some l'->bZ ι tmps mW->eA ι s s1->
   ∀ f',RoundIn Fence.wide 0 P l' f' mW assign body w λe w1=>∃ κ v',e=.returned v'/\Goes P base ι κ s s1 w w1/\aq κ v v':=by
 intro l tmps assign body s v s1 h o1 o2 hwin ι l' mW w hr hl' ht hfr f';unfold nB at h
 split at h
 case h_2=>cases h
 rename_i e1 a1 s2 h1
 split at h
 case isFalse=>cases h
 rename_i hno
 split at h
 case h_2=>cases h
 rename_i u s3 h2
 split at h
 case h_2=>cases h
 rename_i e2 a2 s4 h3;have m1:=hl.next h1
 have m2:=dw P _ _ _ _ h2;have m3:=hl.next h3
 have m4:s4.next<=s1.next:=by
  unfold tD at h
  split at h
  ·exact dw P _ _ _ _ h
  ·cases h
 have SC:e1=.normal:=by cases e1<;>first | rfl | cases hno
 subst SC;refine roundIn_of_wpIn (F:=Fence.wide) trivial ?_;have w2:=hl.win h1 hwin (by omega);have w3:=(cO P (Instr.beginRound l)).win h2 w2 (by omega);refine hrun _ _ _ _ _ _ _ h1 o1 (hwin.left (by omega)) ι (some l') _ w hl' ⟨ht,.nil⟩ hr (hfr.left (by omega)) _ (λκ A1 w1 hA1 g=>?_);have f1:=hfr.right g m1;have k1:κ l=some l':=(g.le (hfr.left (by omega))) _ _ hl';obtain⟨μ,y,w2',r1,_,g2⟩:=jk (ri (P:=P) (base:=base) k1) g.rep h2 (f1.left (by omega));have f2:=f1.right g2 m2;have NE:=g2.le (f1.left (by omega));refine⟨w2',r1,?_⟩;refine hrun _ _ _ _ _ _ _ h3 o2 (w3.left (by omega)) μ (some l') A1 w2' (NE _ _ k1) (hA1.mono NE) g2.rep (f2.left (by omega)) _ (λν A2 w3' hA2 g3=>?_);have f3:=f2.right g3 m3;have Qp:=g3.le (f2.left (by omega));unfold tD at h
 split at h
 ·rename_i j hj
  obtain⟨ξ,v',w4,q1,q2,g4⟩:=jk (vm (P:=P) (base:=base) (Qp _ _ (NE _ _ k1)) j) g3.rep h f3;have gg:Goes P base ι ξ s s1 w w4:=g.trans (g2.trans (g3.trans g4 m3 m4) m2 (by omega)) m1 (by omega);cases e2 with
  | normal=>cases hj;exact⟨v',w4,q1,ξ,v',rfl,gg,q2⟩
  | ret=>cases hj;exact⟨v',w4,q1,ξ,v',rfl,gg,q2⟩
  | exit id=>cases hj;exact⟨v',w4,q1,ξ,v',rfl,gg,q2⟩
  | _=>cases hj
 ·cases h
theorem x6{P:Program}{base:Nat->Prop}(hP:P.check=.ok ())(dA:dR P){run:Runner}(hl:dM run)(hrun:CZ P base run):nF P base (lP P run) :=
 ⟨ua hP dA hl hrun,C0 hl hrun⟩
theorem C1{P:Program}{base:Nat->Prop}(hP:P.check=.ok ())(dA:dR P){run:Runner}(hl:dM run)(hrun:CZ P base run)(Qq:∀ rd c a s,(c=.ret\/∃ id,c=.exit id)->∀ r,run rd c a s=some r->r=(match c with | .ret=>Exit.ret | .exit id=>Exit.exit id | _=>Exit.normal,a,s))
  {rd:Option Nat} {g:Operand} {ps:Array Tmp} {assign body:Code} {a:Act} {s:St} {ex:Exit} {a1:Act} {s1:St} (h:nD P run rd g ps assign body a s=some (ex,a1,s1)) (o1:bU P assign) (o2:bU P body) (hwin:m6 s s.next s1.next)
  (ι:am) (ro:Option Nat) (A:Act) (w:World) (hrd:n_ ι rd ro) (hA:cA ι a A) (hr:dL P base ι s.look w) (hfr:eA ι s s1) (Q:Exit->Act->World->Prop)
  (hQ:∀ κ A1 w1,cA κ a1 A1->Goes P base ι κ s s1 w w1->Q ex A1 w1):(Code.rangeFunc g ps assign body).wpIn (FR ro) 0 P Q A w:=by
 unfold nD at h
 split at h
 case h_2=>cases h
 rename_i l mark s2 h1
 split at h
 case h_2=>cases h
 rename_i f args h2
 split at h
 case h_2=>cases h
 rename_i v s3 h3
 split at h
 case h_2=>cases h
 rename_i j s4 h4
 split at h
 case isFalse=>cases h
 rename_i hj;have m1:=dw P _ _ _ _ h1;have m2:=(kL hl f args).next h3
 have m3:=dw P _ _ _ _ h4;have last:s1=s4/\a1 = { a with defers:=mark++a.defers }/\((j=none/\ex=.normal)\/(j=some .ret/\ex=.ret)\/∃ id,j=some (.exit id)/\ex=.exit id):=by
  cases j with
  | none=>cases h;exact⟨rfl,rfl,.inl ⟨rfl,rfl⟩⟩
  | some c =>
   have hc:c=.ret\/∃ id,c=.exit id:=by
    unfold nC at hj
    split at hj
    ·rename_i e;cases e
    ·rename_i e;cases e;exact .inl rfl
    ·rename_i id e;cases e;exact .inr ⟨id,rfl⟩
    ·cases hj
   have:=Qq rd c _ _ hc _ h;rcases hc with rfl | ⟨id,rfl⟩
   ·cases this;exact⟨rfl,rfl,.inr (.inl ⟨rfl,rfl⟩)⟩
   ·cases this;exact⟨rfl,rfl,.inr (.inr ⟨id,rfl,rfl⟩)⟩
 obtain⟨rfl,rfl,SD⟩:=last;refine wpIn_rangeFunc (λfn _=>?_);obtain⟨κ,⟨l',mark'⟩,w1,q1,⟨k1,k2⟩,g1⟩:=jk (tA (P:=P) (base:=base) 0 fn ps assign body hA.tmps hrd o1 o2) hr h1 (hfr.left (by omega));have f1:=hfr.right g1 m1;have PJ:=g1.le (hfr.left (by omega));have Qr:=(cO P _).win h1 hwin (by omega);unfold gD at h2
 split at h2
 case isFalse=>cases h2
 rename_i hgo
 split at h2
 case h_2=>cases h2
 rename_i f0 first captured hg
 split at h2
 case isFalse=>cases h2
 rename_i hfn;cases h2;have hv:=aD hA g hgo;rw[hg]at hv;generalize SE:A.eval g=Ag at hv;cases hv with
 | func _ _ f' _ c' hy hf hc h5 h6 =>
  have hargs:bZ κ ((first ++ #[.func (.yield l) #[] #[]])++captured) ((f' ++ #[.func (.yield l') #[] #[]])++c'):=by
   refine bZ.append (bZ.append (bZ.mono PJ ⟨hf,h5⟩) ⟨rfl,?_⟩) (bZ.mono PJ ⟨hc,h6⟩);intro i x y hx hy
   match i with
   | 0 =>
    simp only[List.size_toArray,List.length_cons,List.length_nil,Nat.zero_add,Nat.lt_add_one,Array.getElem?_eq_getElem,List.getElem_toArray,List.getElem_cons_zero,Option.some.injEq]at hx hy;subst hx hy;exact .yield _ _ k1
   | i+1=>simp at hx
  refine⟨l',mark',w1,{ target:=.fn (.func f) c',args:=f' ++ #[.func (.yield l') #[] #[]] },w1,f,(f' ++ #[.func (.yield l') #[] #[]])++c',w1,?_,?_,λf _=>Bx ro f,?_,vM ro,?_⟩
  ·rw[ED];exact q1
  ·have hres:resolve A.eval (rangeCall g l') 0=Deferred.ofValue (A.eval g) #[.func (.yield l') #[] #[]]:=by
    unfold resolve;simp[rangeCall,Act.eval]
   rw[hres,SE];rfl
  ·exact kF hfn _ w1
  ·refine By ro ((ua hP dA hl hrun _ _ _ _ _ h3 (Qr.left m3) κ _ w1 g1.rep hargs (f1.left m3)).mono ?_)
   rintro e w2 ⟨μ,v',rfl,g2,_⟩;have NE:=g2.le (f1.left m3);have f2:=f1.right g2 m2;obtain⟨ν,j',w3,q3,ej,g3⟩:=jk (xD (P:=P) (base:=base) (NE _ _ k1)) g2.rep h4 f2;subst ej;have Qp:=g3.le f2;have gg:Goes P base ι ν s s1 w w3:=g1.trans (g2.trans g3 m2 m3) m1 (by omega);have hA2:cA ν { a with defers:=mark++a.defers } { A with defers:=mark'++A.defers }:=by
    have Lg:=gg.le hfr;exact⟨hA.tmps.mono Lg,mT.append ((k2.mono NE).mono Qp) (hA.I'.mono Lg)⟩
   refine⟨j',w3,q3,?_⟩;rcases SD with ⟨rfl,rfl⟩ | ⟨rfl,rfl⟩ | ⟨id,rfl,rfl⟩
   ·exact hQ _ _ _ hA2 gg
   ·exact wpIn_ret (hQ _ _ _ hA2 gg)
   ·exact wpIn_exit (hQ _ _ _ hA2 gg)
theorem EJ{P:Program}{base:Nat->Prop}(hP:P.check=.ok ())(dA:dR P)(hm:P.follows .mixedOrders=true):∀ n,CZ P base (ev P n)/\∀ rd body a s ex a1 s1,ev P n rd (.loop body) a s=some (ex,a1,s1)->bU P body->m6 s s.next s1.next->∀ (ι:am) (ro:Option Nat) (A:Act) (w:World),n_ ι rd ro->cA ι a A->dL P base ι s.look w->eA ι s s1->∀ Q:Exit->Act->World->Prop,
  (∀ κ A1 w1,cA κ a1 A1->Goes P base ι κ s s1 w w1->Q ex A1 w1)->Code.roundsIn (FR ro) 0 P body Q n A w:=by
 intro n
 induction n with
 | zero=>exact⟨(λrd c a s ex a1 s1 h=>by cases h),(λrd body a s ex a1 s1 h=>by cases h)⟩
 | succ n ih =>
  obtain⟨ih1,ih2⟩:=ih;have hl:=ot P n;have hloop:∀ rd body a s ex a1 s1,ev P (n+1) rd (.loop body) a s=some (ex,a1,s1)->bU P body->m6 s s.next s1.next->∀ (ι:am) (ro:Option Nat) (A:Act) (w:World),n_ ι rd ro->cA ι a A->dL P base ι s.look w->eA ι s s1->∀ Q:Exit->Act->World->Prop,
    (∀ κ A1 w1,cA κ a1 A1->Goes P base ι κ s s1 w w1->Q ex A1 w1)->Code.roundsIn (FR ro) 0 P body Q (n+1) A w:=by
   intro rd body a s ex a1 s1 h hco hwin;simp only[ev]at h
   split at h
   ·rename_i a2 s2 hb
    have n1:=hl.next hb
    have n2:=hl.next h
    intro ι ro A w hrd hA hr hfr Q hQ;rw[roundsIn_succ];refine ih1 _ _ _ _ _ _ _ hb hco (hwin.left n2) ι ro A w hrd hA hr (hfr.left n2) _ (λκ A1 w1 hA1 g=>?_);exact ih2 _ _ _ _ _ _ _ h hco (hl.win hb hwin n2) κ ro A1 w1 (hrd.mono (g.le (hfr.left n2))) hA1 g.rep (hfr.right g n1) Q (λμ A2 w2 hA2 g2=>hQ μ A2 w2 hA2 (g.trans g2 n1 n2))
   ·rename_i hb
    intro ι ro A w hrd hA hr hfr Q hQ;rw[roundsIn_succ];refine ih1 _ _ _ _ _ _ _ h hco hwin ι ro A w hrd hA hr hfr _ (λκ A1 w1 hA1 g=>?_);have:=hQ κ A1 w1 hA1 g;cases ex with
    | normal=>exact(hb _ _ h).elim
    | _=>exact this
  refine⟨?_,λrd body a s ex a1 s1 h hco hwin ι ro A w hrd hA hr hfr Q hQ=>hloop rd body a s ex a1 s1 h hco hwin ι ro A w hrd hA hr hfr Q hQ⟩;intro rd c a s ex a1 s1 h hco hwin;cases c with
  | skip =>
   simp only[ev]at h;cases h;exact λι ro A w hrd hA hr hfr Q hQ=>wpIn_skip (hQ ι A w hA (Goes.refl hr))
  | label l =>
   simp only[ev]at h;cases h;exact λι ro A w hrd hA hr hfr Q hQ=>wpIn_label (hQ ι A w hA (Goes.refl hr))
  | ret =>
   simp only[ev]at h;cases h;exact λι ro A w hrd hA hr hfr Q hQ=>wpIn_ret (hQ ι A w hA (Goes.refl hr))
  | exit id =>
   simp only[ev]at h;cases h;exact λι ro A w hrd hA hr hfr Q hQ=>wpIn_exit (hQ ι A w hA (Goes.refl hr))
  | goto l =>
   simp only[ev]at h;cases h;exact λι ro A w hrd hA hr hfr Q hQ=>wpIn_goto (hQ ι A w hA (Goes.refl hr))
  | seq x y =>
   obtain⟨Od,PT⟩:=hco.seq;simp only[ev]at h
   split at h
   ·rename_i a2 s2 hb
    have n1:=hl.next hb
    have n2:=hl.next h
    refine λι ro A w hrd hA hr hfr Q hQ=>wpIn_seq ?_
    refine ih1 _ _ _ _ _ _ _ hb Od (hwin.left n2) ι ro A w hrd hA hr (hfr.left n2) _ (λκ A1 w1 hA1 g=>?_);exact ih1 _ _ _ _ _ _ _ h PT (hl.win hb hwin n2) κ ro A1 w1 (hrd.mono (g.le (hfr.left n2))) hA1 g.rep (hfr.right g n1) Q (λμ A2 w2 hA2 g2=>hQ μ A2 w2 hA2 (g.trans g2 n1 n2))
   ·rename_i hb
    refine λι ro A w hrd hA hr hfr Q hQ=>wpIn_seq ?_
    refine ih1 _ _ _ _ _ _ _ h Od hwin ι ro A w hrd hA hr hfr _ (λκ A1 w1 hA1 g=>?_);have:=hQ κ A1 w1 hA1 g;cases ex with
    | normal=>exact(hb _ _ h).elim
    | _=>exact this
  | cond c x y =>
   obtain⟨Od,PT⟩:=hco.cond;simp only[ev]at h
   split at h
   ·rename_i b hok hb
    have co:bU P (if b=true then x else y):=by cases b<;>assumption
    refine λι ro A w hrd hA hr hfr Q hQ=>?_
    have hv:=aD hA c hok;rw[hb]at hv;generalize Qb:A.eval c=Ac at hv;cases hv;exact wpIn_cond Qb (ih1 _ _ _ _ _ _ _ h co hwin ι ro A w hrd hA hr hfr Q hQ)
   ·cases h
  | block id body =>
   have co:=hco.block;simp only[ev]at h
   split at h
   ·rename_i i a2 s2 hb
    split at h
    ·rename_i he
     cases h;refine λι ro A w hrd hA hr hfr Q hQ=>wpIn_block (ih1 _ _ _ _ _ _ _ hb co hwin ι ro A w hrd hA hr hfr _ (λκ A1 w1 hA1 g=>?_))
     show(if i=id then Q .normal A1 w1 else Q (.exit i) A1 w1);rw[if_pos he];exact hQ κ A1 w1 hA1 g
    ·rename_i he
     cases h;refine λι ro A w hrd hA hr hfr Q hQ=>wpIn_block (ih1 _ _ _ _ _ _ _ hb co hwin ι ro A w hrd hA hr hfr _ (λκ A1 w1 hA1 g=>?_))
     show(if i=id then Q .normal A1 w1 else Q (.exit i) A1 w1);rw[if_neg he];exact hQ κ A1 w1 hA1 g
   ·rename_i hb
    refine λι ro A w hrd hA hr hfr Q hQ=>wpIn_block (ih1 _ _ _ _ _ _ _ h co hwin ι ro A w hrd hA hr hfr _ (λκ A1 w1 hA1 g=>?_))
    have:=hQ κ A1 w1 hA1 g;cases ex with
    | exit i=>exact(hb _ _ _ h).elim
    | _=>exact this
  | loop body =>
   exact λι ro A w hrd hA hr hfr Q hQ=>wpIn_loop_rounds (n+1) (hloop rd body a s ex a1 s1 h hco.loop hwin ι ro A w hrd hA hr hfr Q hQ)
  | scope body =>
   have co:=hco.scope;cases rd with
   | some l=>simp[ev]at h
   | none =>
    simp only[ev]at h;unfold vo at h
    split at h
    ·rename_i l a2 s2 hb
     split at h
     case h_2=>cases h
     rename_i rest hf;have n1:=hl.next hb
     have main:∀ r,ev P n none rest a2 s2=some r->(∀ l,r.1≠.goto l)->r=(ex,a1,s1)->s2.next<=s1.next/\∀ (ι:am) (ro:Option Nat) (A:Act) (w:World),n_ ι none ro->cA ι a A->dL P base ι s.look w->eA ι s s1->∀ Q:Exit->Act->World->Prop,
       (∀ κ A1 w1,cA κ a1 A1->Goes P base ι κ s s1 w w1->Q ex A1 w1)->(Code.scope body).wpIn (FR ro) 0 P Q A w:=by
      rintro r hr2 NQ rfl;have n2:=hl.next hr2
      refine⟨n2,λι ro A w hrd hA hr hfr Q hQ=>?_⟩;cases ro with
      | some l=>exact hrd.elim
      | none =>
       refine wpIn_wide.2 (tM (wpIn_wide.1 (ih1 _ _ _ _ _ _ _ hb co (hwin.left n2) ι none A w trivial hA hr (hfr.left n2) _ (λκ A1 w1 hA1 g=>?_))));refine⟨rest,hf,wpIn_wide.1 (ih1 _ _ _ _ _ _ _ hr2 (co.label hf) (hl.win hb hwin n2) κ none A1 w1 trivial hA1 g.rep (hfr.right g n1) _ (λμ A2 w2 hA2 g2=>?_))⟩;have:=hQ μ A2 w2 hA2 (g.trans g2 n1 n2);cases ex with
       | goto l=>exact(NQ _ rfl).elim
       | _=>exact this
     split at h
     ·cases h
     ·rename_i NQ
      exact(main _ h (λl e=>by
       simp only at e;subst e
       exact NQ _ _ _ h) rfl).2
    ·rename_i hb
     refine λι ro A w hrd hA hr hfr Q hQ=>?_
     cases ro with
     | some l=>exact hrd.elim
     | none =>
      refine wpIn_wide.2 (wp_scope_straight (wpIn_wide.1 (ih1 _ _ _ _ _ _ _ h co hwin ι none A w trivial hA hr hfr _ (λκ A1 w1 hA1 g=>?_))));have:=hQ κ A1 w1 hA1 g;cases ex with
      | goto l=>exact(hb _ _ _ h).elim
      | _=>exact this
  | rangeFunc g ps assign body =>
   obtain⟨Od,PT⟩:=hco.rangeFunc;simp only[ev]at h;refine λι ro A w hrd hA hr hfr Q hQ=>C1 hP dA hl ih1 (λrd c a s hc r hr=>?_) h Od PT hwin ι ro A w hrd hA hr hfr Q hQ
   cases n with
   | zero=>cases hr
   | succ n =>
    rcases hc with rfl | ⟨id,rfl⟩
    ·cases hr;rfl
    ·cases hr;rfl
  | region id ops draw =>
   have hok:=hco.region;simp only[ev]at h
   split at h
   ·rename_i a2 s2 hb
    cases h;exact λι ro A w hrd hA hr hfr Q hQ=>vO dA hm (qh hl) (x6 hP dA hl ih1) ro hok hb hwin id hA hr hfr hQ
   ·cases h
  | _=>simp[ev]at h
theorem Bz{P:Program}{base:Nat->Prop}(hP:P.check=.ok ())(dA:dR P)(hm:P.follows .mixedOrders=true)(n:Nat):nF P base (lP P (ev P n)):=x6 hP dA (ot P n) (EJ hP dA hm n).1
theorem mE(id:Nat):s0.look id=none:=Tr.lL _ _
theorem C2(P:Program)(w:World):dL P (· < w.heap.size) (λ_=>none) s0.look w :=
 ⟨(λid id' o o' b h=>by rw[mE]at h;cases h),(λid o h=>by rw[mE]at h;cases h),λk hk=>hk,(λid o g h=>by rw[mE]at h;cases h)⟩
theorem closed{P:Program}(hP:P.check=.ok ())(dA:dR P)(hm:P.follows .mixedOrders=true){n:Nat}{f:FuncId}{args args':Array Value}{v:Value}{s1:St}(h:lP P (ev P n) (.fn f args) s0=some (v,s1))(ha:bZ (λ_=>none) args args')(w:World) :
  Calls P f args' w λe w1=>∃ κ v',e=.returned v'/\Goes P (· < w.heap.size) (λ_=>none) κ s0 s1 w w1/\aq κ v v' :=
 (Bz hP dA hm n).1 f args s0 v s1 h (λid _ _=>mE id) _ args' w (C2 P w) ha (λid _ _=>rfl)
theorem x7{P:Program}(hP:P.check=.ok ())(dA:dR P)(hm:P.follows .mixedOrders=true){n:Nat}{f:FuncId}{args args':Array Value}(h:isTrue (lP P (ev P n) (.fn f args) s0)=true)(ha:bZ (λ_=>none) args args')(w:World) :
  Calls P f args' w λe w1=>e=.returned (.bool true)/\Below w.heap.size w w1:=by
 unfold isTrue at h
 split at h
 ·rename_i b s1 hc
  subst h;refine(closed hP dA hm hc ha w).mono ?_;rintro e w1 ⟨κ,v',rfl,g,hv⟩;cases hv;exact⟨rfl,g.below.below⟩
 ·cases h
@[reducible] def dD:bB where
 val:=λ_=>.int .i64 0
 leaf:=λ_=>rfl
 bin:=λ_ _ _=>none
 zD:=λ_ _ _ _ h=>by cases h
 PH:=λ_ _=>none
 zE:=λ_ _ _ h=>by cases h
 PI:=λ_ _=>none
 zF:=λ_ _ _ h=>by cases h
 I8:=λ_ _=>none
 Br:=λ_ _ _ h=>by cases h
 GR:=λ_ _ _ _=>False
 u6:=λ_ _ _ _ _ _ h=>h
 u7:=λ_ _ _ _ _ _ h=>h
 I2:=λ_ _=>none
 xj:=λ_ _=>none
theorem Oe(P:Program):@dR dD P:=@dR.mk dD P (λ_ _ _ h=>by cases h) (λ_ _ _ h=>by cases h) (λ_ _ _ h=>by cases h)
end Go.Ev
namespace Go.Ev
open Go.RowKit
variable[bB]
inductive TV where
 | leaf
 | node (v:Value) (l r:TV)
noncomputable def TV.get(t:TV):Nat->Value :=
 @TV.rec (λ_=>Nat->Value) (λ_=>undef)
  (λv _ _ gl gr n=>@Bool.rec (λ_=>Value) (@Bool.rec (λ_=>Value) (gr (Nat.sub (Nat.div n 2) 1)) (gl (Nat.div n 2)) (Nat.beq (Nat.mod n 2) 1)) v (Nat.beq n 0)) t
noncomputable def TV.lW{β:Type}(d:Nat):TV->Nat->Value->(TV->β)->β :=
 @Nat.rec (λ_=>TV->Nat->Value->(TV->β)->β) (λt _ _ k=>k t)
  (λ_ ih t n x k=>@TV.rec (λ_=>β)
   (@Bool.rec (λ_=>β)
    (@Bool.rec (λ_=>β) (ih .leaf (Nat.sub (Nat.div n 2) 1) x (λr=>k (.node undef .leaf r))) (ih .leaf (Nat.div n 2) x (λl=>k (.node undef l .leaf))) (Nat.beq (Nat.mod n 2) 1))
    (k (.node x .leaf .leaf)) (Nat.beq n 0))
   (λv l r _ _=>@Bool.rec (λ_=>β)
    (@Bool.rec (λ_=>β) (ih r (Nat.sub (Nat.div n 2) 1) x (λr'=>k (.node v l r'))) (ih l (Nat.div n 2) x (λl'=>k (.node v l' r))) (Nat.beq (Nat.mod n 2) 1))
    (k (.node x l r)) (Nat.beq n 0)) t) d
noncomputable def qA{β:Type}(n:Nat)(k:Nat->β):β:=@Nat.rec (λ_=>β) (k 0) (λm _=>k (Nat.succ m)) n
noncomputable def x8{β:Type}(i:Int)(k:Int->β):β:=@Int.rec (λ_=>β) (λn=>qA n (λn=>k (.ofNat n))) (λn=>qA n (λn=>k (.negSucc n))) i
noncomputable def Jm{β:Type}(a:Option Addr)(k:Option Addr->β):β :=
 match a with
 | none=>k none
 | some ⟨b,off,sp⟩=>qA b (λb=>qA off (λoff=>k (some ⟨b,off,sp⟩)))
noncomputable def EK{β:Type}(v:Value)(k:Value->β):β :=
 match v with
 | .pointer a=>Jm a (λa=>k (.pointer a))
 | .slice a n c=>Jm a (λa=>qA n (λn=>qA c (λc=>k (.slice a n c))))
 | v=>k v
noncomputable def Tr.gt(d:Nat):Tr->Nat->Option Obj :=
 @Nat.rec (λ_=>Tr->Nat->Option Obj) (λ_ _=>none)
  (λ_ ih t n=>@Tr.rec (λ_=>Option Obj) none (λv l r _ _=>@Bool.rec (λ_=>Option Obj) (@Bool.rec (λ_=>Option Obj) (ih r (Nat.div n 2)) (ih l (Nat.div n 2)) (Nat.beq (Nat.mod n 2) 0)) v (Nat.beq n 0)) t) d
noncomputable def Tr.Ml{β:Type}(d:Nat):Tr->Nat->Option Obj->(Tr->β)->β :=
 @Nat.rec (λ_=>Tr->Nat->Option Obj->(Tr->β)->β) (λt _ _ k=>k t)
  (λ_ ih t n x k=>@Tr.rec (λ_=>β)
   (@Bool.rec (λ_=>β)
    (@Bool.rec (λ_=>β) (ih .leaf (Nat.div n 2) x (λr=>k (.node none .leaf r))) (ih .leaf (Nat.div n 2) x (λl=>k (.node none l .leaf))) (Nat.beq (Nat.mod n 2) 0))
    (k (.node x .leaf .leaf)) (Nat.beq n 0))
   (λv l r _ _=>@Bool.rec (λ_=>β)
    (@Bool.rec (λ_=>β) (ih r (Nat.div n 2) x (λr'=>k (.node v l r'))) (ih l (Nat.div n 2) x (λl'=>k (.node v l' r))) (Nat.beq (Nat.mod n 2) 0))
    (k (.node x l r)) (Nat.beq n 0)) t) d
noncomputable def Mm(l:List Value):Nat->Option Value :=
 @List.rec Value (λ_=>Nat->Option Value) (λ_=>none) (λv _ ih n=>@Nat.rec (λ_=>Option Value) (some v) (λm _=>ih m) n) l
noncomputable def EL{β:Type}(l:List Value)(x:Value):Nat->(List Value->β)->β :=
 @List.rec Value (λ_=>Nat->(List Value->β)->β) (λ_ k=>k []) (λv l ih n k=>@Nat.rec (λ_=>β) (k (x::l)) (λm _=>ih m (λl'=>k (v::l'))) n) l
noncomputable def Jn:IntKind->Nat
 | .i8=>0 | .i16=>1 | .i32=>2 | .i64=>3 | .u8=>4 | .u16=>5 | .u32=>6 | .u64=>7
noncomputable def qk(k:IntKind)(n:Int):Int :=
 match k,n with
 | .i64,.ofNat m=>@Bool.rec (λ_=>Int) (IntKind.i64.wrap (.ofNat m)) (.ofNat m) (Nat.ble m 9223372036854775807)
 | .i64,.negSucc m=>@Bool.rec (λ_=>Int) (IntKind.i64.wrap (.negSucc m)) (.negSucc m) (Nat.ble m 9223372036854775807)
 | .u64,.ofNat m=>.ofNat (Nat.mod m 18446744073709551616)
 | .u32,.ofNat m=>.ofNat (Nat.mod m 4294967296)
 | .u8,.ofNat m=>.ofNat (Nat.mod m 256)
 | k,n=>k.wrap n
noncomputable def C4:Int->Int->Bool
 | .ofNat a,.ofNat b=>Nat.ble a b
 | .ofNat _,.negSucc _=>false
 | .negSucc _,.ofNat _=>true
 | .negSucc a,.negSucc b=>Nat.ble b a
noncomputable def EM:Int->Int->Bool
 | .ofNat a,.ofNat b=>Nat.beq a b
 | .ofNat _,.negSucc _=>false
 | .negSucc _,.ofNat _=>false
 | .negSucc a,.negSucc b=>Nat.beq a b
noncomputable def fint(op:BinOp)(k:IntKind)(a b:Int):Option Value :=
 match op with
 | .add=>x8 (qk k (Int.add a b)) (λn=>some (.int k n))
 | .sub=>x8 (qk k (Int.sub a b)) (λn=>some (.int k n))
 | .mul=>x8 (qk k (Int.mul a b)) (λn=>some (.int k n))
 | .eql=>@Bool.rec (λ_=>Option Value) (some (.bool false)) (some (.bool true)) (EM a b)
 | .neq=>@Bool.rec (λ_=>Option Value) (some (.bool true)) (some (.bool false)) (EM a b)
 | .lss=>@Bool.rec (λ_=>Option Value) (some (.bool true)) (some (.bool false)) (C4 b a)
 | .leq=>@Bool.rec (λ_=>Option Value) (some (.bool false)) (some (.bool true)) (C4 a b)
 | .gtr=>@Bool.rec (λ_=>Option Value) (some (.bool true)) (some (.bool false)) (C4 a b)
 | .geq=>@Bool.rec (λ_=>Option Value) (some (.bool false)) (some (.bool true)) (C4 b a)
 | _=>none
noncomputable def Jo(op:BinOp)(x y:Value):Option Value :=
 match x,y with
 | .int k a,.int k' b=>@Bool.rec (λ_=>Option Value) none (fint op k a b) (Nat.beq (Jn k) (Jn k'))
 | _,_=>none
noncomputable def dI(t:TV)(x:Operand):Value :=
 @Operand.rec (λ_=>Value) (λi=>t.get i) (λv=>v) (λg=>.pointer (some ⟨g,0,none⟩)) (λf=>.func (.func f) #[] #[]) x
inductive gV(α:Type) where
 | leaf
 | node (v:Option α) (l r:gV α)
noncomputable def gV.get{α:Type}(t:gV α):Nat->Option α :=
 @gV.rec α (λ_=>Nat->Option α) (λ_=>none)
  (λv _ _ gl gr n=>@Bool.rec (λ_=>Option α) (@Bool.rec (λ_=>Option α) (gr (Nat.sub (Nat.div n 2) 1)) (gl (Nat.div n 2)) (Nat.beq (Nat.mod n 2) 1)) v (Nat.beq n 0)) t
noncomputable def gV.lW{α β:Type}(d:Nat):gV α->Nat->α->(gV α->β)->β :=
 @Nat.rec (λ_=>gV α->Nat->α->(gV α->β)->β) (λt _ _ k=>k t)
  (λ_ ih t n x k=>@gV.rec α (λ_=>β)
   (@Bool.rec (λ_=>β)
    (@Bool.rec (λ_=>β) (ih .leaf (Nat.sub (Nat.div n 2) 1) x (λr=>k (.node none .leaf r))) (ih .leaf (Nat.div n 2) x (λl=>k (.node none l .leaf))) (Nat.beq (Nat.mod n 2) 1))
    (k (.node (some x) .leaf .leaf)) (Nat.beq n 0))
   (λv l r _ _=>@Bool.rec (λ_=>β)
    (@Bool.rec (λ_=>β) (ih r (Nat.sub (Nat.div n 2) 1) x (λr'=>k (.node v l r'))) (ih l (Nat.div n 2) x (λl'=>k (.node v l' r))) (Nat.beq (Nat.mod n 2) 1))
    (k (.node (some x) l r)) (Nat.beq n 0)) t) d
noncomputable def gV.Lh{α β:Type}(l:List α):Nat->gV α->(gV α->β)->β :=
 @List.rec α (λ_=>Nat->gV α->(gV α->β)->β) (λ_ t k=>k t) (λv _ ih i t k=>gV.lW 16 t i v (λt1=>ih (Nat.succ i) t1 k)) l
structure Base where
 P:Program
 T:gV TypeInfo
 F:gV Func
noncomputable def x9(B:Base)(t:TypeId):Option TypeDesc :=
 match B.T.get t with
 | some i =>
  match i.desc with
  | .named _ u=>(match B.T.get u with | some j=>some j.desc | none=>none)
  | d=>some d
 | none=>none
noncomputable def vQ(B:Base)(t:TypeId):Bool :=
 match x9 B t with
 | some (.struct _)=>false
 | some (.array _ _)=>false
 | some _=>true
 | none=>false
noncomputable def Og(B:Base)(t:TypeId)(f:Nat):Option Nat :=
 match x9 B t with
 | some (.struct fields) =>
  match fields[f]? with
  | some fd=>(match B.T.get fd.type with | some i=>@Bool.rec (λ_=>Option Nat) (some fd.offset) none (Nat.beq i.size 0) | none=>none)
  | none=>none
 | _=>none
noncomputable def Oh(B:Base)(t:TypeId):Bool :=
 match B.T.get t with
 | some i=>Nat.beq i.size 1
 | none=>false
noncomputable def Jp(B:Base)(t:TypeId):Bool :=
 match x9 B t with
 | some (.pointer _)=>true
 | _=>false
noncomputable def Li(B:Base)(t:TypeId):Option (Array Value) :=
 match B.T.get t with
 | some i=>(match i.zero with | some z=>@Bool.rec (λ_=>Option (Array Value)) none (some z.cells) (cu 6 z) | none=>none)
 | none=>none
noncomputable def Lj(B:Base)(t:TypeId):Option Nat :=
 match x9 B t with
 | some (.slice e)=>(match B.T.get e with | some i=>some i.size | none=>none)
 | _=>none
noncomputable def Jq(B:Base)(t:TypeId):Option IntKind :=
 match x9 B t with
 | some (.int k)=>some k
 | _=>none
noncomputable def Jr(B:Base)(t:TypeId):Nat :=
 match x9 B t with
 | some (.slice _)=>1
 | some .string=>2
 | _=>0
noncomputable def PU(B:Base)(f:FuncId):Bool :=
 match B.F.get f with
 | some fn=>fn.name != "runtime.NumGoroutine" && fn.body.isSome
 | none=>false
noncomputable def Js(c:Array Value)(e:TypeId)(s:St):Option (Next×St) :=
 match s with
 | ⟨h,nx,lg⟩=>@Bool.rec (λ_=>Option (Next×St)) none (Tr.Ml deep h (Nat.mul 4 nx) (some (.cells c e (0,0))) (λh'=>some (.value (.pointer (some ⟨Nat.mul 4 nx,0,none⟩)),⟨h',Nat.succ nx,⟨Nat.mul 4 nx,none,true⟩::lg⟩))) (Nat.blt (Nat.mul 4 nx) lim)
noncomputable def z9(B:Base)(t:TypeId)(s:St):Option (Next×St) :=
 match Li B t with
 | some c=>Js c t s
 | none=>none
noncomputable def Oi(t:TypeId)(v:Value)(s:St):Option (Next×St):=Js v.cells t s
noncomputable def Mn(B:Base)(t:TypeId)(x:Value)(s:St):Option (Next×St) :=
 match x with
 | .slice _ n _=>@Bool.rec (λ_=>Option (Next×St)) none (some (.value (.int .i64 (.ofNat n)),s)) (Nat.beq (Jr B t) 1)
 | .string b=>@Bool.rec (λ_=>Option (Next×St)) none (some (.value (.int .i64 (.ofNat b.size)),s)) (Nat.beq (Jr B t) 2)
 | _=>none
noncomputable def z_(B:Base)(t:TypeId)(x i:Value)(s:St):Option (Next×St) :=
 match x,i with
 | .slice (some ⟨b,off,none⟩) n _,.int _ (.ofNat i)=>(match Lj B t with | some z=>@Bool.rec (λ_=>Option (Next×St)) none (some (.value (.pointer (some ⟨b,Nat.add off (Nat.mul i z),none⟩)),s)) (Nat.blt i n) | none=>none)
 | _,_=>none
noncomputable def EN(B:Base)(t u:TypeId)(x:Value)(s:St):Option (Next×St) :=
 match x with
 | .int _ n=>(match Jq B t,Jq B u with | some _,some k=>x8 (qk k n) (λn=>some (.value (.int k n),s)) | _,_=>none)
 | _=>none
noncomputable def EO(B:Base)(op:BinOp)(t:TypeId)(x y:Value)(s:St):Option (Next×St) :=
 match x,y with
 | .pointer (some _),.pointer none=>@Bool.rec (λ_=>Option (Next×St)) none (match op with | .eql=>some (.value (.bool false),s) | .neq=>some (.value (.bool true),s) | _=>none) (Jp B t)
 | .pointer none,.pointer none=>@Bool.rec (λ_=>Option (Next×St)) none (match op with | .eql=>some (.value (.bool true),s) | .neq=>some (.value (.bool false),s) | _=>none) (Jp B t)
 | _,_=>none
noncomputable def EP(B:Base)(ty:TypeId)(x:Value)(s:St):Option (Next×St) :=
 match x,s with
 | .pointer (some ⟨b,off,none⟩),⟨h,nx,lg⟩ =>
  @Bool.rec (λ_=>Option (Next×St)) none
   (match Tr.gt deep h b with
    | some (.cells c _ _)=>(match Mm c.toList off with | some v=>some (.value v,⟨h,nx,⟨b,some off,false⟩::lg⟩) | none=>none)
    | _=>none) (vQ B ty)
 | _,_=>none
noncomputable def Aa(B:Base)(ty:TypeId)(x v:Value)(s:St):Option (Next×St) :=
 match x,s with
 | .pointer (some ⟨b,off,none⟩),⟨h,nx,lg⟩ =>
  @Bool.rec (λ_=>Option (Next×St)) none
   (match Tr.gt deep h b with
    | some (.cells c e (0,0))=>@Bool.rec (λ_=>Option (Next×St)) none (EL c.toList v off (λl=>Tr.Ml deep h b (some (.cells ⟨l⟩ e (0,0))) (λh'=>some (.skip,⟨h',nx,⟨b,some off,true⟩::lg⟩)))) (Nat.blt off c.toList.length&&Nat.blt b lim)
    | _=>none) (oneCell v&&Oh B ty)
 | _,_=>none
noncomputable def Ab(B:Base)(ty:TypeId)(x:Value)(f:Nat)(s:St):Option (Next×St) :=
 match x with
 | .pointer (some ⟨b,off,none⟩)=>(match Og B ty f with | some d=>some (.value (.pointer (some ⟨b,Nat.add off d,none⟩)),s) | none=>none)
 | _=>none
noncomputable def Qs(x:Value)(s:St):Option (Next×St) :=
 match x with
 | .pointer (some _)=>some (.value x,s)
 | .func (.func _) _ _=>some (.value x,s)
 | .iface _ _=>some (.value x,s)
 | _=>none
noncomputable def Lk(c x y:Value)(s:St):Option (Next×St) :=
 match c with
 | .bool b=>some (.value (@Bool.rec (λ_=>Value) y x b),s)
 | _=>none
noncomputable def rF(x:Value)(i:Nat)(s:St):Option (Next×St) :=
 match x with
 | .tuple vs=>(match Mm vs.toList i with | some v=>some (.value v,s) | none=>none)
 | _=>none
noncomputable def Mp(op:UnOp)(x:Value)(s:St):Option (Next×St) :=
 match op,x with
 | .not,.bool b=>@Bool.rec (λ_=>Option (Next×St)) (some (.value (.bool true),s)) (some (.value (.bool false),s)) b
 | _,_=>none
noncomputable def ub(t:TV)(xs:List Operand):List Value:=@List.rec Operand (λ_=>List Value) [] (λx _ ih=>dI t x::ih) xs
noncomputable def fO(P:Program)(ρ:Operand->Value)(o:Oper)(s:St):Option (Next×St) :=
 if kG o.op&&o.op.operands.toList.all (λx=>bN x&&cu 5 (ρ x)) then
  match jd P (execOp ρ o) with
  | some (.value v)=>if cu 5 v then some (.value v,s) else none
  | _=>none
 else none
noncomputable def BA(P:Program)(ρ:Operand->Value)(c:Call)(ty:TypeId)(s:St):Option (Next×St) :=
 if bX c.operands.toList then
  match c.callee with
  | .value f =>
   match ρ f with
   | .func (.func g) first captured=>if vl P g then some (.enter g ((first++c.args.map ρ)++captured),s) else none
   | .func (.yield l) first captured=>if first.isEmpty&&captured.isEmpty then ay P (Instr.yield l (c.args.map ρ)) s else none
   | _=>none
  | .invoke r name =>
   match ρ r with
   | .iface t v=>(match od P t v name with | some f=>if vl P f then some (.enter f (#[v]++c.args.map ρ),s) else none | none=>none)
   | _=>none
  | .builtin b =>
   match b,c.args.toList,c.argTypes.toList with
   | .len,[x],[t]=>sv (ay P (Builtin.len_ #[t] ty #[ρ x]) s)
   | .cap,[x],[t]=>if Bv (ρ x) then sv (ay P (Builtin.cap_ #[t] ty #[ρ x]) s) else none
   | .append,[x,y],[t,u]=>if vi P u (ρ x) (ρ y) then sv (ay P (Builtin.append_ #[t,u] ty #[ρ x,ρ y]) s) else sv (de P s t u (ρ x) (ρ y))
   | .copy,[x,y],[t,u]=>sv (ay P (Builtin.copy_ #[t,u] ty #[ρ x,ρ y]) s)
   | .delete,[x,y],[t,u]=>(fk P s t (ρ x) (ρ y)).map λs1=>(.value (.tuple #[]),s1)
   | _,_,_=>none
 else none
noncomputable def fP(P:Program)(ρ:Operand->Value)(o:Oper)(s:St):Option (Next×St) :=
 match o.op with
 | .move x | .assign x=>if bN x then some (.value (ρ x),s) else none
 | .pick c x y =>
  if bX [c,x,y] then
   match ρ c with
   | .bool b=>some (.value (if b then ρ x else ρ y),s)
   | _=>none
  else none
 | .alloc t=>if tq P t then sv (ay P (Instr.alloc t true (.tuple #[])) s) else none
 | .box t x=>if bN x then sv (ay P (Instr.box t (ρ x)) s) else none
 | .build t ps=>if tq P t&&bX (ps.toList.map (·.2)) then sv (ay P (Instr.build t (ps.map λ(i,x)=>(i,ρ x))) s) else none
 | .buildSlice t n ps=>if tq P (iw P t)&&xv P (iw P t)&&bX (ps.toList.map (·.2)) then sv (ay P (Instr.buildSlice t n (ps.map λ(i,x)=>(i,ρ x))) s) else none
 | .load t x=>if bN x then sv (ay P (Instr.loadAt t (ρ x)) s) else none
 | .store t x y=>if bX [x,y] then su (ay P (Instr.storeAt t (ρ x) (ρ y)) s) else none
 | .nilCheck x =>
  if bN x then
   match ρ x with
   | .pointer (some b)=>some (.value (ρ x),s)
   | .func (.func _) _ _=>some (.value (ρ x),s)
   | .iface _ _=>some (.value (ρ x),s)
   | _=>none
  else none
 | .binOp op t x y _ =>
  match fO P ρ o s with
  | some r=>some r
  | none=>if bX [x,y] then (if f_ P t (ρ x) (ρ y) then (match op with | .eql=>some (.value (.bool false),s) | .neq=>some (.value (.bool true),s) | _=>none) else Eq op (ρ x) (ρ y) s) else none
 | .unOp op _ x =>
  match fO P ρ o s with
  | some r=>some r
  | none=>if bN x then Er op (ρ x) s else none
 | .convert t u x =>
  match fO P ρ o s with
  | some r=>some r
  | none=>if bN x then zP P t u (ρ x) s else none
 | .makeInterface t x=>if bN x then sv (ay P (Instr.makeInterface t (ρ x)) s) else none
 | .makeFunc (.func f) first captured=>if bX first.toList&&bX captured.toList then some (.value (.func (.func f) (first.map ρ) (captured.map ρ)),s) else none
 | .makeMap t none=>sv (ay P (Instr.makeMap t none) s)
 | .makeMap t (some x)=>if bN x then sv (ay P (Instr.makeMap t (some (ρ x))) s) else none
 | .makeSlice t l c=>if tq P (iw P t)&&xv P (iw P t)&&bX [l,c] then sv (ay P (Instr.makeSlice t (ρ l) (ρ c)) s) else none
 | .slice t x lo hi mx =>
  if CO P t&&bN x&&bX lo.toList&&bX hi.toList&&bX mx.toList&&CN (ρ x) (mx.map ρ) then
   match ay P (Instr.sliceAt t (ρ x) (lo.map ρ) (hi.map ρ) (mx.map ρ)) s with
   | some (v,s1)=>if n6 v then some (.value v,s1) else none
   | none=>none
  else none
 | .fieldAddr t x f=>if bN x&&t7 P t f then sv (ay P (Instr.fieldAt t (ρ x) f) s) else none
 | .field t x f=>if bN x then sv (ay P (Instr.field t (ρ x) f) s) else none
 | .indexAddr t x i=>if bX [x,i] then sv (ay P (Instr.indexAt t (ρ x) (ρ i)) s) else none
 | .index t x i=>if bX [x,i] then sv (ay P (Instr.index t (ρ x) (ρ i)) s) else none
 | .lookup t m k ok=>if bX [m,k] then sv (jx P s t (ρ m) (ρ k) ok) else none
 | .mapUpdate t m k v=>if bX [m,k,v] then (eD P s t (ρ m) (ρ k) (ρ v)).map λs1=>(.skip,s1) else none
 | .insert t m k v=>if bX [m,k,v] then (eD P s t (ρ m) (ρ k) (ρ v)).map λs1=>(.skip,s1) else none
 | .mapEntry t m k=>if bX [m,k] then sv (gC P s t (ρ m) (ρ k)) else none
 | .entryStore _ m st v=>if bX [m,st,v] then (ig s (ρ m) (ρ st) (ρ v)).map λs1=>(.skip,s1) else none
 | .range t x=>if bN x then sv (ay P (Instr.range t (ρ x)) s) else none
 | .next x str=>if bN x then sv (ay P (Instr.next (ρ x) str o.type) s) else none
 | .entry x=>if bN x then sv (ay P (Instr.entry (ρ x)) s) else none
 | .typeAssert x t u ok=>if bN x&&(!ok||tq P u) then sv (ay P (Instr.typeAssert (ρ x) t u ok) s) else none
 | .extract x i=>if bN x then sv (ay P (Instr.extract (ρ x) i) s) else none
 | .call c=>(match fO P ρ o s with | some r=>some r | none=>BA P ρ c o.type s)
 | _=>none
theorem EQ(P:Program)(a:Act)(o:Oper)(s:St):fP P a.eval o s=bA P a o s:=rfl
noncomputable def fall(B:Base)(t:TV)(o:Oper)(s:St):Option (Next×St):=fP B.P (dI t) o s
noncomputable def Ed(r:Option (Next×St))(f:Option (Next×St)):Option (Next×St):=@Option.rec (Next×St) (λ_=>Option (Next×St)) f (λx=>some x) r
noncomputable def zA(c:Bool)(r:Option (Next×St)):Option (Next×St):=@Bool.rec (λ_=>Option (Next×St)) none r c
noncomputable def ya(B:Base)(t:TV)(o:Oper)(c:Call)(b:Builtin)(s:St):Option (Next×St) :=
 match b,c.args.toList,c.argTypes.toList with
 | .len,[x],[ty]=>zA (bX c.operands.toList) (Ed (Mn B ty (dI t x) s) (fall B t o s))
 | _,_,_=>fall B t o s
noncomputable def vR(B:Base)(t:TV)(o:Oper)(c:Call)(s:St):Option (Next×St) :=
 match c.callee with
 | .value f =>
  match dI t f with
  | .func (.func g) first captured=>zA (bX c.operands.toList&&PU B g) (some (.enter g ⟨List.append first.toList (List.append (ub t c.args.toList) captured.toList)⟩,s))
  | _=>fall B t o s
 | .builtin b=>ya B t o c b s
 | _=>fall B t o s
noncomputable def BB(B:Base)(t:TV)(o:Oper)(s:St):Option (Next×St) :=
 match o.op with
 | .move x=>zA (bN x) (some (.value (dI t x),s))
 | .assign x=>zA (bN x) (some (.value (dI t x),s))
 | .pick c x y=>zA (bX [c,x,y]) (Lk (dI t c) (dI t x) (dI t y) s)
 | .binOp op ty x y u=>zA (bX [x,y]) (match Jo op (dI t x) (dI t y) with | some v=>some (.value v,s) | none=>Ed (EO B op ty (dI t x) (dI t y) s) (fall B t o s))
 | .unOp op ty x=>zA (bN x) (Ed (Mp op (dI t x) s) (fall B t o s))
 | .convert a u x=>zA (bN x) (Ed (EN B a u (dI t x) s) (fall B t o s))
 | .alloc ty=>Ed (z9 B ty s) (fall B t o s)
 | .box ty x=>zA (bN x) (Ed (Oi ty (dI t x) s) (fall B t o s))
 | .load ty x=>zA (bN x) (Ed (EP B ty (dI t x) s) (fall B t o s))
 | .store ty x y=>zA (bX [x,y]) (Ed (Aa B ty (dI t x) (dI t y) s) (fall B t o s))
 | .fieldAddr ty x f=>zA (bN x) (Ed (Ab B ty (dI t x) f s) (fall B t o s))
 | .indexAddr ty x i=>zA (bX [x,i]) (Ed (z_ B ty (dI t x) (dI t i) s) (fall B t o s))
 | .nilCheck x=>zA (bN x) (Qs (dI t x) s)
 | .extract x i=>zA (bN x) (Ed (rF (dI t x) i s) (fall B t o s))
 | .call c=>vR B t o c s
 | _=>fall B t o s
abbrev dY:=Exit×TV×List Deferred×St
abbrev nH:=Option Nat->Nat->Code->TV->List Deferred->St->Option dY
abbrev kN:=Qc->St->Option (Value×St)
noncomputable def tN{β:Type}(n:Nat)(t:TV)(d:Option Tmp)(v:Value)(k:TV->β):β :=
 match d with
 | none=>k t
 | some d=>@Bool.rec (λ_=>β) (k t) (EK v (λv=>TV.lW 12 t d v k)) (Nat.blt d n)
noncomputable def uc{β:Type}(B:Base)(call:kN)(n:Nat)(t:TV)(o:Oper)(s:St)(k:TV->St->Option β):Option β :=
 match bB.I2 o.op (ub t o.op.operands.toList) with
 | some q=>@Bool.rec (λ_=>Option β) none (match nA q (ub t o.op.operands.toList) s with | some (v,s1)=>tN n t o.dst v (λt1=>k t1 s1) | none=>none) (bX o.op.operands.toList)
 | none =>
 match BB B t o s with
 | some (.value v,s1)=>tN n t o.dst v (λt1=>k t1 s1)
 | some (.skip,s1)=>tN n t o.dst undef (λt1=>k t1 s1)
 | some (.enter f args,s1)=>(match call (.fn f args) s1 with | some (v,s2)=>tN n t o.dst v (λt1=>k t1 s2) | none=>none)
 | some (.round l _ tmps assign body,s1)=>(match call (.Es l tmps assign body) s1 with | some (v,s2)=>tN n t o.dst v (λt1=>k t1 s2) | none=>none)
 | _=>none
noncomputable def Ad(ops:Array Oper)(t:TV)(j:Nat):Option Bool :=
 match (ops[j]?).bind (·.dst) with
 | some d=>(match t.get d with | .bool b=>some b | _=>none)
 | none=>none
noncomputable def ud(ops:Array Oper)(t:TV)(o:Oper):Bool :=
 match o.guard with
 | none=>true
 | some (j,want) =>
  match Ad ops t j,want with
  | some true,true=>true
  | some false,false=>true
  | _,_=>false
noncomputable def yb(B:Base)(call:kN)(n:Nat)(ops:Array Oper)(d:List Deferred)(l:List Oper):TV->St->Option dY :=
 @List.rec Oper (λ_=>TV->St->Option dY) (λt s=>some (.normal,t,d,s))
  (λo _ ih t s=>@Bool.rec (λ_=>Option dY) (tN n t o.dst undef (λt1=>ih t1 s)) (uc B call n t o s (λt1 s1=>ih t1 s1)) (ud ops t o)) l
noncomputable def yc(B:Base)(call:kN)(n:Nat)(ops:Array Oper)(d:List Deferred)(l:List Oper):TV->St->List (List Touch)->Option dY :=
 @List.rec Oper (λ_=>TV->St->List (List Touch)->Option dY)
  (λt s ls=>@Bool.rec (λ_=>Option dY) none (some (.normal,t,d,s)) (gU ops&&iH (Region.before ops) ls (ops.size-1)))
  (λo _ ih t s ls=>@Bool.rec (λ_=>Option dY) (tN n t o.dst undef (λt1=>ih t1 s ([]::ls)))
   (@St.rec (λ_=>Option dY) (λh nx lg=>uc B call n t o ⟨h,nx,[]⟩ (λt1 s1=>@St.rec (λ_=>Option dY) (λh1 Qu Oj=>ih t1 ⟨h1,Qu,List.append Oj lg⟩ (Oj::ls)) s1)) s) (ud ops t o)) l
noncomputable def Jt(r:Option dY)(k:TV->List Deferred->St->Option dY):Option dY :=
 match r with
 | some (.normal,t,d,s)=>k t d s
 | some (e,t,d,s)=>some (e,t,d,s)
 | none=>none
noncomputable def ER(id:Nat)(r:Option dY):Option dY :=
 match r with
 | some (.exit i,t,d,s)=>@Bool.rec (λ_=>Option dY) (some (.exit i,t,d,s)) (some (.normal,t,d,s)) (Nat.beq i id)
 | some (e,t,d,s)=>some (e,t,d,s)
 | none=>none
noncomputable def BD(r:Option dY):Option dY :=
 match r with
 | some (.goto _,_,_,_)=>none
 | some (e,t,d,s)=>some (e,t,d,s)
 | none=>none
noncomputable def ES(run:Code->TV->List Deferred->St->Option dY)(body:Code)(r:Option dY):Option dY :=
 match r with
 | some (.goto l,t,d,s)=>(match findLabel body l with | some rest=>BD (run rest t d s) | none=>none)
 | some (e,t,d,s)=>some (e,t,d,s)
 | none=>none
noncomputable def Ll(v:Value)(x y:Option dY):Option dY :=
 match v with
 | .bool b=>@Bool.rec (λ_=>Option dY) y x b
 | _=>none
noncomputable def lC{β:Type}(l:List Value):Nat->TV->(TV->β)->β :=
 @List.rec Value (λ_=>Nat->TV->(TV->β)->β) (λ_ t k=>k t) (λv _ ih i t k=>TV.lW 12 t i v (λt1=>ih (Nat.succ i) t1 k)) l
noncomputable def TV.Mq(t:TV)(k:Nat):Nat->List Value:=@Nat.rec (λ_=>Nat->List Value) (λ_=>[]) (λ_ ih i=>t.get i::ih (Nat.succ i)) k
noncomputable def TV.Mr{β:Type}(t:TV)(k:Nat):Nat->(List Value->β)->β:=@Nat.rec (λ_=>Nat->(List Value->β)->β) (λ_ f=>f []) (λ_ ih i f=>EK (t.get i) (λv=>ih (Nat.succ i) (λl=>f (v::l)))) k
noncomputable def TV.act(t:TV)(n:Nat):Act:=⟨⟨t.Mq n 0⟩,[]⟩
noncomputable def yd(t:TV)(r:ResultVar)(ih:Option (List Value)):Option (List Value) :=
 match r,ih with
 | .tmp i,some l=>some (t.get i::l)
 | _,_=>none
noncomputable def ue(t:TV)(l:List ResultVar):Option (List Value):=@List.rec ResultVar (λ_=>Option (List Value)) (some []) (λr _ ih=>yd t r ih) l
noncomputable def Ms(P:Program)(fn:Func)(t:TV)(s:St):Option (Value×St) :=
 match fn.results.toList with
 | [.tmp i]=>some (t.get i,s)
 | []=>some (.tuple #[],s)
 | a::b::l=>(match ue t (a::b::l) with | some vs=>some (.tuple ⟨vs⟩,s) | none=>ay P (results fn (t.act fn.ntmps).tmps) s)
 | _=>ay P (results fn (t.act fn.ntmps).tmps) s
noncomputable def Ju(P:Program)(fn:Func)(t:TV)(d:List Deferred)(s:St):Option (Value×St) :=
 match kH P d s with
 | some (_,s1)=>Ms P fn t s1
 | none=>none
noncomputable def vS(P:Program)(fn:Func)(r:Option dY):Option (Value×St) :=
 match r with
 | some (.ret,t,d,s)=>Ju P fn t d s
 | some (.normal,t,d,s)=>Ju P fn t d s
 | _=>none
noncomputable def eF(B:Base)(run:nH)(f:FuncId)(args:List Value)(s:St):Option (Value×St) :=
 match bB.I8 f args with
 | some r=>some (r,s)
 | none =>
 match bB.xj f args with
 | some q=>tC q s
 | none =>
 match B.F.get f with
 | some fn =>
  match fn.body with
  | some body=>@Bool.rec (λ_=>Option (Value×St)) none (lC args 0 .leaf (λt=>vS B.P fn (run none fn.ntmps body t [] s))) (Nat.ble args.length fn.ntmps&&Nat.ble fn.ntmps 4094)
  | none=>none
 | none=>none
noncomputable def Lm(P:Program)(l:Nat)(r:Option dY):Option (Value×St) :=
 match r with
 | some (e,_,_,s)=>tD P l e s
 | none=>none
noncomputable def Mt(B:Base)(run:nH)(l n:Nat)(body:Code)(r:Option dY):Option (Value×St) :=
 match r with
 | some (.normal,t,d,s) =>
  match ay B.P (Instr.beginRound l) s with
  | some (_,s1)=>Lm B.P l (run (some l) n body t d s1)
  | none=>none
 | _=>none
noncomputable def Ae(B:Base)(run:nH)(l:Nat)(tmps:List Value)(assign body:Code)(s:St):Option (Value×St) :=
 qA tmps.length (λn=>@Bool.rec (λ_=>Option (Value×St)) none (lC tmps 0 .leaf (λt=>Mt B run l n body (run (some l) n assign t [] s))) (Nat.ble n 4094))
noncomputable def BE(B:Base)(run:nH)(c:Qc)(s:St):Option (Value×St) :=
 match c with
 | .fn f args=>eF B run f args.toList s
 | .Es l tmps assign body=>Ae B run l tmps.toList assign body s
noncomputable def pG(B:Base)(t:TV)(g:Operand)(l:Nat):Option (FuncId×List Value) :=
 match dI t g with
 | .func (.func f) first captured=>@Bool.rec (λ_=>Option (FuncId×List Value)) none (some (f,List.append first.toList (.func (.yield l) #[] #[]::captured.toList))) (bN g&&PU B f)
 | _=>none
noncomputable def Ln(run:nH)(rd:Option Nat)(n:Nat)(j:Option Code)(t:TV)(d:List Deferred)(s:St):Option dY :=
 match j with
 | none=>some (.normal,t,d,s)
 | some c=>run rd n c t d s
noncomputable def BF(B:Base)(run:nH)(rd:Option Nat)(n l:Nat)(t:TV)(d:List Deferred)(r:Option (Value×St)):Option dY :=
 match r with
 | some (_,s2) =>
  match ay B.P (Instr.endLoop l) s2 with
  | some (j,s3)=>@Bool.rec (λ_=>Option dY) none (Ln run rd n j t d s3) (nC j)
  | none=>none
 | none=>none
noncomputable def Ah(B:Base)(run:nH)(rd:Option Nat)(n:Nat)(g:Operand)(ps:Array Tmp)(assign body:Code)(t:TV)(d:List Deferred)(s:St):Option dY :=
 t.Mr n 0 (λL =>
 match ay B.P (Instr.enterLoop 0 ⟨L⟩ ps assign body rd) s with
 | some ((l,mark),s1) =>
  match pG B t g l with
  | some (f,args)=>BF B run rd n l t (List.append mark d) (eF B run f args s1)
  | none=>none
 | none=>none)
noncomputable def ET(B:Base)(run:nH)(rd:Option Nat)(n:Nat)(c:Code)(t:TV)(d:List Deferred)(s:St):Option dY :=
 match c with
 | .skip=>some (.normal,t,d,s)
 | .label _=>some (.normal,t,d,s)
 | .ret=>some (.ret,t,d,s)
 | .exit id=>some (.exit id,t,d,s)
 | .goto l=>some (.goto l,t,d,s)
 | .seq x y=>Jt (run rd n x t d s) (λt1 d1 s1=>run rd n y t1 d1 s1)
 | .cond c x y=>@Bool.rec (λ_=>Option dY) none (Ll (dI t c) (run rd n x t d s) (run rd n y t d s)) (bN c)
 | .block id body=>ER id (run rd n body t d s)
 | .loop body=>Jt (run rd n body t d s) (λt1 d1 s1=>run rd n (.loop body) t1 d1 s1)
 | .scope body=>(match rd with | none=>ES (run none n) body (run none n body t d s) | some _=>none)
 | .rangeFunc g ps assign body=>Ah B run rd n g ps assign body t d s
 | .region _ ops draw=>@Bool.rec (λ_=>Option dY) (yb B (BE B run) n ops d ops.toList t s) (yc B (BE B run) n ops d ops.toList t s []) draw
 | _=>none
noncomputable def C5{α β:Type}(l:List α):(List α->β)->β :=
 @List.rec α (λ_=>(List α->β)->β) (λk=>k []) (λv _ ih k=>ih (λl=>k (v::l))) l
noncomputable def dS{β:Type}(P:Program)(k:Base->β):β :=
 match P with
 | ⟨⟨a1,a2,a3,a4,types,a6,a7,a8,a9,NF,Lp⟩,funcs⟩=>C5 types.toList (λL=>C5 funcs.toList (λM=>gV.Lh L 0 .leaf (λT=>gV.Lh M 0 .leaf (λF=>k ⟨⟨⟨a1,a2,a3,a4,⟨L⟩,a6,a7,a8,a9,NF,Lp⟩,⟨M⟩⟩,T,F⟩))))
noncomputable def tO(B:Base)(fuel:Nat):nH :=
 @Nat.rec (λ_=>nH) (λ_ _ _ _ _ _=>none) (λ_ ih rd n c t d s=>ET B ih rd n c t d s) fuel
end Go.Ev
