/- Part of a proof: see the last text. -/
import Derived.Test.YtankbefdlbcdnaaZd7
import GoSem.Core.CheckCode
set_option linter.unusedSectionVars false
set_option linter.unusedSimpArgs false
set_option linter.unusedVariables false
namespace Go.Ev
open Go.RowKit
variable[aL]
theorem bind_ok{ε α β:Type}{x:Except ε α}{f:α->Except ε β}{r:β}(h:x >>= f=.ok r):∃ a,x=.ok a/\f a=.ok r:=by
 cases x with
 | error e=>cases h
 | ok a=>exact⟨a,rfl,h⟩
theorem forM_ok{ε α:Type}{f:α->Except ε Unit} : ∀ {l:List α},l.forM f=.ok ()->∀ x ∈ l,f x=.ok ():=by
 intro l
 induction l with
 | nil=>intro _ x hx;cases hx
 | cons y rest ih =>
  intro h x hx;obtain⟨u,h1,h2⟩:=bind_ok (show f y >>= (λ_=>rest.forM f)=.ok () from h);rcases List.mem_cons.1 hx with e | e
  ·rw[e];exact h1
  ·exact ih h2 x e
theorem require_ok{b:Bool}{m:String}(h:CheckCode.require b m=.ok ()):b=true:=by
 cases b with
 | true=>rfl
 | false=>cases h
theorem aY.seq{P:Program}{x y:Code}(h:aY P (.seq x y)):aY P x/\aY P y:=by
 obtain⟨fn,bl,lb,h⟩:=h;unfold CheckCode.code at h;obtain⟨_,h1,h2⟩:=bind_ok h;exact⟨⟨fn,bl,lb,h1⟩,⟨fn,bl,lb,h2⟩⟩
theorem aY.cond{P:Program}{c:Operand}{x y:Code}(h:aY P (.cond c x y)):aY P x/\aY P y:=by
 obtain⟨fn,bl,lb,h⟩:=h;unfold CheckCode.code at h;obtain⟨_,_,h⟩:=bind_ok h;obtain⟨_,h1,h2⟩:=bind_ok h;exact⟨⟨fn,bl,lb,h1⟩,⟨fn,bl,lb,h2⟩⟩
theorem aY.block{P:Program}{id:Nat}{x:Code}(h:aY P (.block id x)):aY P x:=by
 obtain⟨fn,bl,lb,h⟩:=h;unfold CheckCode.code at h;exact⟨fn,_,_,h⟩
theorem aY.loop{P:Program}{x:Code}(h:aY P (.loop x)):aY P x:=by
 obtain⟨fn,bl,lb,h⟩:=h;unfold CheckCode.code at h;exact⟨fn,_,_,h⟩
theorem aY.scope{P:Program}{x:Code}(h:aY P (.scope x)):aY P x:=by
 obtain⟨fn,bl,lb,h⟩:=h;unfold CheckCode.code at h;exact⟨fn,_,_,h⟩
theorem wR{P:Program}{fn:Func}{bl lb:List Nat}{l:Nat} : ∀ {c rest:Code},CheckCode.code P fn bl lb c=.ok ()->findLabel c l=some rest->CheckCode.code P fn bl lb rest=.ok ():=by
 intro c
 induction c with
 | seq x y Ja ihy =>
  intro rest h hf;unfold CheckCode.code at h;obtain⟨_,h1,h2⟩:=bind_ok h;unfold findLabel at hf
  split at hf
  ·rename_i r hr
   cases hf;have:=Ja h1 hr;unfold CheckCode.code;rw[this];exact h2
  ·exact ihy h2 hf
 | label l' =>
  intro rest h hf;unfold findLabel at hf
  split at hf
  ·cases hf;rfl
  ·cases hf
 | _=>intro rest h hf;cases hf
theorem aY.label{P:Program}{c rest:Code}{l:Nat}(h:aY P c)(hf:findLabel c l=some rest):aY P rest:=by
 obtain⟨fn,bl,lb,h⟩:=h;exact⟨fn,bl,lb,wR h hf⟩
theorem qt{P:Program}{c:Code}{a:Act}{w:World}{Q:Exit->Act->World->Prop}(h:c.wp P (λe a w=>match e with | .goto l=>∃ rest,findLabel c l=some rest/\rest.wp P (Exit.noGoto Q) a w | e=>Q e a w) a w):(Code.scope c).wp P Q a w:=by
 intro b k cs;obtain⟨e,a₁,w₁,hq,harr⟩:=h b (.inScope c::k) cs;cases e with
 | normal=>exact⟨.normal,a₁,w₁,hq,.head step_scope (Steps.trans harr (.one step_inScope))⟩
 | exit id=>exact⟨.exit id,a₁,w₁,hq,λk' hk=>.head step_scope (harr k' (by simp[exitTo,hk]))⟩
 | goto l =>
  obtain⟨rest,hf,hr⟩:=hq;have hg:gotoIn l (.inScope c::k)=some (.code rest::.inScope c::k):=by simp[gotoIn,hf]
  obtain⟨e₂,a₂,w₂,hq₂,harr₂⟩:=hr b (.inScope c::k) cs;cases e₂ with
  | normal=>exact⟨.normal,a₂,w₂,hq₂,.head step_scope (Steps.trans (harr _ hg) (Steps.trans harr₂ (.one step_inScope)))⟩
  | exit id=>exact⟨.exit id,a₂,w₂,hq₂,λk' hk=>.head step_scope (Steps.trans (harr _ hg) (harr₂ k' (by simp[exitTo,hk])))⟩
  | goto l'=>exact hq₂.elim
  | ret=>exact⟨_,a₂,w₂,hq₂,.of_steps (.head step_scope (harr _ hg)) harr₂⟩
  | panic ch=>exact⟨_,a₂,w₂,hq₂,.of_steps (.head step_scope (harr _ hg)) harr₂⟩
  | outgrown=>exact⟨_,a₂,w₂,hq₂,.of_steps (.head step_scope (harr _ hg)) harr₂⟩
 | ret=>exact⟨_,a₁,w₁,hq,.of_steps (.one step_scope) harr⟩
 | panic ch=>exact⟨_,a₁,w₁,hq,.of_steps (.one step_scope) harr⟩
 | outgrown=>exact⟨_,a₁,w₁,hq,.of_steps (.one step_scope) harr⟩
theorem aY.region{P:Program}{id:Nat}{ops:Array Oper}{draw:Bool}(h:aY P (.region id ops draw)):Region.ok P.types ops draw=true:=by
 obtain⟨fn,bl,lb,h⟩:=h;unfold CheckCode.code at h;unfold CheckCode.region at h;obtain⟨_,_,h⟩:=bind_ok h;obtain⟨_,_,h⟩:=bind_ok h;exact require_ok h
theorem aY.rangeFunc{P:Program}{g:Operand}{ps:Array Tmp}{x y:Code}(h:aY P (.rangeFunc g ps x y)):aY P x/\aY P y:=by
 obtain⟨fn,bl,lb,h⟩:=h;unfold CheckCode.code at h;obtain⟨_,_,h⟩:=bind_ok h;obtain⟨_,_,h⟩:=bind_ok h;obtain⟨_,_,h⟩:=bind_ok h;obtain⟨_,h1,h2⟩:=bind_ok h;exact⟨⟨fn,_,_,h1⟩,⟨fn,_,_,h2⟩⟩
theorem sk{P:Program}(hP:P.check=.ok ()){f:FuncId}{fn:Func}{body:Code}(hf:P.funcs[f]? = some fn)(hb:fn.body=some body):aY P body:=by
 unfold Program.check at hP;obtain⟨_,h,_⟩:=bind_ok hP;have hlt:f<P.funcs.size:=(Array.getElem?_eq_some_iff.1 hf).1;have h1:=forM_ok h f (List.mem_range.2 hlt);unfold CheckCode.funcAt at h1;rw[hf]at h1;dsimp only at h1;have h2:CheckCode.func P fn=.ok ():=by
  cases hx:CheckCode.func P fn with
  | ok u=>rfl
  | error e=>rw[hx]at h1;cases h1
 unfold CheckCode.func at h2;obtain⟨_,_,h2⟩:=bind_ok h2;obtain⟨_,_,h2⟩:=bind_ok h2;obtain⟨_,_,h2⟩:=bind_ok h2;rw[hb]at h2;dsimp only at h2;obtain⟨_,_,h2⟩:=bind_ok h2;obtain⟨_,h3,_⟩:=bind_ok h2;exact⟨fn,[],[],h3⟩
def Ad(P:Program)(base:Nat->Prop)(run:Runner):Prop :=
 ∀ rd c a s ex a1 s1,run rd c a s=some (ex,a1,s1)->aY P c->kG s s.next s1.next->∀ (ι:ag) (ro:Option Nat) (A:Act) (w:World),lS ι rd ro->bF ι a A->bY P base ι s.look w->c6 ι s s1->∀ Q:Exit->Act->World->Prop,
  (∀ κ A1 w1,bF κ a1 A1->Goes P base ι κ s s1 w w1->Q ex A1 w1)->c.wpIn (FR ro) 0 P Q A w
theorem cF.next{run:Runner}(hl:cF run){rd:Option Nat}{c:Code}{a a1:Act}{s s1:St}{e:Exit}(h:run rd c a s=some (e,a1,s1)):s.next<=s1.next :=
 (hl rd c a).next (r:=(e,a1)) (by unfold p8;rw[h])
theorem cF.win{run:Runner}(hl:cF run){rd:Option Nat}{c:Code}{a a1:Act}{s s1:St}{e:Exit}(h:run rd c a s=some (e,a1,s1)){m:Nat}(hw:kG s s.next m)(hm:s1.next<=m):kG s1 s1.next m :=
 (hl rd c a).win (r:=(e,a1)) (by unfold p8;rw[h]) hw hm
theorem gu{α β:Type}{P:Program}{base:Nat->Prop}{R:ag->α->β->Prop}{ι:ag}{m:Sem α}{m':Sem β}(h:aA P base R ι m m'){s s1:St}{w:World}{x:α}(hr:bY P base ι s.look w)(hx:aC P m s=some (x,s1))(hfr:c6 ι s s1) :
  ∃ κ y w1,m'.run P w=.ok y w1/\R κ x y/\Goes P base ι κ s s1 w w1:=by
 obtain⟨κ,y,w1,h1,h2,h3,h4,h5⟩:=h s w x s1 hr hx hfr;exact⟨κ,y,w1,h1,h4,h2,h3,h5⟩
theorem nW{P:Program}{base:Nat->Prop}{fn:Func}{T:Array Value}{R:Ending->World->Prop} : ∀ (ds ds':List Deferred) (s s1:St) (ι:ag) (w:World),kp ι ds ds'->iR P ds s=some ((),s1)->bY P base ι s.look w->c6 ι s s1->
  (∀ κ w1,Goes P base ι κ s s1 w w1->LeavesInM Fence.wide 0 P fn T R [] .returning w1)->LeavesInM Fence.wide 0 P fn T R ds' .returning w:=by
 intro ds
 induction ds with
 | nil =>
  intro ds' s s1 ι w hd h hr hfr hg;cases hd;cases h;exact hg ι w (Goes.refl hr)
 | cons d ds ih =>
  intro ds' s s1 ι w hd h hr hfr hg;cases hd with
  | cons r r' l l' hr' ht =>
   simp only[iR]at h
   split at h
   ·rename_i x s2 hx
    have n1:=cq P _ _ _ _ hx;have n2:=(fW P ds).next h
    obtain⟨κ,y,w1,h1,⟨e1,e2⟩,g⟩:=gu (mV (P:=P) (base:=base) hr') hr hx (hfr.left n2);subst e2;refine⟨(λh=>by cases h),.inl ⟨r',w1,rfl,h1,?_⟩⟩;exact ih l' s2 s1 κ w1 (ht.mono (g.le (hfr.left n2))) h g.rep (hfr.right g n1) (λμ w2 g2=>hg μ w2 (g.trans g2 n1 n2))
   ·cases h
theorem qI{P:Program}{base:Nat->Prop}(hP:P.check=.ok ())(cE:dV P){run:Runner}(hl:cF run)(hrun:Ad P base run) :
  ∀ f args s v s1,fI P run f args s=some (v,s1)->kG s s.next s1.next->∀ ι args' w,bY P base ι s.look w->bk ι args args'->c6 ι s s1->
   Calls P f args' w λe w1=>∃ κ v',e=.returned v'/\Goes P base ι κ s s1 w w1/\aw κ v v':=by
 intro f args s v s1 h hwin;unfold fI at h
 split at h
 ·rename_i r hq
  cases h;intro ι args' w hr ha hfr;refine(cE.EK f args _ hq ι args' w ha).mono ?_;rintro e w1 ⟨v',rfl,hv,hb⟩;exact⟨ι,v',rfl,Goes.m6 hr hb _ (λ_=>rfl),hv⟩
 ·split at h
  ·rename_i q hq
   intro ι args' w hr ha hfr;obtain⟨g,F,ng,g1,g2,g3,g4,g5⟩:=lm h hwin hr hfr;refine(cE.tW f args q hq g _ _ ng g1 ι args' F w ha g2 g3 g4).mono ?_;rintro e w1 ⟨v',rfl,hg⟩;obtain⟨κ,gg,hv⟩:=g5 v' w1 hg;exact⟨κ,v',rfl,gg,hv⟩
  split at h
  case h_2=>cases h
  rename_i fn hf
  split at h
  ·rename_i body hb
   split at h
   ·rename_i ex a s2 hr1
    unfold gZ at h
    split at h
    ·rename_i hex
     split at h
     ·rename_i s3 hmk
      have n1:=hl.next hr1
      have n2:=(fW P a.defers).next hmk
      have n3:=cq P _ _ _ _ h;have hs:=hrun _ _ _ _ _ _ _ hr1 (sk hP hf hb) (hwin.left (Nat.le_trans n2 n3));intro ι args' w hr ha hfr;refine callsIn_wide.1 (callsIn_of_wp_marks (F:=Fence.wide) (n:=0) hf hb trivial ?_);have hact:bF ι { tmps:=args++Array.replicate (fn.ntmps-args.size) undef,defers:=[] } { tmps:=args'++Array.replicate (fn.ntmps-args'.size) undef,defers:=[] }:=by
       refine⟨?_,.nil⟩;rw[ha.1];refine ha.append (bk.of_flat (λi x hx=>?_));rw[Array.getElem?_replicate]at hx
       split at hx
       ·cases hx;exact cB ι
       ·cases hx
      refine hs ι none _ w trivial hact hr (hfr.left (Nat.le_trans n2 n3)) _ (λκ A1 w1 hA1 g=>?_);have f1:=hfr.right g n1;have fin:LeavesInM Fence.wide 0 P fn A1.tmps (λe w1=>∃ κ v',e=.returned v'/\Goes P base ι κ s s1 w w1/\aw κ v v') A1.defers .returning w1:=by
       refine nW a.defers A1.defers s2 s3 κ w1 hA1.EO hmk g.rep (f1.left n3) (λμ w2 g2=>?_);have f2:=f1.right g2 n2;obtain⟨ν,v',w3,r1,r4,g3⟩:=gu (nS (P:=P) (base:=base) fn (hA1.tmps.mono (g2.le (f1.left n3)))) g2.rep h f2;have hw:=kF (P:=P) fn A1.tmps w2 v' w3 r1;subst hw;exact⟨v',r1,ν,v',rfl,g.trans (g2.trans g3 n2 n3) n1 (Nat.le_trans n2 n3),r4⟩
      cases ex with
      | normal=>exact fin
      | ret=>exact fin
      | _=>cases hex
     ·cases h
    ·cases h
   ·cases h
  ·cases h
theorem Ae{P:Program}{base:Nat->Prop}{run:Runner}(hl:cF run)(hrun:Ad P base run) :
  ∀ l tmps assign body s v s1,kZ P run l tmps assign body s=some (v,s1)->aY P assign->aY P body->kG s s.next s1.next->∀ ι l' kB w,bY P base ι s.look w->ι l=some l'->bk ι tmps kB->c6 ι s s1->
   ∀ f',RoundIn Fence.wide 0 P l' f' kB assign body w λe w1=>∃ κ v',e=.returned v'/\Goes P base ι κ s s1 w w1/\aw κ v v':=by
 intro l tmps assign body s v s1 h o1 o2 hwin ι l' kB w hr hl' ht hfr f';unfold kZ at h
 split at h
 case h_2=>cases h
 rename_i e1 a1 s2 h1
 split at h
 case isFalse=>cases h
 rename_i hno
 split at h
 case h_2=>cases h
 rename_i u s3 h2
 split at h
 case h_2=>cases h
 rename_i e2 a2 s4 h3;have m1:=hl.next h1
 have m2:=cq P _ _ _ _ h2;have m3:=hl.next h3
 have m4:s4.next<=s1.next:=by
  unfold qj at h
  split at h
  ·exact cq P _ _ _ _ h
  ·cases h
 have Nl:e1=.normal:=by cases e1<;>first | rfl | cases hno
 subst Nl;refine roundIn_of_wpIn (F:=Fence.wide) trivial ?_;have w2:=hl.win h1 hwin (by omega);have w3:=(bK P (Instr.beginRound l)).win h2 w2 (by omega);refine hrun _ _ _ _ _ _ _ h1 o1 (hwin.left (by omega)) ι (some l') _ w hl' ⟨ht,.nil⟩ hr (hfr.left (by omega)) _ (λκ A1 w1 hA1 g=>?_);have f1:=hfr.right g m1;have k1:κ l=some l':=(g.le (hfr.left (by omega))) _ _ hl';obtain⟨μ,y,w2',r1,_,g2⟩:=gu (oY (P:=P) (base:=base) k1) g.rep h2 (f1.left (by omega));have f2:=f1.right g2 m2;have Iy:=g2.le (f1.left (by omega));refine⟨w2',r1,?_⟩;refine hrun _ _ _ _ _ _ _ h3 o2 (w3.left (by omega)) μ (some l') A1 w2' (Iy _ _ k1) (hA1.mono Iy) g2.rep (f2.left (by omega)) _ (λν A2 w3' hA2 g3=>?_);have f3:=f2.right g3 m3;have KH:=g3.le (f2.left (by omega));unfold qj at h
 split at h
 ·rename_i j hj
  obtain⟨ξ,v',w4,q1,q2,g4⟩:=gu (rM (P:=P) (base:=base) (KH _ _ (Iy _ _ k1)) j) g3.rep h f3;have gg:Goes P base ι ξ s s1 w w4:=g.trans (g2.trans (g3.trans g4 m3 m4) m2 (by omega)) m1 (by omega);cases e2 with
  | normal=>cases hj;exact⟨v',w4,q1,ξ,v',rfl,gg,q2⟩
  | ret=>cases hj;exact⟨v',w4,q1,ξ,v',rfl,gg,q2⟩
  | exit id=>cases hj;exact⟨v',w4,q1,ξ,v',rfl,gg,q2⟩
  | _=>cases hj
 ·cases h
theorem uM{P:Program}{base:Nat->Prop}(hP:P.check=.ok ())(cE:dV P){run:Runner}(hl:cF run)(hrun:Ad P base run):lj P base (jv P run) :=
 ⟨qI hP cE hl hrun,Ae hl hrun⟩
theorem Ah{P:Program}{base:Nat->Prop}(hP:P.check=.ok ())(cE:dV P){run:Runner}(hl:cF run)(hrun:Ad P base run)(KI:∀ rd c a s,(c=.ret\/∃ id,c=.exit id)->∀ r,run rd c a s=some r->r=(match c with | .ret=>Exit.ret | .exit id=>Exit.exit id | _=>Exit.normal,a,s))
  {rd:Option Nat} {g:Operand} {ps:Array Tmp} {assign body:Code} {a:Act} {s:St} {ex:Exit} {a1:Act} {s1:St} (h:lh P run rd g ps assign body a s=some (ex,a1,s1)) (o1:aY P assign) (o2:aY P body) (hwin:kG s s.next s1.next)
  (ι:ag) (ro:Option Nat) (A:Act) (w:World) (hrd:lS ι rd ro) (hA:bF ι a A) (hr:bY P base ι s.look w) (hfr:c6 ι s s1) (Q:Exit->Act->World->Prop)
  (hQ:∀ κ A1 w1,bF κ a1 A1->Goes P base ι κ s s1 w w1->Q ex A1 w1):(Code.rangeFunc g ps assign body).wpIn (FR ro) 0 P Q A w:=by
 unfold lh at h
 split at h
 case h_2=>cases h
 rename_i l mark s2 h1
 split at h
 case h_2=>cases h
 rename_i f args h2
 split at h
 case h_2=>cases h
 rename_i v s3 h3
 split at h
 case h_2=>cases h
 rename_i j s4 h4
 split at h
 case isFalse=>cases h
 rename_i hj;have m1:=cq P _ _ _ _ h1;have m2:=(iW hl f args).next h3
 have m3:=cq P _ _ _ _ h4;have last:s1=s4/\a1 = { a with defers:=mark++a.defers }/\((j=none/\ex=.normal)\/(j=some .ret/\ex=.ret)\/∃ id,j=some (.exit id)/\ex=.exit id):=by
  cases j with
  | none=>cases h;exact⟨rfl,rfl,.inl ⟨rfl,rfl⟩⟩
  | some c =>
   have hc:c=.ret\/∃ id,c=.exit id:=by
    unfold k_ at hj
    split at hj
    ·rename_i e;cases e
    ·rename_i e;cases e;exact .inl rfl
    ·rename_i id e;cases e;exact .inr ⟨id,rfl⟩
    ·cases hj
   have:=KI rd c _ _ hc _ h;rcases hc with rfl | ⟨id,rfl⟩
   ·cases this;exact⟨rfl,rfl,.inr (.inl ⟨rfl,rfl⟩)⟩
   ·cases this;exact⟨rfl,rfl,.inr (.inr ⟨id,rfl,rfl⟩)⟩
 obtain⟨rfl,rfl,Nm⟩:=last;refine wpIn_rangeFunc (λfn _=>?_);obtain⟨κ,⟨l',mark'⟩,w1,q1,⟨k1,k2⟩,g1⟩:=gu (qg (P:=P) (base:=base) 0 fn ps assign body hA.tmps hrd o1 o2) hr h1 (hfr.left (by omega));have f1:=hfr.right g1 m1;have J4:=g1.le (hfr.left (by omega));have KJ:=(bK P _).win h1 hwin (by omega);unfold eW at h2
 split at h2
 case isFalse=>cases h2
 rename_i hgo
 split at h2
 case h_2=>cases h2
 rename_i f0 first captured hg
 split at h2
 case isFalse=>cases h2
 rename_i hfn;cases h2;have hv:=aF hA g hgo;rw[hg]at hv;generalize Nn:A.eval g=Ag at hv;cases hv with
 | func _ _ f' _ c' hy hf hc h5 h6 =>
  have hargs:bk κ ((first ++ #[.func (.yield l) #[] #[]])++captured) ((f' ++ #[.func (.yield l') #[] #[]])++c'):=by
   refine bk.append (bk.append (bk.mono J4 ⟨hf,h5⟩) ⟨rfl,?_⟩) (bk.mono J4 ⟨hc,h6⟩);intro i x y hx hy
   match i with
   | 0 =>
    simp only[List.size_toArray,List.length_cons,List.length_nil,Nat.zero_add,Nat.lt_add_one,Array.getElem?_eq_getElem,List.getElem_toArray,List.getElem_cons_zero,Option.some.injEq]at hx hy;subst hx hy;exact .yield _ _ k1
   | i+1=>simp at hx
  refine⟨l',mark',w1,{ target:=.fn (.func f) c',args:=f' ++ #[.func (.yield l') #[] #[]] },w1,f,(f' ++ #[.func (.yield l') #[] #[]])++c',w1,?_,?_,λf _=>yD ro f,?_,sh ro,?_⟩
  ·rw[Bz];exact q1
  ·have hres:resolve A.eval (rangeCall g l') 0=Deferred.ofValue (A.eval g) #[.func (.yield l') #[] #[]]:=by
    unfold resolve;simp[rangeCall,Act.eval]
   rw[hres,Nn];rfl
  ·exact iP hfn _ w1
  ·refine yE ro ((qI hP cE hl hrun _ _ _ _ _ h3 (KJ.left m3) κ _ w1 g1.rep hargs (f1.left m3)).mono ?_)
   rintro e w2 ⟨μ,v',rfl,g2,_⟩;have Iy:=g2.le (f1.left m3);have f2:=f1.right g2 m2;obtain⟨ν,j',w3,q3,ej,g3⟩:=gu (uh (P:=P) (base:=base) (Iy _ _ k1)) g2.rep h4 f2;subst ej;have KH:=g3.le f2;have gg:Goes P base ι ν s s1 w w3:=g1.trans (g2.trans g3 m2 m3) m1 (by omega);have hA2:bF ν { a with defers:=mark++a.defers } { A with defers:=mark'++A.defers }:=by
    have GJ:=gg.le hfr;exact⟨hA.tmps.mono GJ,kp.append ((k2.mono Iy).mono KH) (hA.EO.mono GJ)⟩
   refine⟨j',w3,q3,?_⟩;rcases Nm with ⟨rfl,rfl⟩ | ⟨rfl,rfl⟩ | ⟨id,rfl,rfl⟩
   ·exact hQ _ _ _ hA2 gg
   ·exact wpIn_ret (hQ _ _ _ hA2 gg)
   ·exact wpIn_exit (hQ _ _ _ hA2 gg)
theorem BG{P:Program}{base:Nat->Prop}(hP:P.check=.ok ())(cE:dV P)(hm:P.follows .mixedOrders=true):∀ n,Ad P base (ev P n)/\∀ rd body a s ex a1 s1,ev P n rd (.loop body) a s=some (ex,a1,s1)->aY P body->kG s s.next s1.next->∀ (ι:ag) (ro:Option Nat) (A:Act) (w:World),lS ι rd ro->bF ι a A->bY P base ι s.look w->c6 ι s s1->∀ Q:Exit->Act->World->Prop,
  (∀ κ A1 w1,bF κ a1 A1->Goes P base ι κ s s1 w w1->Q ex A1 w1)->Code.roundsIn (FR ro) 0 P body Q n A w:=by
 intro n
 induction n with
 | zero=>exact⟨(λrd c a s ex a1 s1 h=>by cases h),(λrd body a s ex a1 s1 h=>by cases h)⟩
 | succ n ih =>
  obtain⟨ih1,ih2⟩:=ih;have hl:=l5 P n;have hloop:∀ rd body a s ex a1 s1,ev P (n+1) rd (.loop body) a s=some (ex,a1,s1)->aY P body->kG s s.next s1.next->∀ (ι:ag) (ro:Option Nat) (A:Act) (w:World),lS ι rd ro->bF ι a A->bY P base ι s.look w->c6 ι s s1->∀ Q:Exit->Act->World->Prop,
    (∀ κ A1 w1,bF κ a1 A1->Goes P base ι κ s s1 w w1->Q ex A1 w1)->Code.roundsIn (FR ro) 0 P body Q (n+1) A w:=by
   intro rd body a s ex a1 s1 h hco hwin;simp only[ev]at h
   split at h
   ·rename_i a2 s2 hb
    have n1:=hl.next hb
    have n2:=hl.next h
    intro ι ro A w hrd hA hr hfr Q hQ;rw[roundsIn_succ];refine ih1 _ _ _ _ _ _ _ hb hco (hwin.left n2) ι ro A w hrd hA hr (hfr.left n2) _ (λκ A1 w1 hA1 g=>?_);exact ih2 _ _ _ _ _ _ _ h hco (hl.win hb hwin n2) κ ro A1 w1 (hrd.mono (g.le (hfr.left n2))) hA1 g.rep (hfr.right g n1) Q (λμ A2 w2 hA2 g2=>hQ μ A2 w2 hA2 (g.trans g2 n1 n2))
   ·rename_i hb
    intro ι ro A w hrd hA hr hfr Q hQ;rw[roundsIn_succ];refine ih1 _ _ _ _ _ _ _ h hco hwin ι ro A w hrd hA hr hfr _ (λκ A1 w1 hA1 g=>?_);have:=hQ κ A1 w1 hA1 g;cases ex with
    | normal=>exact(hb _ _ h).elim
    | _=>exact this
  refine⟨?_,λrd body a s ex a1 s1 h hco hwin ι ro A w hrd hA hr hfr Q hQ=>hloop rd body a s ex a1 s1 h hco hwin ι ro A w hrd hA hr hfr Q hQ⟩;intro rd c a s ex a1 s1 h hco hwin;cases c with
  | skip =>
   simp only[ev]at h;cases h;exact λι ro A w hrd hA hr hfr Q hQ=>wpIn_skip (hQ ι A w hA (Goes.refl hr))
  | label l =>
   simp only[ev]at h;cases h;exact λι ro A w hrd hA hr hfr Q hQ=>wpIn_label (hQ ι A w hA (Goes.refl hr))
  | ret =>
   simp only[ev]at h;cases h;exact λι ro A w hrd hA hr hfr Q hQ=>wpIn_ret (hQ ι A w hA (Goes.refl hr))
  | exit id =>
   simp only[ev]at h;cases h;exact λι ro A w hrd hA hr hfr Q hQ=>wpIn_exit (hQ ι A w hA (Goes.refl hr))
  | goto l =>
   simp only[ev]at h;cases h;exact λι ro A w hrd hA hr hfr Q hQ=>wpIn_goto (hQ ι A w hA (Goes.refl hr))
  | seq x y =>
   obtain⟨Jb,J'⟩:=hco.seq;simp only[ev]at h
   split at h
   ·rename_i a2 s2 hb
    have n1:=hl.next hb
    have n2:=hl.next h
    refine λι ro A w hrd hA hr hfr Q hQ=>wpIn_seq ?_
    refine ih1 _ _ _ _ _ _ _ hb Jb (hwin.left n2) ι ro A w hrd hA hr (hfr.left n2) _ (λκ A1 w1 hA1 g=>?_);exact ih1 _ _ _ _ _ _ _ h J' (hl.win hb hwin n2) κ ro A1 w1 (hrd.mono (g.le (hfr.left n2))) hA1 g.rep (hfr.right g n1) Q (λμ A2 w2 hA2 g2=>hQ μ A2 w2 hA2 (g.trans g2 n1 n2))
   ·rename_i hb
    refine λι ro A w hrd hA hr hfr Q hQ=>wpIn_seq ?_
    refine ih1 _ _ _ _ _ _ _ h Jb hwin ι ro A w hrd hA hr hfr _ (λκ A1 w1 hA1 g=>?_);have:=hQ κ A1 w1 hA1 g;cases ex with
    | normal=>exact(hb _ _ h).elim
    | _=>exact this
  | cond c x y =>
   obtain⟨Jb,J'⟩:=hco.cond;simp only[ev]at h
   split at h
   ·rename_i b hok hb
    have co:aY P (if b=true then x else y):=by cases b<;>assumption
    refine λι ro A w hrd hA hr hfr Q hQ=>?_
    have hv:=aF hA c hok;rw[hb]at hv;generalize Kt:A.eval c=Ac at hv;cases hv;exact wpIn_cond Kt (ih1 _ _ _ _ _ _ _ h co hwin ι ro A w hrd hA hr hfr Q hQ)
   ·cases h
  | block id body =>
   have co:=hco.block;simp only[ev]at h
   split at h
   ·rename_i i a2 s2 hb
    split at h
    ·rename_i he
     cases h;refine λι ro A w hrd hA hr hfr Q hQ=>wpIn_block (ih1 _ _ _ _ _ _ _ hb co hwin ι ro A w hrd hA hr hfr _ (λκ A1 w1 hA1 g=>?_))
     show(if i=id then Q .normal A1 w1 else Q (.exit i) A1 w1);rw[if_pos he];exact hQ κ A1 w1 hA1 g
    ·rename_i he
     cases h;refine λι ro A w hrd hA hr hfr Q hQ=>wpIn_block (ih1 _ _ _ _ _ _ _ hb co hwin ι ro A w hrd hA hr hfr _ (λκ A1 w1 hA1 g=>?_))
     show(if i=id then Q .normal A1 w1 else Q (.exit i) A1 w1);rw[if_neg he];exact hQ κ A1 w1 hA1 g
   ·rename_i hb
    refine λι ro A w hrd hA hr hfr Q hQ=>wpIn_block (ih1 _ _ _ _ _ _ _ h co hwin ι ro A w hrd hA hr hfr _ (λκ A1 w1 hA1 g=>?_))
    have:=hQ κ A1 w1 hA1 g;cases ex with
    | exit i=>exact(hb _ _ _ h).elim
    | _=>exact this
  | loop body =>
   exact λι ro A w hrd hA hr hfr Q hQ=>wpIn_loop_rounds (n+1) (hloop rd body a s ex a1 s1 h hco.loop hwin ι ro A w hrd hA hr hfr Q hQ)
  | scope body =>
   have co:=hco.scope;cases rd with
   | some l=>simp[ev]at h
   | none =>
    simp only[ev]at h;unfold rO at h
    split at h
    ·rename_i l a2 s2 hb
     split at h
     case h_2=>cases h
     rename_i rest hf;have n1:=hl.next hb
     have main:∀ r,ev P n none rest a2 s2=some r->(∀ l,r.1≠.goto l)->r=(ex,a1,s1)->s2.next<=s1.next/\∀ (ι:ag) (ro:Option Nat) (A:Act) (w:World),lS ι none ro->bF ι a A->bY P base ι s.look w->c6 ι s s1->∀ Q:Exit->Act->World->Prop,
       (∀ κ A1 w1,bF κ a1 A1->Goes P base ι κ s s1 w w1->Q ex A1 w1)->(Code.scope body).wpIn (FR ro) 0 P Q A w:=by
      rintro r hr2 IK rfl;have n2:=hl.next hr2
      refine⟨n2,λι ro A w hrd hA hr hfr Q hQ=>?_⟩;cases ro with
      | some l=>exact hrd.elim
      | none =>
       refine wpIn_wide.2 (qt (wpIn_wide.1 (ih1 _ _ _ _ _ _ _ hb co (hwin.left n2) ι none A w trivial hA hr (hfr.left n2) _ (λκ A1 w1 hA1 g=>?_))));refine⟨rest,hf,wpIn_wide.1 (ih1 _ _ _ _ _ _ _ hr2 (co.label hf) (hl.win hb hwin n2) κ none A1 w1 trivial hA1 g.rep (hfr.right g n1) _ (λμ A2 w2 hA2 g2=>?_))⟩;have:=hQ μ A2 w2 hA2 (g.trans g2 n1 n2);cases ex with
       | goto l=>exact(IK _ rfl).elim
       | _=>exact this
     split at h
     ·cases h
     ·rename_i IK
      exact(main _ h (λl e=>by
       simp only at e;subst e
       exact IK _ _ _ h) rfl).2
    ·rename_i hb
     refine λι ro A w hrd hA hr hfr Q hQ=>?_
     cases ro with
     | some l=>exact hrd.elim
     | none =>
      refine wpIn_wide.2 (wp_scope_straight (wpIn_wide.1 (ih1 _ _ _ _ _ _ _ h co hwin ι none A w trivial hA hr hfr _ (λκ A1 w1 hA1 g=>?_))));have:=hQ κ A1 w1 hA1 g;cases ex with
      | goto l=>exact(hb _ _ _ h).elim
      | _=>exact this
  | rangeFunc g ps assign body =>
   obtain⟨Jb,J'⟩:=hco.rangeFunc;simp only[ev]at h;refine λι ro A w hrd hA hr hfr Q hQ=>Ah hP cE hl ih1 (λrd c a s hc r hr=>?_) h Jb J' hwin ι ro A w hrd hA hr hfr Q hQ
   cases n with
   | zero=>cases hr
   | succ n =>
    rcases hc with rfl | ⟨id,rfl⟩
    ·cases hr;rfl
    ·cases hr;rfl
  | region id ops draw =>
   have hok:=hco.region;simp only[ev]at h
   split at h
   ·rename_i a2 s2 hb
    cases h;exact λι ro A w hrd hA hr hfr Q hQ=>sj cE hm (nU hl) (uM hP cE hl ih1) ro hok hb hwin id hA hr hfr hQ
   ·cases h
  | _=>simp[ev]at h
theorem E1{P:Program}{base:Nat->Prop}(hP:P.check=.ok ())(cE:dV P)(hm:P.follows .mixedOrders=true)(n:Nat):lj P base (jv P (ev P n)):=uM hP cE (l5 P n) (BG hP cE hm n).1
theorem j9(id:Nat):s0.look id=none:=Tr.jr _ _
theorem Ai(P:Program)(w:World):bY P (· < w.heap.size) (λ_=>none) s0.look w :=
 ⟨(λid id' o o' b h=>by rw[j9]at h;cases h),(λid o h=>by rw[j9]at h;cases h),λk hk=>hk,(λid o g h=>by rw[j9]at h;cases h)⟩
theorem closed{P:Program}(hP:P.check=.ok ())(cE:dV P)(hm:P.follows .mixedOrders=true){n:Nat}{f:FuncId}{args args':Array Value}{v:Value}{s1:St}(h:jv P (ev P n) (.fn f args) s0=some (v,s1))(ha:bk (λ_=>none) args args')(w:World) :
  Calls P f args' w λe w1=>∃ κ v',e=.returned v'/\Goes P (· < w.heap.size) (λ_=>none) κ s0 s1 w w1/\aw κ v v' :=
 (E1 hP cE hm n).1 f args s0 v s1 h (λid _ _=>j9 id) _ args' w (Ai P w) ha (λid _ _=>rfl)
theorem uO{P:Program}(hP:P.check=.ok ())(cE:dV P)(hm:P.follows .mixedOrders=true){n:Nat}{f:FuncId}{args args':Array Value}(h:isTrue (jv P (ev P n) (.fn f args) s0)=true)(ha:bk (λ_=>none) args args')(w:World) :
  Calls P f args' w λe w1=>e=.returned (.bool true)/\Below w.heap.size w w1:=by
 unfold isTrue at h
 split at h
 ·rename_i b s1 hc
  subst h;refine(closed hP cE hm hc ha w).mono ?_;rintro e w1 ⟨κ,v',rfl,g,hv⟩;cases hv;exact⟨rfl,g.below.below⟩
 ·cases h
@[reducible] def cP:aL where
 val:=λ_=>.int .i64 0
 leaf:=λ_=>rfl
 bin:=λ_ _ _=>none
 wj:=λ_ _ _ _ h=>by cases h
 J2:=λ_ _=>none
 wk:=λ_ _ _ h=>by cases h
 J3:=λ_ _=>none
 wm:=λ_ _ _ h=>by cases h
 EK:=λ_ _=>none
 yv:=λ_ _ _ h=>by cases h
 GR:=λ_ _ _ _=>False
 rz:=λ_ _ _ _ _ _ h=>h
 rA:=λ_ _ _ _ _ _ h=>h
 EG:=λ_ _=>none
 tW:=λ_ _=>none
theorem Jc(P:Program):@dV cP P:=@dV.mk cP P (λ_ _ _ h=>by cases h) (λ_ _ _ h=>by cases h) (λ_ _ _ h=>by cases h)
end Go.Ev
namespace Go.Ev
open Go.RowKit
variable[aL]
inductive TV where
 | leaf
 | node (v:Value) (l r:TV)
noncomputable def TV.get(t:TV):Nat->Value :=
 @TV.rec (λ_=>Nat->Value) (λ_=>undef)
  (λv _ _ gl gr n=>@Bool.rec (λ_=>Value) (@Bool.rec (λ_=>Value) (gr (Nat.sub (Nat.div n 2) 1)) (gl (Nat.div n 2)) (Nat.beq (Nat.mod n 2) 1)) v (Nat.beq n 0)) t
noncomputable def TV.jC{β:Type}(d:Nat):TV->Nat->Value->(TV->β)->β :=
 @Nat.rec (λ_=>TV->Nat->Value->(TV->β)->β) (λt _ _ k=>k t)
  (λ_ ih t n x k=>@TV.rec (λ_=>β)
   (@Bool.rec (λ_=>β)
    (@Bool.rec (λ_=>β) (ih .leaf (Nat.sub (Nat.div n 2) 1) x (λr=>k (.node undef .leaf r))) (ih .leaf (Nat.div n 2) x (λl=>k (.node undef l .leaf))) (Nat.beq (Nat.mod n 2) 1))
    (k (.node x .leaf .leaf)) (Nat.beq n 0))
   (λv l r _ _=>@Bool.rec (λ_=>β)
    (@Bool.rec (λ_=>β) (ih r (Nat.sub (Nat.div n 2) 1) x (λr'=>k (.node v l r'))) (ih l (Nat.div n 2) x (λl'=>k (.node v l' r))) (Nat.beq (Nat.mod n 2) 1))
    (k (.node x l r)) (Nat.beq n 0)) t) d
noncomputable def od{β:Type}(n:Nat)(k:Nat->β):β:=@Nat.rec (λ_=>β) (k 0) (λm _=>k (Nat.succ m)) n
noncomputable def uP{β:Type}(i:Int)(k:Int->β):β:=@Int.rec (λ_=>β) (λn=>od n (λn=>k (.ofNat n))) (λn=>od n (λn=>k (.negSucc n))) i
noncomputable def E2{β:Type}(a:Option Addr)(k:Option Addr->β):β :=
 match a with
 | none=>k none
 | some ⟨b,off,sp⟩=>od b (λb=>od off (λoff=>k (some ⟨b,off,sp⟩)))
noncomputable def BH{β:Type}(v:Value)(k:Value->β):β :=
 match v with
 | .pointer a=>E2 a (λa=>k (.pointer a))
 | .slice a n c=>E2 a (λa=>od n (λn=>od c (λc=>k (.slice a n c))))
 | v=>k v
noncomputable def Tr.gt(d:Nat):Tr->Nat->Option Obj :=
 @Nat.rec (λ_=>Tr->Nat->Option Obj) (λ_ _=>none)
  (λ_ ih t n=>@Tr.rec (λ_=>Option Obj) none (λv l r _ _=>@Bool.rec (λ_=>Option Obj) (@Bool.rec (λ_=>Option Obj) (ih r (Nat.div n 2)) (ih l (Nat.div n 2)) (Nat.beq (Nat.mod n 2) 0)) v (Nat.beq n 0)) t) d
noncomputable def Tr.Hx{β:Type}(d:Nat):Tr->Nat->Option Obj->(Tr->β)->β :=
 @Nat.rec (λ_=>Tr->Nat->Option Obj->(Tr->β)->β) (λt _ _ k=>k t)
  (λ_ ih t n x k=>@Tr.rec (λ_=>β)
   (@Bool.rec (λ_=>β)
    (@Bool.rec (λ_=>β) (ih .leaf (Nat.div n 2) x (λr=>k (.node none .leaf r))) (ih .leaf (Nat.div n 2) x (λl=>k (.node none l .leaf))) (Nat.beq (Nat.mod n 2) 0))
    (k (.node x .leaf .leaf)) (Nat.beq n 0))
   (λv l r _ _=>@Bool.rec (λ_=>β)
    (@Bool.rec (λ_=>β) (ih r (Nat.div n 2) x (λr'=>k (.node v l r'))) (ih l (Nat.div n 2) x (λl'=>k (.node v l' r))) (Nat.beq (Nat.mod n 2) 0))
    (k (.node x l r)) (Nat.beq n 0)) t) d
noncomputable def Hy(l:List Value):Nat->Option Value :=
 @List.rec Value (λ_=>Nat->Option Value) (λ_=>none) (λv _ ih n=>@Nat.rec (λ_=>Option Value) (some v) (λm _=>ih m) n) l
noncomputable def BI{β:Type}(l:List Value)(x:Value):Nat->(List Value->β)->β :=
 @List.rec Value (λ_=>Nat->(List Value->β)->β) (λ_ k=>k []) (λv l ih n k=>@Nat.rec (λ_=>β) (k (x::l)) (λm _=>ih m (λl'=>k (v::l'))) n) l
noncomputable def E3:IntKind->Nat
 | .i8=>0 | .i16=>1 | .i32=>2 | .i64=>3 | .u8=>4 | .u16=>5 | .u32=>6 | .u64=>7
noncomputable def nX(k:IntKind)(n:Int):Int :=
 match k,n with
 | .i64,.ofNat m=>@Bool.rec (λ_=>Int) (IntKind.i64.wrap (.ofNat m)) (.ofNat m) (Nat.ble m 9223372036854775807)
 | .i64,.negSucc m=>@Bool.rec (λ_=>Int) (IntKind.i64.wrap (.negSucc m)) (.negSucc m) (Nat.ble m 9223372036854775807)
 | .u64,.ofNat m=>.ofNat (Nat.mod m 18446744073709551616)
 | .u32,.ofNat m=>.ofNat (Nat.mod m 4294967296)
 | .u8,.ofNat m=>.ofNat (Nat.mod m 256)
 | k,n=>k.wrap n
noncomputable def Aj:Int->Int->Bool
 | .ofNat a,.ofNat b=>Nat.ble a b
 | .ofNat _,.negSucc _=>false
 | .negSucc _,.ofNat _=>true
 | .negSucc a,.negSucc b=>Nat.ble b a
noncomputable def BJ:Int->Int->Bool
 | .ofNat a,.ofNat b=>Nat.beq a b
 | .ofNat _,.negSucc _=>false
 | .negSucc _,.ofNat _=>false
 | .negSucc a,.negSucc b=>Nat.beq a b
noncomputable def fint(op:BinOp)(k:IntKind)(a b:Int):Option Value :=
 match op with
 | .add=>uP (nX k (Int.add a b)) (λn=>some (.int k n))
 | .sub=>uP (nX k (Int.sub a b)) (λn=>some (.int k n))
 | .mul=>uP (nX k (Int.mul a b)) (λn=>some (.int k n))
 | .eql=>@Bool.rec (λ_=>Option Value) (some (.bool false)) (some (.bool true)) (BJ a b)
 | .neq=>@Bool.rec (λ_=>Option Value) (some (.bool true)) (some (.bool false)) (BJ a b)
 | .lss=>@Bool.rec (λ_=>Option Value) (some (.bool true)) (some (.bool false)) (Aj b a)
 | .leq=>@Bool.rec (λ_=>Option Value) (some (.bool false)) (some (.bool true)) (Aj a b)
 | .gtr=>@Bool.rec (λ_=>Option Value) (some (.bool true)) (some (.bool false)) (Aj a b)
 | .geq=>@Bool.rec (λ_=>Option Value) (some (.bool false)) (some (.bool true)) (Aj b a)
 | _=>none
noncomputable def E4(op:BinOp)(x y:Value):Option Value :=
 match x,y with
 | .int k a,.int k' b=>@Bool.rec (λ_=>Option Value) none (fint op k a b) (Nat.beq (E3 k) (E3 k'))
 | _,_=>none
noncomputable def cA(t:TV)(x:Operand):Value :=
 @Operand.rec (λ_=>Value) (λi=>t.get i) (λv=>v) (λg=>.pointer (some ⟨g,0,none⟩)) (λf=>.func (.func f) #[] #[]) x
inductive fl(α:Type) where
 | leaf
 | node (v:Option α) (l r:fl α)
noncomputable def fl.get{α:Type}(t:fl α):Nat->Option α :=
 @fl.rec α (λ_=>Nat->Option α) (λ_=>none)
  (λv _ _ gl gr n=>@Bool.rec (λ_=>Option α) (@Bool.rec (λ_=>Option α) (gr (Nat.sub (Nat.div n 2) 1)) (gl (Nat.div n 2)) (Nat.beq (Nat.mod n 2) 1)) v (Nat.beq n 0)) t
noncomputable def fl.jC{α β:Type}(d:Nat):fl α->Nat->α->(fl α->β)->β :=
 @Nat.rec (λ_=>fl α->Nat->α->(fl α->β)->β) (λt _ _ k=>k t)
  (λ_ ih t n x k=>@fl.rec α (λ_=>β)
   (@Bool.rec (λ_=>β)
    (@Bool.rec (λ_=>β) (ih .leaf (Nat.sub (Nat.div n 2) 1) x (λr=>k (.node none .leaf r))) (ih .leaf (Nat.div n 2) x (λl=>k (.node none l .leaf))) (Nat.beq (Nat.mod n 2) 1))
    (k (.node (some x) .leaf .leaf)) (Nat.beq n 0))
   (λv l r _ _=>@Bool.rec (λ_=>β)
    (@Bool.rec (λ_=>β) (ih r (Nat.sub (Nat.div n 2) 1) x (λr'=>k (.node v l r'))) (ih l (Nat.div n 2) x (λl'=>k (.node v l' r))) (Nat.beq (Nat.mod n 2) 1))
    (k (.node (some x) l r)) (Nat.beq n 0)) t) d
noncomputable def fl.GK{α β:Type}(l:List α):Nat->fl α->(fl α->β)->β :=
 @List.rec α (λ_=>Nat->fl α->(fl α->β)->β) (λ_ t k=>k t) (λv _ ih i t k=>fl.jC 16 t i v (λt1=>ih (Nat.succ i) t1 k)) l
structure Base where
 P:Program
 T:fl TypeInfo
 F:fl Func
noncomputable def uQ(B:Base)(t:TypeId):Option TypeDesc :=
 match B.T.get t with
 | some i =>
  match i.desc with
  | .named _ u=>(match B.T.get u with | some j=>some j.desc | none=>none)
  | d=>some d
 | none=>none
noncomputable def sn(B:Base)(t:TypeId):Bool :=
 match uQ B t with
 | some (.struct _)=>false
 | some (.array _ _)=>false
 | some _=>true
 | none=>false
noncomputable def Jd(B:Base)(t:TypeId)(f:Nat):Option Nat :=
 match uQ B t with
 | some (.struct fields) =>
  match fields[f]? with
  | some fd=>(match B.T.get fd.type with | some i=>@Bool.rec (λ_=>Option Nat) (some fd.offset) none (Nat.beq i.size 0) | none=>none)
  | none=>none
 | _=>none
noncomputable def Je(B:Base)(t:TypeId):Bool :=
 match B.T.get t with
 | some i=>Nat.beq i.size 1
 | none=>false
noncomputable def E5(B:Base)(t:TypeId):Bool :=
 match uQ B t with
 | some (.pointer _)=>true
 | _=>false
noncomputable def GL(B:Base)(t:TypeId):Option (Array Value) :=
 match B.T.get t with
 | some i=>(match i.zero with | some z=>@Bool.rec (λ_=>Option (Array Value)) none (some z.cells) (bz 6 z) | none=>none)
 | none=>none
noncomputable def GM(B:Base)(t:TypeId):Option Nat :=
 match uQ B t with
 | some (.slice e)=>(match B.T.get e with | some i=>some i.size | none=>none)
 | _=>none
noncomputable def E6(B:Base)(t:TypeId):Option IntKind :=
 match uQ B t with
 | some (.int k)=>some k
 | _=>none
noncomputable def E7(B:Base)(t:TypeId):Nat :=
 match uQ B t with
 | some (.slice _)=>1
 | some .string=>2
 | _=>0
noncomputable def Ka(B:Base)(f:FuncId):Bool :=
 match B.F.get f with
 | some fn=>fn.name != "runtime.NumGoroutine" && fn.body.isSome
 | none=>false
noncomputable def E8(c:Array Value)(e:TypeId)(s:St):Option (Next×St) :=
 match s with
 | ⟨h,nx,lg⟩=>@Bool.rec (λ_=>Option (Next×St)) none (Tr.Hx deep h (Nat.mul 4 nx) (some (.cells c e (0,0))) (λh'=>some (.value (.pointer (some ⟨Nat.mul 4 nx,0,none⟩)),⟨h',Nat.succ nx,⟨Nat.mul 4 nx,none,true⟩::lg⟩))) (Nat.blt (Nat.mul 4 nx) lim)
noncomputable def wS(B:Base)(t:TypeId)(s:St):Option (Next×St) :=
 match GL B t with
 | some c=>E8 c t s
 | none=>none
noncomputable def Jf(t:TypeId)(v:Value)(s:St):Option (Next×St):=E8 v.cells t s
noncomputable def Hz(B:Base)(t:TypeId)(x:Value)(s:St):Option (Next×St) :=
 match x with
 | .slice _ n _=>@Bool.rec (λ_=>Option (Next×St)) none (some (.value (.int .i64 (.ofNat n)),s)) (Nat.beq (E7 B t) 1)
 | .string b=>@Bool.rec (λ_=>Option (Next×St)) none (some (.value (.int .i64 (.ofNat b.size)),s)) (Nat.beq (E7 B t) 2)
 | _=>none
noncomputable def wT(B:Base)(t:TypeId)(x i:Value)(s:St):Option (Next×St) :=
 match x,i with
 | .slice (some ⟨b,off,none⟩) n _,.int _ (.ofNat i)=>(match GM B t with | some z=>@Bool.rec (λ_=>Option (Next×St)) none (some (.value (.pointer (some ⟨b,Nat.add off (Nat.mul i z),none⟩)),s)) (Nat.blt i n) | none=>none)
 | _,_=>none
noncomputable def BK(B:Base)(t u:TypeId)(x:Value)(s:St):Option (Next×St) :=
 match x with
 | .int _ n=>(match E6 B t,E6 B u with | some _,some k=>uP (nX k n) (λn=>some (.value (.int k n),s)) | _,_=>none)
 | _=>none
noncomputable def BL(B:Base)(op:BinOp)(t:TypeId)(x y:Value)(s:St):Option (Next×St) :=
 match x,y with
 | .pointer (some _),.pointer none=>@Bool.rec (λ_=>Option (Next×St)) none (match op with | .eql=>some (.value (.bool false),s) | .neq=>some (.value (.bool true),s) | _=>none) (E5 B t)
 | .pointer none,.pointer none=>@Bool.rec (λ_=>Option (Next×St)) none (match op with | .eql=>some (.value (.bool true),s) | .neq=>some (.value (.bool false),s) | _=>none) (E5 B t)
 | _,_=>none
noncomputable def BM(B:Base)(ty:TypeId)(x:Value)(s:St):Option (Next×St) :=
 match x,s with
 | .pointer (some ⟨b,off,none⟩),⟨h,nx,lg⟩ =>
  @Bool.rec (λ_=>Option (Next×St)) none
   (match Tr.gt deep h b with
    | some (.cells c _ _)=>(match Hy c.toList off with | some v=>some (.value v,⟨h,nx,⟨b,some off,false⟩::lg⟩) | none=>none)
    | _=>none) (sn B ty)
 | _,_=>none
noncomputable def wU(B:Base)(ty:TypeId)(x v:Value)(s:St):Option (Next×St) :=
 match x,s with
 | .pointer (some ⟨b,off,none⟩),⟨h,nx,lg⟩ =>
  @Bool.rec (λ_=>Option (Next×St)) none
   (match Tr.gt deep h b with
    | some (.cells c e (0,0))=>@Bool.rec (λ_=>Option (Next×St)) none (BI c.toList v off (λl=>Tr.Hx deep h b (some (.cells ⟨l⟩ e (0,0))) (λh'=>some (.skip,⟨h',nx,⟨b,some off,true⟩::lg⟩)))) (Nat.blt off c.toList.length&&Nat.blt b lim)
    | _=>none) (oneCell v&&Je B ty)
 | _,_=>none
noncomputable def wV(B:Base)(ty:TypeId)(x:Value)(f:Nat)(s:St):Option (Next×St) :=
 match x with
 | .pointer (some ⟨b,off,none⟩)=>(match Jd B ty f with | some d=>some (.value (.pointer (some ⟨b,Nat.add off d,none⟩)),s) | none=>none)
 | _=>none
noncomputable def KK(x:Value)(s:St):Option (Next×St) :=
 match x with
 | .pointer (some _)=>some (.value x,s)
 | .func (.func _) _ _=>some (.value x,s)
 | .iface _ _=>some (.value x,s)
 | _=>none
noncomputable def GN(c x y:Value)(s:St):Option (Next×St) :=
 match c with
 | .bool b=>some (.value (@Bool.rec (λ_=>Value) y x b),s)
 | _=>none
noncomputable def pn(x:Value)(i:Nat)(s:St):Option (Next×St) :=
 match x with
 | .tuple vs=>(match Hy vs.toList i with | some v=>some (.value v,s) | none=>none)
 | _=>none
noncomputable def HA(op:UnOp)(x:Value)(s:St):Option (Next×St) :=
 match op,x with
 | .not,.bool b=>@Bool.rec (λ_=>Option (Next×St)) (some (.value (.bool true),s)) (some (.value (.bool false),s)) b
 | _,_=>none
noncomputable def qJ(t:TV)(xs:List Operand):List Value:=@List.rec Operand (λ_=>List Value) [] (λx _ ih=>cA t x::ih) xs
noncomputable def dW(P:Program)(ρ:Operand->Value)(o:Oper)(s:St):Option (Next×St) :=
 if iQ o.op&&o.op.operands.toList.all (λx=>aW x&&bz 5 (ρ x)) then
  match gi P (execOp ρ o) with
  | some (.value v)=>if bz 5 v then some (.value v,s) else none
  | _=>none
 else none
noncomputable def yF(P:Program)(ρ:Operand->Value)(c:Call)(ty:TypeId)(s:St):Option (Next×St) :=
 if a5 c.operands.toList then
  match c.callee with
  | .value f =>
   match ρ f with
   | .func (.func g) first captured=>if rL P g then some (.enter g ((first++c.args.map ρ)++captured),s) else none
   | .func (.yield l) first captured=>if first.isEmpty&&captured.isEmpty then aC P (Instr.yield l (c.args.map ρ)) s else none
   | _=>none
  | .invoke r name =>
   match ρ r with
   | .iface t v=>(match lT P t v name with | some f=>if rL P f then some (.enter f (#[v]++c.args.map ρ),s) else none | none=>none)
   | _=>none
  | .builtin b =>
   match b,c.args.toList,c.argTypes.toList with
   | .len,[x],[t]=>sv (aC P (Builtin.len_ #[t] ty #[ρ x]) s)
   | .cap,[x],[t]=>if yA (ρ x) then sv (aC P (Builtin.cap_ #[t] ty #[ρ x]) s) else none
   | .append,[x,y],[t,u]=>if rJ P u (ρ x) (ρ y) then sv (aC P (Builtin.append_ #[t,u] ty #[ρ x,ρ y]) s) else sv (b7 P s t u (ρ x) (ρ y))
   | .copy,[x,y],[t,u]=>sv (aC P (Builtin.copy_ #[t,u] ty #[ρ x,ρ y]) s)
   | .delete,[x,y],[t,u]=>(dD P s t (ρ x) (ρ y)).map λs1=>(.value (.tuple #[]),s1)
   | _,_,_=>none
 else none
noncomputable def dX(P:Program)(ρ:Operand->Value)(o:Oper)(s:St):Option (Next×St) :=
 match o.op with
 | .move x | .assign x=>if aW x then some (.value (ρ x),s) else none
 | .pick c x y =>
  if a5 [c,x,y] then
   match ρ c with
   | .bool b=>some (.value (if b then ρ x else ρ y),s)
   | _=>none
  else none
 | .alloc t=>if qa P t then sv (aC P (Instr.alloc t true (.tuple #[])) s) else none
 | .box t x=>if aW x then sv (aC P (Instr.box t (ρ x)) s) else none
 | .build t ps=>if qa P t&&a5 (ps.toList.map (·.2)) then sv (aC P (Instr.build t (ps.map λ(i,x)=>(i,ρ x))) s) else none
 | .buildSlice t n ps=>if qa P (fP P t)&&t_ P (fP P t)&&a5 (ps.toList.map (·.2)) then sv (aC P (Instr.buildSlice t n (ps.map λ(i,x)=>(i,ρ x))) s) else none
 | .load t x=>if aW x then sv (aC P (Instr.loadAt t (ρ x)) s) else none
 | .store t x y=>if a5 [x,y] then su (aC P (Instr.storeAt t (ρ x) (ρ y)) s) else none
 | .nilCheck x =>
  if aW x then
   match ρ x with
   | .pointer (some b)=>some (.value (ρ x),s)
   | .func (.func _) _ _=>some (.value (ρ x),s)
   | .iface _ _=>some (.value (ρ x),s)
   | _=>none
  else none
 | .binOp op t x y _ =>
  match dW P ρ o s with
  | some r=>some r
  | none=>if a5 [x,y] then (if eu P t (ρ x) (ρ y) then (match op with | .eql=>some (.value (.bool false),s) | .neq=>some (.value (.bool true),s) | _=>none) else Bn op (ρ x) (ρ y) s) else none
 | .unOp op _ x =>
  match dW P ρ o s with
  | some r=>some r
  | none=>if aW x then Bo op (ρ x) s else none
 | .convert t u x =>
  match dW P ρ o s with
  | some r=>some r
  | none=>if aW x then wD P t u (ρ x) s else none
 | .makeInterface t x=>if aW x then sv (aC P (Instr.makeInterface t (ρ x)) s) else none
 | .makeFunc (.func f) first captured=>if a5 first.toList&&a5 captured.toList then some (.value (.func (.func f) (first.map ρ) (captured.map ρ)),s) else none
 | .makeMap t none=>sv (aC P (Instr.makeMap t none) s)
 | .makeMap t (some x)=>if aW x then sv (aC P (Instr.makeMap t (some (ρ x))) s) else none
 | .makeSlice t l c=>if qa P (fP P t)&&t_ P (fP P t)&&a5 [l,c] then sv (aC P (Instr.makeSlice t (ρ l) (ρ c)) s) else none
 | .slice t x lo hi mx =>
  if zX P t&&aW x&&a5 lo.toList&&a5 hi.toList&&a5 mx.toList&&zW (ρ x) (mx.map ρ) then
   match aC P (Instr.sliceAt t (ρ x) (lo.map ρ) (hi.map ρ) (mx.map ρ)) s with
   | some (v,s1)=>if lP v then some (.value v,s1) else none
   | none=>none
  else none
 | .fieldAddr t x f=>if aW x&&qE P t f then sv (aC P (Instr.fieldAt t (ρ x) f) s) else none
 | .field t x f=>if aW x then sv (aC P (Instr.field t (ρ x) f) s) else none
 | .indexAddr t x i=>if a5 [x,i] then sv (aC P (Instr.indexAt t (ρ x) (ρ i)) s) else none
 | .index t x i=>if a5 [x,i] then sv (aC P (Instr.index t (ρ x) (ρ i)) s) else none
 | .lookup t m k ok=>if a5 [m,k] then sv (gM P s t (ρ m) (ρ k) ok) else none
 | .mapUpdate t m k v=>if a5 [m,k,v] then (c9 P s t (ρ m) (ρ k) (ρ v)).map λs1=>(.skip,s1) else none
 | .insert t m k v=>if a5 [m,k,v] then (c9 P s t (ρ m) (ρ k) (ρ v)).map λs1=>(.skip,s1) else none
 | .mapEntry t m k=>if a5 [m,k] then sv (eV P s t (ρ m) (ρ k)) else none
 | .entryStore _ m st v=>if a5 [m,st,v] then (fG s (ρ m) (ρ st) (ρ v)).map λs1=>(.skip,s1) else none
 | .range t x=>if aW x then sv (aC P (Instr.range t (ρ x)) s) else none
 | .next x str=>if aW x then sv (aC P (Instr.next (ρ x) str o.type) s) else none
 | .entry x=>if aW x then sv (aC P (Instr.entry (ρ x)) s) else none
 | .typeAssert x t u ok=>if aW x&&(!ok||qa P u) then sv (aC P (Instr.typeAssert (ρ x) t u ok) s) else none
 | .extract x i=>if aW x then sv (aC P (Instr.extract (ρ x) i) s) else none
 | .call c=>(match dW P ρ o s with | some r=>some r | none=>yF P ρ c o.type s)
 | _=>none
theorem BN(P:Program)(a:Act)(o:Oper)(s:St):dX P a.eval o s=aS P a o s:=rfl
noncomputable def fall(B:Base)(t:TV)(o:Oper)(s:St):Option (Next×St):=dX B.P (cA t) o s
noncomputable def Bb(r:Option (Next×St))(f:Option (Next×St)):Option (Next×St):=@Option.rec (Next×St) (λ_=>Option (Next×St)) f (λx=>some x) r
noncomputable def wa(c:Bool)(r:Option (Next×St)):Option (Next×St):=@Bool.rec (λ_=>Option (Next×St)) none r c
noncomputable def uR(B:Base)(t:TV)(o:Oper)(c:Call)(b:Builtin)(s:St):Option (Next×St) :=
 match b,c.args.toList,c.argTypes.toList with
 | .len,[x],[ty]=>wa (a5 c.operands.toList) (Bb (Hz B ty (cA t x) s) (fall B t o s))
 | _,_,_=>fall B t o s
noncomputable def sw(B:Base)(t:TV)(o:Oper)(c:Call)(s:St):Option (Next×St) :=
 match c.callee with
 | .value f =>
  match cA t f with
  | .func (.func g) first captured=>wa (a5 c.operands.toList&&Ka B g) (some (.enter g ⟨List.append first.toList (List.append (qJ t c.args.toList) captured.toList)⟩,s))
  | _=>fall B t o s
 | .builtin b=>uR B t o c b s
 | _=>fall B t o s
noncomputable def yG(B:Base)(t:TV)(o:Oper)(s:St):Option (Next×St) :=
 match o.op with
 | .move x=>wa (aW x) (some (.value (cA t x),s))
 | .assign x=>wa (aW x) (some (.value (cA t x),s))
 | .pick c x y=>wa (a5 [c,x,y]) (GN (cA t c) (cA t x) (cA t y) s)
 | .binOp op ty x y u=>wa (a5 [x,y]) (match E4 op (cA t x) (cA t y) with | some v=>some (.value v,s) | none=>Bb (BL B op ty (cA t x) (cA t y) s) (fall B t o s))
 | .unOp op ty x=>wa (aW x) (Bb (HA op (cA t x) s) (fall B t o s))
 | .convert a u x=>wa (aW x) (Bb (BK B a u (cA t x) s) (fall B t o s))
 | .alloc ty=>Bb (wS B ty s) (fall B t o s)
 | .box ty x=>wa (aW x) (Bb (Jf ty (cA t x) s) (fall B t o s))
 | .load ty x=>wa (aW x) (Bb (BM B ty (cA t x) s) (fall B t o s))
 | .store ty x y=>wa (a5 [x,y]) (Bb (wU B ty (cA t x) (cA t y) s) (fall B t o s))
 | .fieldAddr ty x f=>wa (aW x) (Bb (wV B ty (cA t x) f s) (fall B t o s))
 | .indexAddr ty x i=>wa (a5 [x,i]) (Bb (wT B ty (cA t x) (cA t i) s) (fall B t o s))
 | .nilCheck x=>wa (aW x) (KK (cA t x) s)
 | .extract x i=>wa (aW x) (Bb (pn (cA t x) i s) (fall B t o s))
 | .call c=>sw B t o c s
 | _=>fall B t o s
abbrev cT:=Exit×TV×List Deferred×St
abbrev lu:=Option Nat->Nat->Code->TV->List Deferred->St->Option cT
abbrev iY:=Ku->St->Option (Value×St)
noncomputable def qu{β:Type}(n:Nat)(t:TV)(d:Option Tmp)(v:Value)(k:TV->β):β :=
 match d with
 | none=>k t
 | some d=>@Bool.rec (λ_=>β) (k t) (BH v (λv=>TV.jC 12 t d v k)) (Nat.blt d n)
noncomputable def qK{β:Type}(B:Base)(call:iY)(n:Nat)(t:TV)(o:Oper)(s:St)(k:TV->St->Option β):Option β :=
 match aL.EG o.op (qJ t o.op.operands.toList) with
 | some q=>@Bool.rec (λ_=>Option β) none (match kY q (qJ t o.op.operands.toList) s with | some (v,s1)=>qu n t o.dst v (λt1=>k t1 s1) | none=>none) (a5 o.op.operands.toList)
 | none =>
 match yG B t o s with
 | some (.value v,s1)=>qu n t o.dst v (λt1=>k t1 s1)
 | some (.skip,s1)=>qu n t o.dst undef (λt1=>k t1 s1)
 | some (.enter f args,s1)=>(match call (.fn f args) s1 with | some (v,s2)=>qu n t o.dst v (λt1=>k t1 s2) | none=>none)
 | some (.round l _ tmps assign body,s1)=>(match call (.Bp l tmps assign body) s1 with | some (v,s2)=>qu n t o.dst v (λt1=>k t1 s2) | none=>none)
 | _=>none
noncomputable def wW(ops:Array Oper)(t:TV)(j:Nat):Option Bool :=
 match (ops[j]?).bind (·.dst) with
 | some d=>(match t.get d with | .bool b=>some b | _=>none)
 | none=>none
noncomputable def qL(ops:Array Oper)(t:TV)(o:Oper):Bool :=
 match o.guard with
 | none=>true
 | some (j,want) =>
  match wW ops t j,want with
  | some true,true=>true
  | some false,false=>true
  | _,_=>false
noncomputable def uS(B:Base)(call:iY)(n:Nat)(ops:Array Oper)(d:List Deferred)(l:List Oper):TV->St->Option cT :=
 @List.rec Oper (λ_=>TV->St->Option cT) (λt s=>some (.normal,t,d,s))
  (λo _ ih t s=>@Bool.rec (λ_=>Option cT) (qu n t o.dst undef (λt1=>ih t1 s)) (qK B call n t o s (λt1 s1=>ih t1 s1)) (qL ops t o)) l
noncomputable def uT(B:Base)(call:iY)(n:Nat)(ops:Array Oper)(d:List Deferred)(l:List Oper):TV->St->List (List Touch)->Option cT :=
 @List.rec Oper (λ_=>TV->St->List (List Touch)->Option cT)
  (λt s ls=>@Bool.rec (λ_=>Option cT) none (some (.normal,t,d,s)) (fk ops&&fT (Region.before ops) ls (ops.size-1)))
  (λo _ ih t s ls=>@Bool.rec (λ_=>Option cT) (qu n t o.dst undef (λt1=>ih t1 s ([]::ls)))
   (@St.rec (λ_=>Option cT) (λh nx lg=>qK B call n t o ⟨h,nx,[]⟩ (λt1 s1=>@St.rec (λ_=>Option cT) (λh1 KL Jg=>ih t1 ⟨h1,KL,List.append Jg lg⟩ (Jg::ls)) s1)) s) (qL ops t o)) l
noncomputable def E9(r:Option cT)(k:TV->List Deferred->St->Option cT):Option cT :=
 match r with
 | some (.normal,t,d,s)=>k t d s
 | some (e,t,d,s)=>some (e,t,d,s)
 | none=>none
noncomputable def BO(id:Nat)(r:Option cT):Option cT :=
 match r with
 | some (.exit i,t,d,s)=>@Bool.rec (λ_=>Option cT) (some (.exit i,t,d,s)) (some (.normal,t,d,s)) (Nat.beq i id)
 | some (e,t,d,s)=>some (e,t,d,s)
 | none=>none
noncomputable def yH(r:Option cT):Option cT :=
 match r with
 | some (.goto _,_,_,_)=>none
 | some (e,t,d,s)=>some (e,t,d,s)
 | none=>none
noncomputable def BP(run:Code->TV->List Deferred->St->Option cT)(body:Code)(r:Option cT):Option cT :=
 match r with
 | some (.goto l,t,d,s)=>(match findLabel body l with | some rest=>yH (run rest t d s) | none=>none)
 | some (e,t,d,s)=>some (e,t,d,s)
 | none=>none
noncomputable def GT(v:Value)(x y:Option cT):Option cT :=
 match v with
 | .bool b=>@Bool.rec (λ_=>Option cT) y x b
 | _=>none
noncomputable def jl{β:Type}(l:List Value):Nat->TV->(TV->β)->β :=
 @List.rec Value (λ_=>Nat->TV->(TV->β)->β) (λ_ t k=>k t) (λv _ ih i t k=>TV.jC 12 t i v (λt1=>ih (Nat.succ i) t1 k)) l
noncomputable def TV.HB(t:TV)(k:Nat):Nat->List Value:=@Nat.rec (λ_=>Nat->List Value) (λ_=>[]) (λ_ ih i=>t.get i::ih (Nat.succ i)) k
noncomputable def TV.HC{β:Type}(t:TV)(k:Nat):Nat->(List Value->β)->β:=@Nat.rec (λ_=>Nat->(List Value->β)->β) (λ_ f=>f []) (λ_ ih i f=>BH (t.get i) (λv=>ih (Nat.succ i) (λl=>f (v::l)))) k
noncomputable def TV.act(t:TV)(n:Nat):Act:=⟨⟨t.HB n 0⟩,[]⟩
noncomputable def uU(t:TV)(r:ResultVar)(ih:Option (List Value)):Option (List Value) :=
 match r,ih with
 | .tmp i,some l=>some (t.get i::l)
 | _,_=>none
noncomputable def qM(t:TV)(l:List ResultVar):Option (List Value):=@List.rec ResultVar (λ_=>Option (List Value)) (some []) (λr _ ih=>uU t r ih) l
noncomputable def HD(P:Program)(fn:Func)(t:TV)(s:St):Option (Value×St) :=
 match fn.results.toList with
 | [.tmp i]=>some (t.get i,s)
 | []=>some (.tuple #[],s)
 | a::b::l=>(match qM t (a::b::l) with | some vs=>some (.tuple ⟨vs⟩,s) | none=>aC P (results fn (t.act fn.ntmps).tmps) s)
 | _=>aC P (results fn (t.act fn.ntmps).tmps) s
noncomputable def E_(P:Program)(fn:Func)(t:TV)(d:List Deferred)(s:St):Option (Value×St) :=
 match iR P d s with
 | some (_,s1)=>HD P fn t s1
 | none=>none
noncomputable def sx(P:Program)(fn:Func)(r:Option cT):Option (Value×St) :=
 match r with
 | some (.ret,t,d,s)=>E_ P fn t d s
 | some (.normal,t,d,s)=>E_ P fn t d s
 | _=>none
noncomputable def lw(B:Base)(run:lu)(f:FuncId)(args:List Value)(s:St):Option (Value×St) :=
 match aL.EK f args with
 | some r=>some (r,s)
 | none =>
 match aL.tW f args with
 | some q=>qi q s
 | none =>
 match B.F.get f with
 | some fn =>
  match fn.body with
  | some body=>@Bool.rec (λ_=>Option (Value×St)) none (jl args 0 .leaf (λt=>sx B.P fn (run none fn.ntmps body t [] s))) (Nat.ble args.length fn.ntmps&&Nat.ble fn.ntmps 4094)
  | none=>none
 | none=>none
noncomputable def GU(P:Program)(l:Nat)(r:Option cT):Option (Value×St) :=
 match r with
 | some (e,_,_,s)=>qj P l e s
 | none=>none
noncomputable def HE(B:Base)(run:lu)(l n:Nat)(body:Code)(r:Option cT):Option (Value×St) :=
 match r with
 | some (.normal,t,d,s) =>
  match aC B.P (Instr.beginRound l) s with
  | some (_,s1)=>GU B.P l (run (some l) n body t d s1)
  | none=>none
 | _=>none
noncomputable def wX(B:Base)(run:lu)(l:Nat)(tmps:List Value)(assign body:Code)(s:St):Option (Value×St) :=
 od tmps.length (λn=>@Bool.rec (λ_=>Option (Value×St)) none (jl tmps 0 .leaf (λt=>HE B run l n body (run (some l) n assign t [] s))) (Nat.ble n 4094))
noncomputable def yI(B:Base)(run:lu)(c:Ku)(s:St):Option (Value×St) :=
 match c with
 | .fn f args=>lw B run f args.toList s
 | .Bp l tmps assign body=>wX B run l tmps.toList assign body s
noncomputable def m7(B:Base)(t:TV)(g:Operand)(l:Nat):Option (FuncId×List Value) :=
 match cA t g with
 | .func (.func f) first captured=>@Bool.rec (λ_=>Option (FuncId×List Value)) none (some (f,List.append first.toList (.func (.yield l) #[] #[]::captured.toList))) (aW g&&Ka B f)
 | _=>none
noncomputable def GV(run:lu)(rd:Option Nat)(n:Nat)(j:Option Code)(t:TV)(d:List Deferred)(s:St):Option cT :=
 match j with
 | none=>some (.normal,t,d,s)
 | some c=>run rd n c t d s
noncomputable def yJ(B:Base)(run:lu)(rd:Option Nat)(n l:Nat)(t:TV)(d:List Deferred)(r:Option (Value×St)):Option cT :=
 match r with
 | some (_,s2) =>
  match aC B.P (Instr.endLoop l) s2 with
  | some (j,s3)=>@Bool.rec (λ_=>Option cT) none (GV run rd n j t d s3) (k_ j)
  | none=>none
 | none=>none
noncomputable def wY(B:Base)(run:lu)(rd:Option Nat)(n:Nat)(g:Operand)(ps:Array Tmp)(assign body:Code)(t:TV)(d:List Deferred)(s:St):Option cT :=
 t.HC n 0 (λL =>
 match aC B.P (Instr.enterLoop 0 ⟨L⟩ ps assign body rd) s with
 | some ((l,mark),s1) =>
  match m7 B t g l with
  | some (f,args)=>yJ B run rd n l t (List.append mark d) (lw B run f args s1)
  | none=>none
 | none=>none)
noncomputable def BQ(B:Base)(run:lu)(rd:Option Nat)(n:Nat)(c:Code)(t:TV)(d:List Deferred)(s:St):Option cT :=
 match c with
 | .skip=>some (.normal,t,d,s)
 | .label _=>some (.normal,t,d,s)
 | .ret=>some (.ret,t,d,s)
 | .exit id=>some (.exit id,t,d,s)
 | .goto l=>some (.goto l,t,d,s)
 | .seq x y=>E9 (run rd n x t d s) (λt1 d1 s1=>run rd n y t1 d1 s1)
 | .cond c x y=>@Bool.rec (λ_=>Option cT) none (GT (cA t c) (run rd n x t d s) (run rd n y t d s)) (aW c)
 | .block id body=>BO id (run rd n body t d s)
 | .loop body=>E9 (run rd n body t d s) (λt1 d1 s1=>run rd n (.loop body) t1 d1 s1)
 | .scope body=>(match rd with | none=>BP (run none n) body (run none n body t d s) | some _=>none)
 | .rangeFunc g ps assign body=>wY B run rd n g ps assign body t d s
 | .region _ ops draw=>@Bool.rec (λ_=>Option cT) (uS B (yI B run) n ops d ops.toList t s) (uT B (yI B run) n ops d ops.toList t s []) draw
 | _=>none
noncomputable def Ak{α β:Type}(l:List α):(List α->β)->β :=
 @List.rec α (λ_=>(List α->β)->β) (λk=>k []) (λv _ ih k=>ih (λl=>k (v::l))) l
noncomputable def dL{β:Type}(P:Program)(k:Base->β):β :=
 match P with
 | ⟨⟨a1,a2,a3,a4,types,a6,a7,a8,a9,Iz,IA⟩,funcs⟩=>Ak types.toList (λL=>Ak funcs.toList (λM=>fl.GK L 0 .leaf (λT=>fl.GK M 0 .leaf (λF=>k ⟨⟨⟨a1,a2,a3,a4,⟨L⟩,a6,a7,a8,a9,Iz,IA⟩,⟨M⟩⟩,T,F⟩))))
noncomputable def E'(B:Base)(fuel:Nat):lu :=
 @Nat.rec (λ_=>lu) (λ_ _ _ _ _ _=>none) (λ_ ih rd n c t d s=>BQ B ih rd n c t d s) fuel
end Go.Ev
