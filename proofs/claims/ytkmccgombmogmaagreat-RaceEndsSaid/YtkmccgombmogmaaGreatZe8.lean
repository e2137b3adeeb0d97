/- Part of a proof: see the last text. -/
import Derived.Test.YtkmccgombmogmaaGreatZe7
import GoSem.Core.CheckCode
set_option linter.unusedSectionVars false
set_option linter.unusedSimpArgs false
set_option linter.unusedVariables false
namespace Go.Ev
open Go.RowKit
variable[bg]
theorem bind_ok{ε α β:Type}{x:Except ε α}{f:α->Except ε β}{r:β}(h:x >>= f=.ok r):∃ a,x=.ok a/\f a=.ok r:=by
 cases x with
 | error e=>cases h
 | ok a=>exact⟨a,rfl,h⟩
theorem forM_ok{ε α:Type}{f:α->Except ε Unit} : ∀ {l:List α},l.forM f=.ok ()->∀ x ∈ l,f x=.ok ():=by
 intro l
 induction l with
 | nil=>intro _ x hx;cases hx
 | cons y rest ih =>
  intro h x hx;obtain⟨u,h1,h2⟩:=bind_ok (show f y >>= (λ_=>rest.forM f)=.ok () from h);rcases List.mem_cons.1 hx with e | e
  ·rw[e];exact h1
  ·exact ih h2 x e
theorem require_ok{b:Bool}{m:String}(h:CheckCode.require b m=.ok ()):b=true:=by
 cases b with
 | true=>rfl
 | false=>cases h
theorem bL.seq{P:Program}{x y:Code}(h:bL P (.seq x y)):bL P x/\bL P y:=by
 obtain⟨fn,bl,lb,h⟩:=h;unfold CheckCode.code at h;obtain⟨_,h1,h2⟩:=bind_ok h;exact⟨⟨fn,bl,lb,h1⟩,⟨fn,bl,lb,h2⟩⟩
theorem bL.cond{P:Program}{c:Operand}{x y:Code}(h:bL P (.cond c x y)):bL P x/\bL P y:=by
 obtain⟨fn,bl,lb,h⟩:=h;unfold CheckCode.code at h;obtain⟨_,_,h⟩:=bind_ok h;obtain⟨_,h1,h2⟩:=bind_ok h;exact⟨⟨fn,bl,lb,h1⟩,⟨fn,bl,lb,h2⟩⟩
theorem bL.block{P:Program}{id:Nat}{x:Code}(h:bL P (.block id x)):bL P x:=by
 obtain⟨fn,bl,lb,h⟩:=h;unfold CheckCode.code at h;exact⟨fn,_,_,h⟩
theorem bL.loop{P:Program}{x:Code}(h:bL P (.loop x)):bL P x:=by
 obtain⟨fn,bl,lb,h⟩:=h;unfold CheckCode.code at h;exact⟨fn,_,_,h⟩
theorem bL.scope{P:Program}{x:Code}(h:bL P (.scope x)):bL P x:=by
 obtain⟨fn,bl,lb,h⟩:=h;unfold CheckCode.code at h;exact⟨fn,_,_,h⟩
theorem zG{P:Program}{fn:Func}{bl lb:List Nat}{l:Nat} : ∀ {c rest:Code},CheckCode.code P fn bl lb c=.ok ()->findLabel c l=some rest->CheckCode.code P fn bl lb rest=.ok ():=by
 intro c
 induction c with
 | seq x y Na ihy =>
  intro rest h hf;unfold CheckCode.code at h;obtain⟨_,h1,h2⟩:=bind_ok h;unfold findLabel at hf
  split at hf
  ·rename_i r hr
   cases hf;have:=Na h1 hr;unfold CheckCode.code;rw[this];exact h2
  ·exact ihy h2 hf
 | label l' =>
  intro rest h hf;unfold findLabel at hf
  split at hf
  ·cases hf;rfl
  ·cases hf
 | _=>intro rest h hf;cases hf
theorem bL.label{P:Program}{c rest:Code}{l:Nat}(h:bL P c)(hf:findLabel c l=some rest):bL P rest:=by
 obtain⟨fn,bl,lb,h⟩:=h;exact⟨fn,bl,lb,zG h hf⟩
theorem tn{P:Program}{c:Code}{a:Act}{w:World}{Q:Exit->Act->World->Prop}(h:c.wp P (λe a w=>match e with | .goto l=>∃ rest,findLabel c l=some rest/\rest.wp P (Exit.noGoto Q) a w | e=>Q e a w) a w):(Code.scope c).wp P Q a w:=by
 intro b k cs;obtain⟨e,a₁,w₁,hq,harr⟩:=h b (.inScope c::k) cs;cases e with
 | normal=>exact⟨.normal,a₁,w₁,hq,.head step_scope (Steps.trans harr (.one step_inScope))⟩
 | exit id=>exact⟨.exit id,a₁,w₁,hq,λk' hk=>.head step_scope (harr k' (by simp[exitTo,hk]))⟩
 | goto l =>
  obtain⟨rest,hf,hr⟩:=hq;have hg:gotoIn l (.inScope c::k)=some (.code rest::.inScope c::k):=by simp[gotoIn,hf]
  obtain⟨e₂,a₂,w₂,hq₂,harr₂⟩:=hr b (.inScope c::k) cs;cases e₂ with
  | normal=>exact⟨.normal,a₂,w₂,hq₂,.head step_scope (Steps.trans (harr _ hg) (Steps.trans harr₂ (.one step_inScope)))⟩
  | exit id=>exact⟨.exit id,a₂,w₂,hq₂,λk' hk=>.head step_scope (Steps.trans (harr _ hg) (harr₂ k' (by simp[exitTo,hk])))⟩
  | goto l'=>exact hq₂.elim
  | ret=>exact⟨_,a₂,w₂,hq₂,.of_steps (.head step_scope (harr _ hg)) harr₂⟩
  | panic ch=>exact⟨_,a₂,w₂,hq₂,.of_steps (.head step_scope (harr _ hg)) harr₂⟩
  | outgrown=>exact⟨_,a₂,w₂,hq₂,.of_steps (.head step_scope (harr _ hg)) harr₂⟩
 | ret=>exact⟨_,a₁,w₁,hq,.of_steps (.one step_scope) harr⟩
 | panic ch=>exact⟨_,a₁,w₁,hq,.of_steps (.one step_scope) harr⟩
 | outgrown=>exact⟨_,a₁,w₁,hq,.of_steps (.one step_scope) harr⟩
theorem bL.region{P:Program}{id:Nat}{ops:Array Oper}{draw:Bool}(h:bL P (.region id ops draw)):Region.ok P.types ops draw=true:=by
 obtain⟨fn,bl,lb,h⟩:=h;unfold CheckCode.code at h;unfold CheckCode.region at h;obtain⟨_,_,h⟩:=bind_ok h;obtain⟨_,_,h⟩:=bind_ok h;exact require_ok h
theorem bL.rangeFunc{P:Program}{g:Operand}{ps:Array Tmp}{x y:Code}(h:bL P (.rangeFunc g ps x y)):bL P x/\bL P y:=by
 obtain⟨fn,bl,lb,h⟩:=h;unfold CheckCode.code at h;obtain⟨_,_,h⟩:=bind_ok h;obtain⟨_,_,h⟩:=bind_ok h;obtain⟨_,_,h⟩:=bind_ok h;obtain⟨_,h1,h2⟩:=bind_ok h;exact⟨⟨fn,_,_,h1⟩,⟨fn,_,_,h2⟩⟩
theorem vl{P:Program}(hP:P.check=.ok ()){f:FuncId}{fn:Func}{body:Code}(hf:P.funcs[f]? = some fn)(hb:fn.body=some body):bL P body:=by
 unfold Program.check at hP;obtain⟨_,h,_⟩:=bind_ok hP;have hlt:f<P.funcs.size:=(Array.getElem?_eq_some_iff.1 hf).1;have h1:=forM_ok h f (List.mem_range.2 hlt);unfold CheckCode.funcAt at h1;rw[hf]at h1;dsimp only at h1;have h2:CheckCode.func P fn=.ok ():=by
  cases hx:CheckCode.func P fn with
  | ok u=>rfl
  | error e=>rw[hx]at h1;cases h1
 unfold CheckCode.func at h2;obtain⟨_,_,h2⟩:=bind_ok h2;obtain⟨_,_,h2⟩:=bind_ok h2;obtain⟨_,_,h2⟩:=bind_ok h2;rw[hb]at h2;dsimp only at h2;obtain⟨_,_,h2⟩:=bind_ok h2;obtain⟨_,h3,_⟩:=bind_ok h2;exact⟨fn,[],[],h3⟩
def Cu(P:Program)(base:Nat->Prop)(run:Runner):Prop :=
 ∀ rd c a s ex a1 s1,run rd c a s=some (ex,a1,s1)->bL P c->mL s s.next s1.next->∀ (ι:am) (ro:Option Nat) (A:Act) (w:World),nP ι rd ro->cn ι a A->dA P base ι s.look w->d8 ι s s1->∀ Q:Exit->Act->World->Prop,
  (∀ κ A1 w1,cn κ a1 A1->Goes P base ι κ s s1 w w1->Q ex A1 w1)->c.wpIn (FR ro) 0 P Q A w
theorem dB.next{run:Runner}(hl:dB run){rd:Option Nat}{c:Code}{a a1:Act}{s s1:St}{e:Exit}(h:run rd c a s=some (e,a1,s1)):s.next<=s1.next :=
 (hl rd c a).next (r:=(e,a1)) (by unfold sk;rw[h])
theorem dB.win{run:Runner}(hl:dB run){rd:Option Nat}{c:Code}{a a1:Act}{s s1:St}{e:Exit}(h:run rd c a s=some (e,a1,s1)){m:Nat}(hw:mL s s.next m)(hm:s1.next<=m):mL s1 s1.next m :=
 (hl rd c a).win (r:=(e,a1)) (by unfold sk;rw[h]) hw hm
theorem iZ{α β:Type}{P:Program}{base:Nat->Prop}{R:am->α->β->Prop}{ι:am}{m:Sem α}{m':Sem β}(h:aq P base R ι m m'){s s1:St}{w:World}{x:α}(hr:dA P base ι s.look w)(hx:aw P m s=some (x,s1))(hfr:d8 ι s s1) :
  ∃ κ y w1,m'.run P w=.ok y w1/\R κ x y/\Goes P base ι κ s s1 w w1:=by
 obtain⟨κ,y,w1,h1,h2,h3,h4,h5⟩:=h s w x s1 hr hx hfr;exact⟨κ,y,w1,h1,h4,h2,h3,h5⟩
theorem pT{P:Program}{base:Nat->Prop}{fn:Func}{T:Array Value}{R:Ending->World->Prop} : ∀ (ds ds':List Deferred) (s s1:St) (ι:am) (w:World),mD ι ds ds'->kq P ds s=some ((),s1)->dA P base ι s.look w->d8 ι s s1->
  (∀ κ w1,Goes P base ι κ s s1 w w1->LeavesInM Fence.wide 0 P fn T R [] .returning w1)->LeavesInM Fence.wide 0 P fn T R ds' .returning w:=by
 intro ds
 induction ds with
 | nil =>
  intro ds' s s1 ι w hd h hr hfr hg;cases hd;cases h;exact hg ι w (Goes.refl hr)
 | cons d ds ih =>
  intro ds' s s1 ι w hd h hr hfr hg;cases hd with
  | cons r r' l l' hr' ht =>
   simp only[kq]at h
   split at h
   ·rename_i x s2 hx
    have n1:=de P _ _ _ _ hx;have n2:=(iw P ds).next h
    obtain⟨κ,y,w1,h1,⟨e1,e2⟩,g⟩:=iZ (o7 (P:=P) (base:=base) hr') hr hx (hfr.left n2);subst e2;refine⟨(λh=>by cases h),.inl ⟨r',w1,rfl,h1,?_⟩⟩;exact ih l' s2 s1 κ w1 (ht.mono (g.le (hfr.left n2))) h g.rep (hfr.right g n1) (λμ w2 g2=>hg μ w2 (g.trans g2 n1 n2))
   ·cases h
theorem tI{P:Program}{base:Nat->Prop}(hP:P.check=.ok ())(dh:dH P){run:Runner}(hl:dB run)(hrun:Cu P base run) :
  ∀ f args s v s1,g9 P run f args s=some (v,s1)->mL s s.next s1.next->∀ ι args' w,dA P base ι s.look w->bN ι args args'->d8 ι s s1->
   Calls P f args' w λe w1=>∃ κ v',e=.returned v'/\Goes P base ι κ s s1 w w1/\ao κ v v':=by
 intro f args s v s1 h hwin;unfold g9 at h
 split at h
 ·rename_i r hq
  cases h;intro ι args' w hr ha hfr;refine(dh.H3 f args _ hq ι args' w ha).mono ?_;rintro e w1 ⟨v',rfl,hv,hb⟩;exact⟨ι,v',rfl,Goes.pi hr hb _ (λ_=>rfl),hv⟩
 ·split at h
  ·rename_i q hq
   intro ι args' w hr ha hfr;obtain⟨g,F,ng,g1,g2,g3,g4,g5⟩:=ni h hwin hr hfr;refine(dh.wF f args q hq g _ _ ng g1 ι args' F w ha g2 g3 g4).mono ?_;rintro e w1 ⟨v',rfl,hg⟩;obtain⟨κ,gg,hv⟩:=g5 v' w1 hg;exact⟨κ,v',rfl,gg,hv⟩
  split at h
  case h_2=>cases h
  rename_i fn hf
  split at h
  ·rename_i body hb
   split at h
   ·rename_i ex a s2 hr1
    unfold jB at h
    split at h
    ·rename_i hex
     split at h
     ·rename_i s3 hmk
      have n1:=hl.next hr1
      have n2:=(iw P a.defers).next hmk
      have n3:=de P _ _ _ _ h;have hs:=hrun _ _ _ _ _ _ _ hr1 (vl hP hf hb) (hwin.left (Nat.le_trans n2 n3));intro ι args' w hr ha hfr;refine callsIn_wide.1 (callsIn_of_wp_marks (F:=Fence.wide) (n:=0) hf hb trivial ?_);have hact:cn ι { tmps:=args++Array.replicate (fn.ntmps-args.size) undef,defers:=[] } { tmps:=args'++Array.replicate (fn.ntmps-args'.size) undef,defers:=[] }:=by
       refine⟨?_,.nil⟩;rw[ha.1];refine ha.append (bN.of_flat (λi x hx=>?_));rw[Array.getElem?_replicate]at hx
       split at hx
       ·cases hx;exact eV ι
       ·cases hx
      refine hs ι none _ w trivial hact hr (hfr.left (Nat.le_trans n2 n3)) _ (λκ A1 w1 hA1 g=>?_);have f1:=hfr.right g n1;have fin:LeavesInM Fence.wide 0 P fn A1.tmps (λe w1=>∃ κ v',e=.returned v'/\Goes P base ι κ s s1 w w1/\ao κ v v') A1.defers .returning w1:=by
       refine pT a.defers A1.defers s2 s3 κ w1 hA1.H6 hmk g.rep (f1.left n3) (λμ w2 g2=>?_);have f2:=f1.right g2 n2;obtain⟨ν,v',w3,r1,r4,g3⟩:=iZ (pP (P:=P) (base:=base) fn (hA1.tmps.mono (g2.le (f1.left n3)))) g2.rep h f2;have hw:=mK (P:=P) fn A1.tmps w2 v' w3 r1;subst hw;exact⟨v',r1,ν,v',rfl,g.trans (g2.trans g3 n2 n3) n1 (Nat.le_trans n2 n3),r4⟩
      cases ex with
      | normal=>exact fin
      | ret=>exact fin
      | _=>cases hex
     ·cases h
    ·cases h
   ·cases h
  ·cases h
theorem Cv{P:Program}{base:Nat->Prop}{run:Runner}(hl:dB run)(hrun:Cu P base run) :
  ∀ l tmps assign body s v s1,m8 P run l tmps assign body s=some (v,s1)->bL P assign->bL P body->mL s s.next s1.next->∀ ι l' mH w,dA P base ι s.look w->ι l=some l'->bN ι tmps mH->d8 ι s s1->
   ∀ f',RoundIn Fence.wide 0 P l' f' mH assign body w λe w1=>∃ κ v',e=.returned v'/\Goes P base ι κ s s1 w w1/\ao κ v v':=by
 intro l tmps assign body s v s1 h o1 o2 hwin ι l' mH w hr hl' ht hfr f';unfold m8 at h
 split at h
 case h_2=>cases h
 rename_i e1 a1 s2 h1
 split at h
 case isFalse=>cases h
 rename_i hno
 split at h
 case h_2=>cases h
 rename_i u s3 h2
 split at h
 case h_2=>cases h
 rename_i e2 a2 s4 h3;have m1:=hl.next h1
 have m2:=de P _ _ _ _ h2;have m3:=hl.next h3
 have m4:s4.next<=s1.next:=by
  unfold sT at h
  split at h
  ·exact de P _ _ _ _ h
  ·cases h
 have Rq:e1=.normal:=by cases e1<;>first | rfl | cases hno
 subst Rq;refine roundIn_of_wpIn (F:=Fence.wide) trivial ?_;have w2:=hl.win h1 hwin (by omega);have w3:=(cE P (Instr.beginRound l)).win h2 w2 (by omega);refine hrun _ _ _ _ _ _ _ h1 o1 (hwin.left (by omega)) ι (some l') _ w hl' ⟨ht,.nil⟩ hr (hfr.left (by omega)) _ (λκ A1 w1 hA1 g=>?_);have f1:=hfr.right g m1;have k1:κ l=some l':=(g.le (hfr.left (by omega))) _ _ hl';obtain⟨μ,y,w2',r1,_,g2⟩:=iZ (qK (P:=P) (base:=base) k1) g.rep h2 (f1.left (by omega));have f2:=f1.right g2 m2;have My:=g2.le (f1.left (by omega));refine⟨w2',r1,?_⟩;refine hrun _ _ _ _ _ _ _ h3 o2 (w3.left (by omega)) μ (some l') A1 w2' (My _ _ k1) (hA1.mono My) g2.rep (f2.left (by omega)) _ (λν A2 w3' hA2 g3=>?_);have f3:=f2.right g3 m3;have O':=g3.le (f2.left (by omega));unfold sT at h
 split at h
 ·rename_i j hj
  obtain⟨ξ,v',w4,q1,q2,g4⟩:=iZ (uO (P:=P) (base:=base) (O' _ _ (My _ _ k1)) j) g3.rep h f3;have gg:Goes P base ι ξ s s1 w w4:=g.trans (g2.trans (g3.trans g4 m3 m4) m2 (by omega)) m1 (by omega);cases e2 with
  | normal=>cases hj;exact⟨v',w4,q1,ξ,v',rfl,gg,q2⟩
  | ret=>cases hj;exact⟨v',w4,q1,ξ,v',rfl,gg,q2⟩
  | exit id=>cases hj;exact⟨v',w4,q1,ξ,v',rfl,gg,q2⟩
  | _=>cases hj
 ·cases h
theorem xy{P:Program}{base:Nat->Prop}(hP:P.check=.ok ())(dh:dH P){run:Runner}(hl:dB run)(hrun:Cu P base run):nh P base (lB P run) :=
 ⟨tI hP dh hl hrun,Cv hl hrun⟩
theorem Cw{P:Program}{base:Nat->Prop}(hP:P.check=.ok ())(dh:dH P){run:Runner}(hl:dB run)(hrun:Cu P base run)(Pa:∀ rd c a s,(c=.ret\/∃ id,c=.exit id)->∀ r,run rd c a s=some r->r=(match c with | .ret=>Exit.ret | .exit id=>Exit.exit id | _=>Exit.normal,a,s))
  {rd:Option Nat} {g:Operand} {ps:Array Tmp} {assign body:Code} {a:Act} {s:St} {ex:Exit} {a1:Act} {s1:St} (h:m_ P run rd g ps assign body a s=some (ex,a1,s1)) (o1:bL P assign) (o2:bL P body) (hwin:mL s s.next s1.next)
  (ι:am) (ro:Option Nat) (A:Act) (w:World) (hrd:nP ι rd ro) (hA:cn ι a A) (hr:dA P base ι s.look w) (hfr:d8 ι s s1) (Q:Exit->Act->World->Prop)
  (hQ:∀ κ A1 w1,cn κ a1 A1->Goes P base ι κ s s1 w w1->Q ex A1 w1):(Code.rangeFunc g ps assign body).wpIn (FR ro) 0 P Q A w:=by
 unfold m_ at h
 split at h
 case h_2=>cases h
 rename_i l mark s2 h1
 split at h
 case h_2=>cases h
 rename_i f args h2
 split at h
 case h_2=>cases h
 rename_i v s3 h3
 split at h
 case h_2=>cases h
 rename_i j s4 h4
 split at h
 case isFalse=>cases h
 rename_i hj;have m1:=de P _ _ _ _ h1;have m2:=(kA hl f args).next h3
 have m3:=de P _ _ _ _ h4;have last:s1=s4/\a1 = { a with defers:=mark++a.defers }/\((j=none/\ex=.normal)\/(j=some .ret/\ex=.ret)\/∃ id,j=some (.exit id)/\ex=.exit id):=by
  cases j with
  | none=>cases h;exact⟨rfl,rfl,.inl ⟨rfl,rfl⟩⟩
  | some c =>
   have hc:c=.ret\/∃ id,c=.exit id:=by
    unfold m9 at hj
    split at hj
    ·rename_i e;cases e
    ·rename_i e;cases e;exact .inl rfl
    ·rename_i id e;cases e;exact .inr ⟨id,rfl⟩
    ·cases hj
   have:=Pa rd c _ _ hc _ h;rcases hc with rfl | ⟨id,rfl⟩
   ·cases this;exact⟨rfl,rfl,.inr (.inl ⟨rfl,rfl⟩)⟩
   ·cases this;exact⟨rfl,rfl,.inr (.inr ⟨id,rfl,rfl⟩)⟩
 obtain⟨rfl,rfl,Rr⟩:=last;refine wpIn_rangeFunc (λfn _=>?_);obtain⟨κ,⟨l',mark'⟩,w1,q1,⟨k1,k2⟩,g1⟩:=iZ (sN (P:=P) (base:=base) 0 fn ps assign body hA.tmps hrd o1 o2) hr h1 (hfr.left (by omega));have f1:=hfr.right g1 m1;have Ok:=g1.le (hfr.left (by omega));have Pb:=(cE P _).win h1 hwin (by omega);unfold gj at h2
 split at h2
 case isFalse=>cases h2
 rename_i hgo
 split at h2
 case h_2=>cases h2
 rename_i f0 first captured hg
 split at h2
 case isFalse=>cases h2
 rename_i hfn;cases h2;have hv:=aD hA g hgo;rw[hg]at hv;generalize Rs:A.eval g=Ag at hv;cases hv with
 | func _ _ f' _ c' hy hf hc h5 h6 =>
  have hargs:bN κ ((first ++ #[.func (.yield l) #[] #[]])++captured) ((f' ++ #[.func (.yield l') #[] #[]])++c'):=by
   refine bN.append (bN.append (bN.mono Ok ⟨hf,h5⟩) ⟨rfl,?_⟩) (bN.mono Ok ⟨hc,h6⟩);intro i x y hx hy
   match i with
   | 0 =>
    simp only[List.size_toArray,List.length_cons,List.length_nil,Nat.zero_add,Nat.lt_add_one,Array.getElem?_eq_getElem,List.getElem_toArray,List.getElem_cons_zero,Option.some.injEq]at hx hy;subst hx hy;exact .yield _ _ k1
   | i+1=>simp at hx
  refine⟨l',mark',w1,{ target:=.fn (.func f) c',args:=f' ++ #[.func (.yield l') #[] #[]] },w1,f,(f' ++ #[.func (.yield l') #[] #[]])++c',w1,?_,?_,λf _=>A6 ro f,?_,vh ro,?_⟩
  ·rw[Eb];exact q1
  ·have hres:resolve A.eval (rangeCall g l') 0=Deferred.ofValue (A.eval g) #[.func (.yield l') #[] #[]]:=by
    unfold resolve;simp[rangeCall,Act.eval]
   rw[hres,Rs];rfl
  ·exact ko hfn _ w1
  ·refine A7 ro ((tI hP dh hl hrun _ _ _ _ _ h3 (Pb.left m3) κ _ w1 g1.rep hargs (f1.left m3)).mono ?_)
   rintro e w2 ⟨μ,v',rfl,g2,_⟩;have My:=g2.le (f1.left m3);have f2:=f1.right g2 m2;obtain⟨ν,j',w3,q3,ej,g3⟩:=iZ (wW (P:=P) (base:=base) (My _ _ k1)) g2.rep h4 f2;subst ej;have O':=g3.le f2;have gg:Goes P base ι ν s s1 w w3:=g1.trans (g2.trans g3 m2 m3) m1 (by omega);have hA2:cn ν { a with defers:=mark++a.defers } { A with defers:=mark'++A.defers }:=by
    have J8:=gg.le hfr;exact⟨hA.tmps.mono J8,mD.append ((k2.mono My).mono O') (hA.H6.mono J8)⟩
   refine⟨j',w3,q3,?_⟩;rcases Rr with ⟨rfl,rfl⟩ | ⟨rfl,rfl⟩ | ⟨id,rfl,rfl⟩
   ·exact hQ _ _ _ hA2 gg
   ·exact wpIn_ret (hQ _ _ _ hA2 gg)
   ·exact wpIn_exit (hQ _ _ _ hA2 gg)
theorem Eh{P:Program}{base:Nat->Prop}(hP:P.check=.ok ())(dh:dH P)(hm:P.follows .mixedOrders=true):∀ n,Cu P base (ev P n)/\∀ rd body a s ex a1 s1,ev P n rd (.loop body) a s=some (ex,a1,s1)->bL P body->mL s s.next s1.next->∀ (ι:am) (ro:Option Nat) (A:Act) (w:World),nP ι rd ro->cn ι a A->dA P base ι s.look w->d8 ι s s1->∀ Q:Exit->Act->World->Prop,
  (∀ κ A1 w1,cn κ a1 A1->Goes P base ι κ s s1 w w1->Q ex A1 w1)->Code.roundsIn (FR ro) 0 P body Q n A w:=by
 intro n
 induction n with
 | zero=>exact⟨(λrd c a s ex a1 s1 h=>by cases h),(λrd body a s ex a1 s1 h=>by cases h)⟩
 | succ n ih =>
  obtain⟨ih1,ih2⟩:=ih;have hl:=nY P n;have hloop:∀ rd body a s ex a1 s1,ev P (n+1) rd (.loop body) a s=some (ex,a1,s1)->bL P body->mL s s.next s1.next->∀ (ι:am) (ro:Option Nat) (A:Act) (w:World),nP ι rd ro->cn ι a A->dA P base ι s.look w->d8 ι s s1->∀ Q:Exit->Act->World->Prop,
    (∀ κ A1 w1,cn κ a1 A1->Goes P base ι κ s s1 w w1->Q ex A1 w1)->Code.roundsIn (FR ro) 0 P body Q (n+1) A w:=by
   intro rd body a s ex a1 s1 h hco hwin;simp only[ev]at h
   split at h
   ·rename_i a2 s2 hb
    have n1:=hl.next hb
    have n2:=hl.next h
    intro ι ro A w hrd hA hr hfr Q hQ;rw[roundsIn_succ];refine ih1 _ _ _ _ _ _ _ hb hco (hwin.left n2) ι ro A w hrd hA hr (hfr.left n2) _ (λκ A1 w1 hA1 g=>?_);exact ih2 _ _ _ _ _ _ _ h hco (hl.win hb hwin n2) κ ro A1 w1 (hrd.mono (g.le (hfr.left n2))) hA1 g.rep (hfr.right g n1) Q (λμ A2 w2 hA2 g2=>hQ μ A2 w2 hA2 (g.trans g2 n1 n2))
   ·rename_i hb
    intro ι ro A w hrd hA hr hfr Q hQ;rw[roundsIn_succ];refine ih1 _ _ _ _ _ _ _ h hco hwin ι ro A w hrd hA hr hfr _ (λκ A1 w1 hA1 g=>?_);have:=hQ κ A1 w1 hA1 g;cases ex with
    | normal=>exact(hb _ _ h).elim
    | _=>exact this
  refine⟨?_,λrd body a s ex a1 s1 h hco hwin ι ro A w hrd hA hr hfr Q hQ=>hloop rd body a s ex a1 s1 h hco hwin ι ro A w hrd hA hr hfr Q hQ⟩;intro rd c a s ex a1 s1 h hco hwin;cases c with
  | skip =>
   simp only[ev]at h;cases h;exact λι ro A w hrd hA hr hfr Q hQ=>wpIn_skip (hQ ι A w hA (Goes.refl hr))
  | label l =>
   simp only[ev]at h;cases h;exact λι ro A w hrd hA hr hfr Q hQ=>wpIn_label (hQ ι A w hA (Goes.refl hr))
  | ret =>
   simp only[ev]at h;cases h;exact λι ro A w hrd hA hr hfr Q hQ=>wpIn_ret (hQ ι A w hA (Goes.refl hr))
  | exit id =>
   simp only[ev]at h;cases h;exact λι ro A w hrd hA hr hfr Q hQ=>wpIn_exit (hQ ι A w hA (Goes.refl hr))
  | goto l =>
   simp only[ev]at h;cases h;exact λι ro A w hrd hA hr hfr Q hQ=>wpIn_goto (hQ ι A w hA (Goes.refl hr))
  | seq x y =>
   obtain⟨Nb,Ov⟩:=hco.seq;simp only[ev]at h
   split at h
   ·rename_i a2 s2 hb
    have n1:=hl.next hb
    have n2:=hl.next h
    refine λι ro A w hrd hA hr hfr Q hQ=>wpIn_seq ?_
    refine ih1 _ _ _ _ _ _ _ hb Nb (hwin.left n2) ι ro A w hrd hA hr (hfr.left n2) _ (λκ A1 w1 hA1 g=>?_);exact ih1 _ _ _ _ _ _ _ h Ov (hl.win hb hwin n2) κ ro A1 w1 (hrd.mono (g.le (hfr.left n2))) hA1 g.rep (hfr.right g n1) Q (λμ A2 w2 hA2 g2=>hQ μ A2 w2 hA2 (g.trans g2 n1 n2))
   ·rename_i hb
    refine λι ro A w hrd hA hr hfr Q hQ=>wpIn_seq ?_
    refine ih1 _ _ _ _ _ _ _ h Nb hwin ι ro A w hrd hA hr hfr _ (λκ A1 w1 hA1 g=>?_);have:=hQ κ A1 w1 hA1 g;cases ex with
    | normal=>exact(hb _ _ h).elim
    | _=>exact this
  | cond c x y =>
   obtain⟨Nb,Ov⟩:=hco.cond;simp only[ev]at h
   split at h
   ·rename_i b hok hb
    have co:bL P (if b=true then x else y):=by cases b<;>assumption
    refine λι ro A w hrd hA hr hfr Q hQ=>?_
    have hv:=aD hA c hok;rw[hb]at hv;generalize OV:A.eval c=Ac at hv;cases hv;exact wpIn_cond OV (ih1 _ _ _ _ _ _ _ h co hwin ι ro A w hrd hA hr hfr Q hQ)
   ·cases h
  | block id body =>
   have co:=hco.block;simp only[ev]at h
   split at h
   ·rename_i i a2 s2 hb
    split at h
    ·rename_i he
     cases h;refine λι ro A w hrd hA hr hfr Q hQ=>wpIn_block (ih1 _ _ _ _ _ _ _ hb co hwin ι ro A w hrd hA hr hfr _ (λκ A1 w1 hA1 g=>?_))
     show(if i=id then Q .normal A1 w1 else Q (.exit i) A1 w1);rw[if_pos he];exact hQ κ A1 w1 hA1 g
    ·rename_i he
     cases h;refine λι ro A w hrd hA hr hfr Q hQ=>wpIn_block (ih1 _ _ _ _ _ _ _ hb co hwin ι ro A w hrd hA hr hfr _ (λκ A1 w1 hA1 g=>?_))
     show(if i=id then Q .normal A1 w1 else Q (.exit i) A1 w1);rw[if_neg he];exact hQ κ A1 w1 hA1 g
   ·rename_i hb
    refine λι ro A w hrd hA hr hfr Q hQ=>wpIn_block (ih1 _ _ _ _ _ _ _ h co hwin ι ro A w hrd hA hr hfr _ (λκ A1 w1 hA1 g=>?_))
    have:=hQ κ A1 w1 hA1 g;cases ex with
    | exit i=>exact(hb _ _ _ h).elim
    | _=>exact this
  | loop body =>
   exact λι ro A w hrd hA hr hfr Q hQ=>wpIn_loop_rounds (n+1) (hloop rd body a s ex a1 s1 h hco.loop hwin ι ro A w hrd hA hr hfr Q hQ)
  | scope body =>
   have co:=hco.scope;cases rd with
   | some l=>simp[ev]at h
   | none =>
    simp only[ev]at h;unfold uQ at h
    split at h
    ·rename_i l a2 s2 hb
     split at h
     case h_2=>cases h
     rename_i rest hf;have n1:=hl.next hb
     have main:∀ r,ev P n none rest a2 s2=some r->(∀ l,r.1≠.goto l)->r=(ex,a1,s1)->s2.next<=s1.next/\∀ (ι:am) (ro:Option Nat) (A:Act) (w:World),nP ι none ro->cn ι a A->dA P base ι s.look w->d8 ι s s1->∀ Q:Exit->Act->World->Prop,
       (∀ κ A1 w1,cn κ a1 A1->Goes P base ι κ s s1 w w1->Q ex A1 w1)->(Code.scope body).wpIn (FR ro) 0 P Q A w:=by
      rintro r hr2 MK rfl;have n2:=hl.next hr2
      refine⟨n2,λι ro A w hrd hA hr hfr Q hQ=>?_⟩;cases ro with
      | some l=>exact hrd.elim
      | none =>
       refine wpIn_wide.2 (tn (wpIn_wide.1 (ih1 _ _ _ _ _ _ _ hb co (hwin.left n2) ι none A w trivial hA hr (hfr.left n2) _ (λκ A1 w1 hA1 g=>?_))));refine⟨rest,hf,wpIn_wide.1 (ih1 _ _ _ _ _ _ _ hr2 (co.label hf) (hl.win hb hwin n2) κ none A1 w1 trivial hA1 g.rep (hfr.right g n1) _ (λμ A2 w2 hA2 g2=>?_))⟩;have:=hQ μ A2 w2 hA2 (g.trans g2 n1 n2);cases ex with
       | goto l=>exact(MK _ rfl).elim
       | _=>exact this
     split at h
     ·cases h
     ·rename_i MK
      exact(main _ h (λl e=>by
       simp only at e;subst e
       exact MK _ _ _ h) rfl).2
    ·rename_i hb
     refine λι ro A w hrd hA hr hfr Q hQ=>?_
     cases ro with
     | some l=>exact hrd.elim
     | none =>
      refine wpIn_wide.2 (wp_scope_straight (wpIn_wide.1 (ih1 _ _ _ _ _ _ _ h co hwin ι none A w trivial hA hr hfr _ (λκ A1 w1 hA1 g=>?_))));have:=hQ κ A1 w1 hA1 g;cases ex with
      | goto l=>exact(hb _ _ _ h).elim
      | _=>exact this
  | rangeFunc g ps assign body =>
   obtain⟨Nb,Ov⟩:=hco.rangeFunc;simp only[ev]at h;refine λι ro A w hrd hA hr hfr Q hQ=>Cw hP dh hl ih1 (λrd c a s hc r hr=>?_) h Nb Ov hwin ι ro A w hrd hA hr hfr Q hQ
   cases n with
   | zero=>cases hr
   | succ n =>
    rcases hc with rfl | ⟨id,rfl⟩
    ·cases hr;rfl
    ·cases hr;rfl
  | region id ops draw =>
   have hok:=hco.region;simp only[ev]at h
   split at h
   ·rename_i a2 s2 hb
    cases h;exact λι ro A w hrd hA hr hfr Q hQ=>vj dh hm (pR hl) (xy hP dh hl ih1) ro hok hb hwin id hA hr hfr hQ
   ·cases h
  | _=>simp[ev]at h
theorem A8{P:Program}{base:Nat->Prop}(hP:P.check=.ok ())(dh:dH P)(hm:P.follows .mixedOrders=true)(n:Nat):nh P base (lB P (ev P n)):=xy hP dh (nY P n) (Eh hP dh hm n).1
theorem l8(id:Nat):s0.look id=none:=Tr.lr _ _
theorem Cx(P:Program)(w:World):dA P (· < w.heap.size) (λ_=>none) s0.look w :=
 ⟨(λid id' o o' b h=>by rw[l8]at h;cases h),(λid o h=>by rw[l8]at h;cases h),λk hk=>hk,(λid o g h=>by rw[l8]at h;cases h)⟩
theorem closed{P:Program}(hP:P.check=.ok ())(dh:dH P)(hm:P.follows .mixedOrders=true){n:Nat}{f:FuncId}{args args':Array Value}{v:Value}{s1:St}(h:lB P (ev P n) (.fn f args) s0=some (v,s1))(ha:bN (λ_=>none) args args')(w:World) :
  Calls P f args' w λe w1=>∃ κ v',e=.returned v'/\Goes P (· < w.heap.size) (λ_=>none) κ s0 s1 w w1/\ao κ v v' :=
 (A8 hP dh hm n).1 f args s0 v s1 h (λid _ _=>l8 id) _ args' w (Cx P w) ha (λid _ _=>rfl)
theorem xA{P:Program}(hP:P.check=.ok ())(dh:dH P)(hm:P.follows .mixedOrders=true){n:Nat}{f:FuncId}{args args':Array Value}(h:isTrue (lB P (ev P n) (.fn f args) s0)=true)(ha:bN (λ_=>none) args args')(w:World) :
  Calls P f args' w λe w1=>e=.returned (.bool true)/\Below w.heap.size w w1:=by
 unfold isTrue at h
 split at h
 ·rename_i b s1 hc
  subst h;refine(closed hP dh hm hc ha w).mono ?_;rintro e w1 ⟨κ,v',rfl,g,hv⟩;cases hv;exact⟨rfl,g.below.below⟩
 ·cases h
@[reducible] def dk:bg where
 val:=λ_=>.int .i64 0
 leaf:=λ_=>rfl
 bin:=λ_ _ _=>none
 zf:=λ_ _ _ _ h=>by cases h
 Oi:=λ_ _=>none
 zg:=λ_ _ _ h=>by cases h
 Oj:=λ_ _=>none
 zh:=λ_ _ _ h=>by cases h
 H3:=λ_ _=>none
 AY:=λ_ _ _ h=>by cases h
 GR:=λ_ _ _ _=>False
 uB:=λ_ _ _ _ _ _ h=>h
 uC:=λ_ _ _ _ _ _ h=>h
 HZ:=λ_ _=>none
 wF:=λ_ _=>none
theorem Nc(P:Program):@dH dk P:=@dH.mk dk P (λ_ _ _ h=>by cases h) (λ_ _ _ h=>by cases h) (λ_ _ _ h=>by cases h)
end Go.Ev
namespace Go.Ev
open Go.RowKit
variable[bg]
inductive TV where
 | leaf
 | node (v:Value) (l r:TV)
noncomputable def TV.get(t:TV):Nat->Value :=
 @TV.rec (λ_=>Nat->Value) (λ_=>undef)
  (λv _ _ gl gr n=>@Bool.rec (λ_=>Value) (@Bool.rec (λ_=>Value) (gr (Nat.sub (Nat.div n 2) 1)) (gl (Nat.div n 2)) (Nat.beq (Nat.mod n 2) 1)) v (Nat.beq n 0)) t
noncomputable def TV.lI{β:Type}(d:Nat):TV->Nat->Value->(TV->β)->β :=
 @Nat.rec (λ_=>TV->Nat->Value->(TV->β)->β) (λt _ _ k=>k t)
  (λ_ ih t n x k=>@TV.rec (λ_=>β)
   (@Bool.rec (λ_=>β)
    (@Bool.rec (λ_=>β) (ih .leaf (Nat.sub (Nat.div n 2) 1) x (λr=>k (.node undef .leaf r))) (ih .leaf (Nat.div n 2) x (λl=>k (.node undef l .leaf))) (Nat.beq (Nat.mod n 2) 1))
    (k (.node x .leaf .leaf)) (Nat.beq n 0))
   (λv l r _ _=>@Bool.rec (λ_=>β)
    (@Bool.rec (λ_=>β) (ih r (Nat.sub (Nat.div n 2) 1) x (λr'=>k (.node v l r'))) (ih l (Nat.div n 2) x (λl'=>k (.node v l' r))) (Nat.beq (Nat.mod n 2) 1))
    (k (.node x l r)) (Nat.beq n 0)) t) d
noncomputable def qe{β:Type}(n:Nat)(k:Nat->β):β:=@Nat.rec (λ_=>β) (k 0) (λm _=>k (Nat.succ m)) n
noncomputable def xB{β:Type}(i:Int)(k:Int->β):β:=@Int.rec (λ_=>β) (λn=>qe n (λn=>k (.ofNat n))) (λn=>qe n (λn=>k (.negSucc n))) i
noncomputable def Ih{β:Type}(a:Option Addr)(k:Option Addr->β):β :=
 match a with
 | none=>k none
 | some ⟨b,off,sp⟩=>qe b (λb=>qe off (λoff=>k (some ⟨b,off,sp⟩)))
noncomputable def Ei{β:Type}(v:Value)(k:Value->β):β :=
 match v with
 | .pointer a=>Ih a (λa=>k (.pointer a))
 | .slice a n c=>Ih a (λa=>qe n (λn=>qe c (λc=>k (.slice a n c))))
 | v=>k v
noncomputable def Tr.gt(d:Nat):Tr->Nat->Option Obj :=
 @Nat.rec (λ_=>Tr->Nat->Option Obj) (λ_ _=>none)
  (λ_ ih t n=>@Tr.rec (λ_=>Option Obj) none (λv l r _ _=>@Bool.rec (λ_=>Option Obj) (@Bool.rec (λ_=>Option Obj) (ih r (Nat.div n 2)) (ih l (Nat.div n 2)) (Nat.beq (Nat.mod n 2) 0)) v (Nat.beq n 0)) t) d
noncomputable def Tr.La{β:Type}(d:Nat):Tr->Nat->Option Obj->(Tr->β)->β :=
 @Nat.rec (λ_=>Tr->Nat->Option Obj->(Tr->β)->β) (λt _ _ k=>k t)
  (λ_ ih t n x k=>@Tr.rec (λ_=>β)
   (@Bool.rec (λ_=>β)
    (@Bool.rec (λ_=>β) (ih .leaf (Nat.div n 2) x (λr=>k (.node none .leaf r))) (ih .leaf (Nat.div n 2) x (λl=>k (.node none l .leaf))) (Nat.beq (Nat.mod n 2) 0))
    (k (.node x .leaf .leaf)) (Nat.beq n 0))
   (λv l r _ _=>@Bool.rec (λ_=>β)
    (@Bool.rec (λ_=>β) (ih r (Nat.div n 2) x (λr'=>k (.node v l r'))) (ih l (Nat.div n 2) x (λl'=>k (.node v l' r))) (Nat.beq (Nat.mod n 2) 0))
    (k (.node x l r)) (Nat.beq n 0)) t) d
noncomputable def Lb(l:List Value):Nat->Option Value :=
 @List.rec Value (λ_=>Nat->Option Value) (λ_=>none) (λv _ ih n=>@Nat.rec (λ_=>Option Value) (some v) (λm _=>ih m) n) l
noncomputable def Ej{β:Type}(l:List Value)(x:Value):Nat->(List Value->β)->β :=
 @List.rec Value (λ_=>Nat->(List Value->β)->β) (λ_ k=>k []) (λv l ih n k=>@Nat.rec (λ_=>β) (k (x::l)) (λm _=>ih m (λl'=>k (v::l'))) n) l
noncomputable def Ii:IntKind->Nat
 | .i8=>0 | .i16=>1 | .i32=>2 | .i64=>3 | .u8=>4 | .u16=>5 | .u32=>6 | .u64=>7
noncomputable def pU(k:IntKind)(n:Int):Int :=
 match k,n with
 | .i64,.ofNat m=>@Bool.rec (λ_=>Int) (IntKind.i64.wrap (.ofNat m)) (.ofNat m) (Nat.ble m 9223372036854775807)
 | .i64,.negSucc m=>@Bool.rec (λ_=>Int) (IntKind.i64.wrap (.negSucc m)) (.negSucc m) (Nat.ble m 9223372036854775807)
 | .u64,.ofNat m=>.ofNat (Nat.mod m 18446744073709551616)
 | .u32,.ofNat m=>.ofNat (Nat.mod m 4294967296)
 | .u8,.ofNat m=>.ofNat (Nat.mod m 256)
 | k,n=>k.wrap n
noncomputable def Cy:Int->Int->Bool
 | .ofNat a,.ofNat b=>Nat.ble a b
 | .ofNat _,.negSucc _=>false
 | .negSucc _,.ofNat _=>true
 | .negSucc a,.negSucc b=>Nat.ble b a
noncomputable def Ek:Int->Int->Bool
 | .ofNat a,.ofNat b=>Nat.beq a b
 | .ofNat _,.negSucc _=>false
 | .negSucc _,.ofNat _=>false
 | .negSucc a,.negSucc b=>Nat.beq a b
noncomputable def fint(op:BinOp)(k:IntKind)(a b:Int):Option Value :=
 match op with
 | .add=>xB (pU k (Int.add a b)) (λn=>some (.int k n))
 | .sub=>xB (pU k (Int.sub a b)) (λn=>some (.int k n))
 | .mul=>xB (pU k (Int.mul a b)) (λn=>some (.int k n))
 | .eql=>@Bool.rec (λ_=>Option Value) (some (.bool false)) (some (.bool true)) (Ek a b)
 | .neq=>@Bool.rec (λ_=>Option Value) (some (.bool true)) (some (.bool false)) (Ek a b)
 | .lss=>@Bool.rec (λ_=>Option Value) (some (.bool true)) (some (.bool false)) (Cy b a)
 | .leq=>@Bool.rec (λ_=>Option Value) (some (.bool false)) (some (.bool true)) (Cy a b)
 | .gtr=>@Bool.rec (λ_=>Option Value) (some (.bool true)) (some (.bool false)) (Cy a b)
 | .geq=>@Bool.rec (λ_=>Option Value) (some (.bool false)) (some (.bool true)) (Cy b a)
 | _=>none
noncomputable def Ij(op:BinOp)(x y:Value):Option Value :=
 match x,y with
 | .int k a,.int k' b=>@Bool.rec (λ_=>Option Value) none (fint op k a b) (Nat.beq (Ii k) (Ii k'))
 | _,_=>none
noncomputable def du(t:TV)(x:Operand):Value :=
 @Operand.rec (λ_=>Value) (λi=>t.get i) (λv=>v) (λg=>.pointer (some ⟨g,0,none⟩)) (λf=>.func (.func f) #[] #[]) x
inductive gK(α:Type) where
 | leaf
 | node (v:Option α) (l r:gK α)
noncomputable def gK.get{α:Type}(t:gK α):Nat->Option α :=
 @gK.rec α (λ_=>Nat->Option α) (λ_=>none)
  (λv _ _ gl gr n=>@Bool.rec (λ_=>Option α) (@Bool.rec (λ_=>Option α) (gr (Nat.sub (Nat.div n 2) 1)) (gl (Nat.div n 2)) (Nat.beq (Nat.mod n 2) 1)) v (Nat.beq n 0)) t
noncomputable def gK.lI{α β:Type}(d:Nat):gK α->Nat->α->(gK α->β)->β :=
 @Nat.rec (λ_=>gK α->Nat->α->(gK α->β)->β) (λt _ _ k=>k t)
  (λ_ ih t n x k=>@gK.rec α (λ_=>β)
   (@Bool.rec (λ_=>β)
    (@Bool.rec (λ_=>β) (ih .leaf (Nat.sub (Nat.div n 2) 1) x (λr=>k (.node none .leaf r))) (ih .leaf (Nat.div n 2) x (λl=>k (.node none l .leaf))) (Nat.beq (Nat.mod n 2) 1))
    (k (.node (some x) .leaf .leaf)) (Nat.beq n 0))
   (λv l r _ _=>@Bool.rec (λ_=>β)
    (@Bool.rec (λ_=>β) (ih r (Nat.sub (Nat.div n 2) 1) x (λr'=>k (.node v l r'))) (ih l (Nat.div n 2) x (λl'=>k (.node v l' r))) (Nat.beq (Nat.mod n 2) 1))
    (k (.node (some x) l r)) (Nat.beq n 0)) t) d
noncomputable def gK.J9{α β:Type}(l:List α):Nat->gK α->(gK α->β)->β :=
 @List.rec α (λ_=>Nat->gK α->(gK α->β)->β) (λ_ t k=>k t) (λv _ ih i t k=>gK.lI 16 t i v (λt1=>ih (Nat.succ i) t1 k)) l
structure Base where
 P:Program
 T:gK TypeInfo
 F:gK Func
noncomputable def xC(B:Base)(t:TypeId):Option TypeDesc :=
 match B.T.get t with
 | some i =>
  match i.desc with
  | .named _ u=>(match B.T.get u with | some j=>some j.desc | none=>none)
  | d=>some d
 | none=>none
noncomputable def vm(B:Base)(t:TypeId):Bool :=
 match xC B t with
 | some (.struct _)=>false
 | some (.array _ _)=>false
 | some _=>true
 | none=>false
noncomputable def Nd(B:Base)(t:TypeId)(f:Nat):Option Nat :=
 match xC B t with
 | some (.struct fields) =>
  match fields[f]? with
  | some fd=>(match B.T.get fd.type with | some i=>@Bool.rec (λ_=>Option Nat) (some fd.offset) none (Nat.beq i.size 0) | none=>none)
  | none=>none
 | _=>none
noncomputable def Nf(B:Base)(t:TypeId):Bool :=
 match B.T.get t with
 | some i=>Nat.beq i.size 1
 | none=>false
noncomputable def Ik(B:Base)(t:TypeId):Bool :=
 match xC B t with
 | some (.pointer _)=>true
 | _=>false
noncomputable def J_(B:Base)(t:TypeId):Option (Array Value) :=
 match B.T.get t with
 | some i=>(match i.zero with | some z=>@Bool.rec (λ_=>Option (Array Value)) none (some z.cells) (bW 6 z) | none=>none)
 | none=>none
noncomputable def J'(B:Base)(t:TypeId):Option Nat :=
 match xC B t with
 | some (.slice e)=>(match B.T.get e with | some i=>some i.size | none=>none)
 | _=>none
noncomputable def Il(B:Base)(t:TypeId):Option IntKind :=
 match xC B t with
 | some (.int k)=>some k
 | _=>none
noncomputable def Io(B:Base)(t:TypeId):Nat :=
 match xC B t with
 | some (.slice _)=>1
 | some .string=>2
 | _=>0
noncomputable def Ow(B:Base)(f:FuncId):Bool :=
 match B.F.get f with
 | some fn=>fn.name != "runtime.NumGoroutine" && fn.body.isSome
 | none=>false
noncomputable def Ip(c:Array Value)(e:TypeId)(s:St):Option (Next×St) :=
 match s with
 | ⟨h,nx,lg⟩=>@Bool.rec (λ_=>Option (Next×St)) none (Tr.La deep h (Nat.mul 4 nx) (some (.cells c e (0,0))) (λh'=>some (.value (.pointer (some ⟨Nat.mul 4 nx,0,none⟩)),⟨h',Nat.succ nx,⟨Nat.mul 4 nx,none,true⟩::lg⟩))) (Nat.blt (Nat.mul 4 nx) lim)
noncomputable def zH(B:Base)(t:TypeId)(s:St):Option (Next×St) :=
 match J_ B t with
 | some c=>Ip c t s
 | none=>none
noncomputable def Ng(t:TypeId)(v:Value)(s:St):Option (Next×St):=Ip v.cells t s
noncomputable def Lc(B:Base)(t:TypeId)(x:Value)(s:St):Option (Next×St) :=
 match x with
 | .slice _ n _=>@Bool.rec (λ_=>Option (Next×St)) none (some (.value (.int .i64 (.ofNat n)),s)) (Nat.beq (Io B t) 1)
 | .string b=>@Bool.rec (λ_=>Option (Next×St)) none (some (.value (.int .i64 (.ofNat b.size)),s)) (Nat.beq (Io B t) 2)
 | _=>none
noncomputable def zI(B:Base)(t:TypeId)(x i:Value)(s:St):Option (Next×St) :=
 match x,i with
 | .slice (some ⟨b,off,none⟩) n _,.int _ (.ofNat i)=>(match J' B t with | some z=>@Bool.rec (λ_=>Option (Next×St)) none (some (.value (.pointer (some ⟨b,Nat.add off (Nat.mul i z),none⟩)),s)) (Nat.blt i n) | none=>none)
 | _,_=>none
noncomputable def El(B:Base)(t u:TypeId)(x:Value)(s:St):Option (Next×St) :=
 match x with
 | .int _ n=>(match Il B t,Il B u with | some _,some k=>xB (pU k n) (λn=>some (.value (.int k n),s)) | _,_=>none)
 | _=>none
noncomputable def Em(B:Base)(op:BinOp)(t:TypeId)(x y:Value)(s:St):Option (Next×St) :=
 match x,y with
 | .pointer (some _),.pointer none=>@Bool.rec (λ_=>Option (Next×St)) none (match op with | .eql=>some (.value (.bool false),s) | .neq=>some (.value (.bool true),s) | _=>none) (Ik B t)
 | .pointer none,.pointer none=>@Bool.rec (λ_=>Option (Next×St)) none (match op with | .eql=>some (.value (.bool true),s) | .neq=>some (.value (.bool false),s) | _=>none) (Ik B t)
 | _,_=>none
noncomputable def En(B:Base)(ty:TypeId)(x:Value)(s:St):Option (Next×St) :=
 match x,s with
 | .pointer (some ⟨b,off,none⟩),⟨h,nx,lg⟩ =>
  @Bool.rec (λ_=>Option (Next×St)) none
   (match Tr.gt deep h b with
    | some (.cells c _ _)=>(match Lb c.toList off with | some v=>some (.value v,⟨h,nx,⟨b,some off,false⟩::lg⟩) | none=>none)
    | _=>none) (vm B ty)
 | _,_=>none
noncomputable def zJ(B:Base)(ty:TypeId)(x v:Value)(s:St):Option (Next×St) :=
 match x,s with
 | .pointer (some ⟨b,off,none⟩),⟨h,nx,lg⟩ =>
  @Bool.rec (λ_=>Option (Next×St)) none
   (match Tr.gt deep h b with
    | some (.cells c e (0,0))=>@Bool.rec (λ_=>Option (Next×St)) none (Ej c.toList v off (λl=>Tr.La deep h b (some (.cells ⟨l⟩ e (0,0))) (λh'=>some (.skip,⟨h',nx,⟨b,some off,true⟩::lg⟩)))) (Nat.blt off c.toList.length&&Nat.blt b lim)
    | _=>none) (oneCell v&&Nf B ty)
 | _,_=>none
noncomputable def zK(B:Base)(ty:TypeId)(x:Value)(f:Nat)(s:St):Option (Next×St) :=
 match x with
 | .pointer (some ⟨b,off,none⟩)=>(match Nd B ty f with | some d=>some (.value (.pointer (some ⟨b,Nat.add off d,none⟩)),s) | none=>none)
 | _=>none
noncomputable def Pc(x:Value)(s:St):Option (Next×St) :=
 match x with
 | .pointer (some _)=>some (.value x,s)
 | .func (.func _) _ _=>some (.value x,s)
 | .iface _ _=>some (.value x,s)
 | _=>none
noncomputable def Ka(c x y:Value)(s:St):Option (Next×St) :=
 match c with
 | .bool b=>some (.value (@Bool.rec (λ_=>Value) y x b),s)
 | _=>none
noncomputable def qX(x:Value)(i:Nat)(s:St):Option (Next×St) :=
 match x with
 | .tuple vs=>(match Lb vs.toList i with | some v=>some (.value v,s) | none=>none)
 | _=>none
noncomputable def Ld(op:UnOp)(x:Value)(s:St):Option (Next×St) :=
 match op,x with
 | .not,.bool b=>@Bool.rec (λ_=>Option (Next×St)) (some (.value (.bool true),s)) (some (.value (.bool false),s)) b
 | _,_=>none
noncomputable def tJ(t:TV)(xs:List Operand):List Value:=@List.rec Operand (λ_=>List Value) [] (λx _ ih=>du t x::ih) xs
noncomputable def fv(P:Program)(ρ:Operand->Value)(o:Oper)(s:St):Option (Next×St) :=
 if kp o.op&&o.op.operands.toList.all (λx=>bH x&&bW 5 (ρ x)) then
  match iT P (execOp ρ o) with
  | some (.value v)=>if bW 5 v then some (.value v,s) else none
  | _=>none
 else none
noncomputable def A_(P:Program)(ρ:Operand->Value)(c:Call)(ty:TypeId)(s:St):Option (Next×St) :=
 if bM c.operands.toList then
  match c.callee with
  | .value f =>
   match ρ f with
   | .func (.func g) first captured=>if uM P g then some (.enter g ((first++c.args.map ρ)++captured),s) else none
   | .func (.yield l) first captured=>if first.isEmpty&&captured.isEmpty then aw P (Instr.yield l (c.args.map ρ)) s else none
   | _=>none
  | .invoke r name =>
   match ρ r with
   | .iface t v=>(match nQ P t v name with | some f=>if uM P f then some (.enter f (#[v]++c.args.map ρ),s) else none | none=>none)
   | _=>none
  | .builtin b =>
   match b,c.args.toList,c.argTypes.toList with
   | .len,[x],[t]=>sv (aw P (Builtin.len_ #[t] ty #[ρ x]) s)
   | .cap,[x],[t]=>if A4 (ρ x) then sv (aw P (Builtin.cap_ #[t] ty #[ρ x]) s) else none
   | .append,[x,y],[t,u]=>if uK P u (ρ x) (ρ y) then sv (aw P (Builtin.append_ #[t,u] ty #[ρ x,ρ y]) s) else sv (cS P s t u (ρ x) (ρ y))
   | .copy,[x,y],[t,u]=>sv (aw P (Builtin.copy_ #[t,u] ty #[ρ x,ρ y]) s)
   | .delete,[x,y],[t,u]=>(eW P s t (ρ x) (ρ y)).map λs1=>(.value (.tuple #[]),s1)
   | _,_,_=>none
 else none
noncomputable def fA(P:Program)(ρ:Operand->Value)(o:Oper)(s:St):Option (Next×St) :=
 match o.op with
 | .move x | .assign x=>if bH x then some (.value (ρ x),s) else none
 | .pick c x y =>
  if bM [c,x,y] then
   match ρ c with
   | .bool b=>some (.value (if b then ρ x else ρ y),s)
   | _=>none
  else none
 | .alloc t=>if sx P t then sv (aw P (Instr.alloc t true (.tuple #[])) s) else none
 | .box t x=>if bH x then sv (aw P (Instr.box t (ρ x)) s) else none
 | .build t ps=>if sx P t&&bM (ps.toList.map (·.2)) then sv (aw P (Instr.build t (ps.map λ(i,x)=>(i,ρ x))) s) else none
 | .buildSlice t n ps=>if sx P (h_ P t)&&wP P (h_ P t)&&bM (ps.toList.map (·.2)) then sv (aw P (Instr.buildSlice t n (ps.map λ(i,x)=>(i,ρ x))) s) else none
 | .load t x=>if bH x then sv (aw P (Instr.loadAt t (ρ x)) s) else none
 | .store t x y=>if bM [x,y] then su (aw P (Instr.storeAt t (ρ x) (ρ y)) s) else none
 | .nilCheck x =>
  if bH x then
   match ρ x with
   | .pointer (some b)=>some (.value (ρ x),s)
   | .func (.func _) _ _=>some (.value (ρ x),s)
   | .iface _ _=>some (.value (ρ x),s)
   | _=>none
  else none
 | .binOp op t x y _ =>
  match fv P ρ o s with
  | some r=>some r
  | none=>if bM [x,y] then (if fP P t (ρ x) (ρ y) then (match op with | .eql=>some (.value (.bool false),s) | .neq=>some (.value (.bool true),s) | _=>none) else D0 op (ρ x) (ρ y) s) else none
 | .unOp op _ x =>
  match fv P ρ o s with
  | some r=>some r
  | none=>if bH x then D1 op (ρ x) s else none
 | .convert t u x =>
  match fv P ρ o s with
  | some r=>some r
  | none=>if bH x then zt P t u (ρ x) s else none
 | .makeInterface t x=>if bH x then sv (aw P (Instr.makeInterface t (ρ x)) s) else none
 | .makeFunc (.func f) first captured=>if bM first.toList&&bM captured.toList then some (.value (.func (.func f) (first.map ρ) (captured.map ρ)),s) else none
 | .makeMap t none=>sv (aw P (Instr.makeMap t none) s)
 | .makeMap t (some x)=>if bH x then sv (aw P (Instr.makeMap t (some (ρ x))) s) else none
 | .makeSlice t l c=>if sx P (h_ P t)&&wP P (h_ P t)&&bM [l,c] then sv (aw P (Instr.makeSlice t (ρ l) (ρ c)) s) else none
 | .slice t x lo hi mx =>
  if Cj P t&&bH x&&bM lo.toList&&bM hi.toList&&bM mx.toList&&Ci (ρ x) (mx.map ρ) then
   match aw P (Instr.sliceAt t (ρ x) (lo.map ρ) (hi.map ρ) (mx.map ρ)) s with
   | some (v,s1)=>if nL v then some (.value v,s1) else none
   | none=>none
  else none
 | .fieldAddr t x f=>if bH x&&tE P t f then sv (aw P (Instr.fieldAt t (ρ x) f) s) else none
 | .field t x f=>if bH x then sv (aw P (Instr.field t (ρ x) f) s) else none
 | .indexAddr t x i=>if bM [x,i] then sv (aw P (Instr.indexAt t (ρ x) (ρ i)) s) else none
 | .index t x i=>if bM [x,i] then sv (aw P (Instr.index t (ρ x) (ρ i)) s) else none
 | .lookup t m k ok=>if bM [m,k] then sv (ji P s t (ρ m) (ρ k) ok) else none
 | .mapUpdate t m k v=>if bM [m,k,v] then (ek P s t (ρ m) (ρ k) (ρ v)).map λs1=>(.skip,s1) else none
 | .insert t m k v=>if bM [m,k,v] then (ek P s t (ρ m) (ρ k) (ρ v)).map λs1=>(.skip,s1) else none
 | .mapEntry t m k=>if bM [m,k] then sv (gi P s t (ρ m) (ρ k)) else none
 | .entryStore _ m st v=>if bM [m,st,v] then (g7 s (ρ m) (ρ st) (ρ v)).map λs1=>(.skip,s1) else none
 | .range t x=>if bH x then sv (aw P (Instr.range t (ρ x)) s) else none
 | .next x str=>if bH x then sv (aw P (Instr.next (ρ x) str o.type) s) else none
 | .entry x=>if bH x then sv (aw P (Instr.entry (ρ x)) s) else none
 | .typeAssert x t u ok=>if bH x&&(!ok||sx P u) then sv (aw P (Instr.typeAssert (ρ x) t u ok) s) else none
 | .extract x i=>if bH x then sv (aw P (Instr.extract (ρ x) i) s) else none
 | .call c=>(match fv P ρ o s with | some r=>some r | none=>A_ P ρ c o.type s)
 | _=>none
theorem Eo(P:Program)(a:Act)(o:Oper)(s:St):fA P a.eval o s=bf P a o s:=rfl
noncomputable def fall(B:Base)(t:TV)(o:Oper)(s:St):Option (Next×St):=fA B.P (du t) o s
noncomputable def DM(r:Option (Next×St))(f:Option (Next×St)):Option (Next×St):=@Option.rec (Next×St) (λ_=>Option (Next×St)) f (λx=>some x) r
noncomputable def zd(c:Bool)(r:Option (Next×St)):Option (Next×St):=@Bool.rec (λ_=>Option (Next×St)) none r c
noncomputable def xD(B:Base)(t:TV)(o:Oper)(c:Call)(b:Builtin)(s:St):Option (Next×St) :=
 match b,c.args.toList,c.argTypes.toList with
 | .len,[x],[ty]=>zd (bM c.operands.toList) (DM (Lc B ty (du t x) s) (fall B t o s))
 | _,_,_=>fall B t o s
noncomputable def vn(B:Base)(t:TV)(o:Oper)(c:Call)(s:St):Option (Next×St) :=
 match c.callee with
 | .value f =>
  match du t f with
  | .func (.func g) first captured=>zd (bM c.operands.toList&&Ow B g) (some (.enter g ⟨List.append first.toList (List.append (tJ t c.args.toList) captured.toList)⟩,s))
  | _=>fall B t o s
 | .builtin b=>xD B t o c b s
 | _=>fall B t o s
noncomputable def Ba(B:Base)(t:TV)(o:Oper)(s:St):Option (Next×St) :=
 match o.op with
 | .move x=>zd (bH x) (some (.value (du t x),s))
 | .assign x=>zd (bH x) (some (.value (du t x),s))
 | .pick c x y=>zd (bM [c,x,y]) (Ka (du t c) (du t x) (du t y) s)
 | .binOp op ty x y u=>zd (bM [x,y]) (match Ij op (du t x) (du t y) with | some v=>some (.value v,s) | none=>DM (Em B op ty (du t x) (du t y) s) (fall B t o s))
 | .unOp op ty x=>zd (bH x) (DM (Ld op (du t x) s) (fall B t o s))
 | .convert a u x=>zd (bH x) (DM (El B a u (du t x) s) (fall B t o s))
 | .alloc ty=>DM (zH B ty s) (fall B t o s)
 | .box ty x=>zd (bH x) (DM (Ng ty (du t x) s) (fall B t o s))
 | .load ty x=>zd (bH x) (DM (En B ty (du t x) s) (fall B t o s))
 | .store ty x y=>zd (bM [x,y]) (DM (zJ B ty (du t x) (du t y) s) (fall B t o s))
 | .fieldAddr ty x f=>zd (bH x) (DM (zK B ty (du t x) f s) (fall B t o s))
 | .indexAddr ty x i=>zd (bM [x,i]) (DM (zI B ty (du t x) (du t i) s) (fall B t o s))
 | .nilCheck x=>zd (bH x) (Pc (du t x) s)
 | .extract x i=>zd (bH x) (DM (qX (du t x) i s) (fall B t o s))
 | .call c=>vn B t o c s
 | _=>fall B t o s
abbrev dN:=Exit×TV×List Deferred×St
abbrev nj:=Option Nat->Nat->Code->TV->List Deferred->St->Option dN
abbrev kC:=OW->St->Option (Value×St)
noncomputable def tp{β:Type}(n:Nat)(t:TV)(d:Option Tmp)(v:Value)(k:TV->β):β :=
 match d with
 | none=>k t
 | some d=>@Bool.rec (λ_=>β) (k t) (Ei v (λv=>TV.lI 12 t d v k)) (Nat.blt d n)
noncomputable def tK{β:Type}(B:Base)(call:kC)(n:Nat)(t:TV)(o:Oper)(s:St)(k:TV->St->Option β):Option β :=
 match bg.HZ o.op (tJ t o.op.operands.toList) with
 | some q=>@Bool.rec (λ_=>Option β) none (match m7 q (tJ t o.op.operands.toList) s with | some (v,s1)=>tp n t o.dst v (λt1=>k t1 s1) | none=>none) (bM o.op.operands.toList)
 | none =>
 match Ba B t o s with
 | some (.value v,s1)=>tp n t o.dst v (λt1=>k t1 s1)
 | some (.skip,s1)=>tp n t o.dst undef (λt1=>k t1 s1)
 | some (.enter f args,s1)=>(match call (.fn f args) s1 with | some (v,s2)=>tp n t o.dst v (λt1=>k t1 s2) | none=>none)
 | some (.round l _ tmps assign body,s1)=>(match call (.D2 l tmps assign body) s1 with | some (v,s2)=>tp n t o.dst v (λt1=>k t1 s2) | none=>none)
 | _=>none
noncomputable def zL(ops:Array Oper)(t:TV)(j:Nat):Option Bool :=
 match (ops[j]?).bind (·.dst) with
 | some d=>(match t.get d with | .bool b=>some b | _=>none)
 | none=>none
noncomputable def tL(ops:Array Oper)(t:TV)(o:Oper):Bool :=
 match o.guard with
 | none=>true
 | some (j,want) =>
  match zL ops t j,want with
  | some true,true=>true
  | some false,false=>true
  | _,_=>false
noncomputable def xE(B:Base)(call:kC)(n:Nat)(ops:Array Oper)(d:List Deferred)(l:List Oper):TV->St->Option dN :=
 @List.rec Oper (λ_=>TV->St->Option dN) (λt s=>some (.normal,t,d,s))
  (λo _ ih t s=>@Bool.rec (λ_=>Option dN) (tp n t o.dst undef (λt1=>ih t1 s)) (tK B call n t o s (λt1 s1=>ih t1 s1)) (tL ops t o)) l
noncomputable def xF(B:Base)(call:kC)(n:Nat)(ops:Array Oper)(d:List Deferred)(l:List Oper):TV->St->List (List Touch)->Option dN :=
 @List.rec Oper (λ_=>TV->St->List (List Touch)->Option dN)
  (λt s ls=>@Bool.rec (λ_=>Option dN) none (some (.normal,t,d,s)) (gJ ops&&ip (Region.before ops) ls (ops.size-1)))
  (λo _ ih t s ls=>@Bool.rec (λ_=>Option dN) (tp n t o.dst undef (λt1=>ih t1 s ([]::ls)))
   (@St.rec (λ_=>Option dN) (λh nx lg=>tK B call n t o ⟨h,nx,[]⟩ (λt1 s1=>@St.rec (λ_=>Option dN) (λh1 Pd Nh=>ih t1 ⟨h1,Pd,List.append Nh lg⟩ (Nh::ls)) s1)) s) (tL ops t o)) l
noncomputable def Iq(r:Option dN)(k:TV->List Deferred->St->Option dN):Option dN :=
 match r with
 | some (.normal,t,d,s)=>k t d s
 | some (e,t,d,s)=>some (e,t,d,s)
 | none=>none
noncomputable def Ep(id:Nat)(r:Option dN):Option dN :=
 match r with
 | some (.exit i,t,d,s)=>@Bool.rec (λ_=>Option dN) (some (.exit i,t,d,s)) (some (.normal,t,d,s)) (Nat.beq i id)
 | some (e,t,d,s)=>some (e,t,d,s)
 | none=>none
noncomputable def Bb(r:Option dN):Option dN :=
 match r with
 | some (.goto _,_,_,_)=>none
 | some (e,t,d,s)=>some (e,t,d,s)
 | none=>none
noncomputable def Eq(run:Code->TV->List Deferred->St->Option dN)(body:Code)(r:Option dN):Option dN :=
 match r with
 | some (.goto l,t,d,s)=>(match findLabel body l with | some rest=>Bb (run rest t d s) | none=>none)
 | some (e,t,d,s)=>some (e,t,d,s)
 | none=>none
noncomputable def Kb(v:Value)(x y:Option dN):Option dN :=
 match v with
 | .bool b=>@Bool.rec (λ_=>Option dN) y x b
 | _=>none
noncomputable def kY{β:Type}(l:List Value):Nat->TV->(TV->β)->β :=
 @List.rec Value (λ_=>Nat->TV->(TV->β)->β) (λ_ t k=>k t) (λv _ ih i t k=>TV.lI 12 t i v (λt1=>ih (Nat.succ i) t1 k)) l
noncomputable def TV.Le(t:TV)(k:Nat):Nat->List Value:=@Nat.rec (λ_=>Nat->List Value) (λ_=>[]) (λ_ ih i=>t.get i::ih (Nat.succ i)) k
noncomputable def TV.Lg{β:Type}(t:TV)(k:Nat):Nat->(List Value->β)->β:=@Nat.rec (λ_=>Nat->(List Value->β)->β) (λ_ f=>f []) (λ_ ih i f=>Ei (t.get i) (λv=>ih (Nat.succ i) (λl=>f (v::l)))) k
noncomputable def TV.act(t:TV)(n:Nat):Act:=⟨⟨t.Le n 0⟩,[]⟩
noncomputable def xG(t:TV)(r:ResultVar)(ih:Option (List Value)):Option (List Value) :=
 match r,ih with
 | .tmp i,some l=>some (t.get i::l)
 | _,_=>none
noncomputable def tM(t:TV)(l:List ResultVar):Option (List Value):=@List.rec ResultVar (λ_=>Option (List Value)) (some []) (λr _ ih=>xG t r ih) l
noncomputable def Lh(P:Program)(fn:Func)(t:TV)(s:St):Option (Value×St) :=
 match fn.results.toList with
 | [.tmp i]=>some (t.get i,s)
 | []=>some (.tuple #[],s)
 | a::b::l=>(match tM t (a::b::l) with | some vs=>some (.tuple ⟨vs⟩,s) | none=>aw P (results fn (t.act fn.ntmps).tmps) s)
 | _=>aw P (results fn (t.act fn.ntmps).tmps) s
noncomputable def Ir(P:Program)(fn:Func)(t:TV)(d:List Deferred)(s:St):Option (Value×St) :=
 match kq P d s with
 | some (_,s1)=>Lh P fn t s1
 | none=>none
noncomputable def vo(P:Program)(fn:Func)(r:Option dN):Option (Value×St) :=
 match r with
 | some (.ret,t,d,s)=>Ir P fn t d s
 | some (.normal,t,d,s)=>Ir P fn t d s
 | _=>none
noncomputable def en(B:Base)(run:nj)(f:FuncId)(args:List Value)(s:St):Option (Value×St) :=
 match bg.H3 f args with
 | some r=>some (r,s)
 | none =>
 match bg.wF f args with
 | some q=>sR q s
 | none =>
 match B.F.get f with
 | some fn =>
  match fn.body with
  | some body=>@Bool.rec (λ_=>Option (Value×St)) none (kY args 0 .leaf (λt=>vo B.P fn (run none fn.ntmps body t [] s))) (Nat.ble args.length fn.ntmps&&Nat.ble fn.ntmps 4094)
  | none=>none
 | none=>none
noncomputable def Kc(P:Program)(l:Nat)(r:Option dN):Option (Value×St) :=
 match r with
 | some (e,_,_,s)=>sT P l e s
 | none=>none
noncomputable def Li(B:Base)(run:nj)(l n:Nat)(body:Code)(r:Option dN):Option (Value×St) :=
 match r with
 | some (.normal,t,d,s) =>
  match aw B.P (Instr.beginRound l) s with
  | some (_,s1)=>Kc B.P l (run (some l) n body t d s1)
  | none=>none
 | _=>none
noncomputable def zM(B:Base)(run:nj)(l:Nat)(tmps:List Value)(assign body:Code)(s:St):Option (Value×St) :=
 qe tmps.length (λn=>@Bool.rec (λ_=>Option (Value×St)) none (kY tmps 0 .leaf (λt=>Li B run l n body (run (some l) n assign t [] s))) (Nat.ble n 4094))
noncomputable def Bc(B:Base)(run:nj)(c:OW)(s:St):Option (Value×St) :=
 match c with
 | .fn f args=>en B run f args.toList s
 | .D2 l tmps assign body=>zM B run l tmps.toList assign body s
noncomputable def pj(B:Base)(t:TV)(g:Operand)(l:Nat):Option (FuncId×List Value) :=
 match du t g with
 | .func (.func f) first captured=>@Bool.rec (λ_=>Option (FuncId×List Value)) none (some (f,List.append first.toList (.func (.yield l) #[] #[]::captured.toList))) (bH g&&Ow B f)
 | _=>none
noncomputable def Kd(run:nj)(rd:Option Nat)(n:Nat)(j:Option Code)(t:TV)(d:List Deferred)(s:St):Option dN :=
 match j with
 | none=>some (.normal,t,d,s)
 | some c=>run rd n c t d s
noncomputable def Bd(B:Base)(run:nj)(rd:Option Nat)(n l:Nat)(t:TV)(d:List Deferred)(r:Option (Value×St)):Option dN :=
 match r with
 | some (_,s2) =>
  match aw B.P (Instr.endLoop l) s2 with
  | some (j,s3)=>@Bool.rec (λ_=>Option dN) none (Kd run rd n j t d s3) (m9 j)
  | none=>none
 | none=>none
noncomputable def zN(B:Base)(run:nj)(rd:Option Nat)(n:Nat)(g:Operand)(ps:Array Tmp)(assign body:Code)(t:TV)(d:List Deferred)(s:St):Option dN :=
 t.Lg n 0 (λL =>
 match aw B.P (Instr.enterLoop 0 ⟨L⟩ ps assign body rd) s with
 | some ((l,mark),s1) =>
  match pj B t g l with
  | some (f,args)=>Bd B run rd n l t (List.append mark d) (en B run f args s1)
  | none=>none
 | none=>none)
noncomputable def Er(B:Base)(run:nj)(rd:Option Nat)(n:Nat)(c:Code)(t:TV)(d:List Deferred)(s:St):Option dN :=
 match c with
 | .skip=>some (.normal,t,d,s)
 | .label _=>some (.normal,t,d,s)
 | .ret=>some (.ret,t,d,s)
 | .exit id=>some (.exit id,t,d,s)
 | .goto l=>some (.goto l,t,d,s)
 | .seq x y=>Iq (run rd n x t d s) (λt1 d1 s1=>run rd n y t1 d1 s1)
 | .cond c x y=>@Bool.rec (λ_=>Option dN) none (Kb (du t c) (run rd n x t d s) (run rd n y t d s)) (bH c)
 | .block id body=>Ep id (run rd n body t d s)
 | .loop body=>Iq (run rd n body t d s) (λt1 d1 s1=>run rd n (.loop body) t1 d1 s1)
 | .scope body=>(match rd with | none=>Eq (run none n) body (run none n body t d s) | some _=>none)
 | .rangeFunc g ps assign body=>zN B run rd n g ps assign body t d s
 | .region _ ops draw=>@Bool.rec (λ_=>Option dN) (xE B (Bc B run) n ops d ops.toList t s) (xF B (Bc B run) n ops d ops.toList t s []) draw
 | _=>none
noncomputable def Cz{α β:Type}(l:List α):(List α->β)->β :=
 @List.rec α (λ_=>(List α->β)->β) (λk=>k []) (λv _ ih k=>ih (λl=>k (v::l))) l
noncomputable def d9{β:Type}(P:Program)(k:Base->β):β :=
 match P with
 | ⟨⟨a1,a2,a3,a4,types,a6,a7,a8,a9,Mz,MA⟩,funcs⟩=>Cz types.toList (λL=>Cz funcs.toList (λM=>gK.J9 L 0 .leaf (λT=>gK.J9 M 0 .leaf (λF=>k ⟨⟨⟨a1,a2,a3,a4,⟨L⟩,a6,a7,a8,a9,Mz,MA⟩,⟨M⟩⟩,T,F⟩))))
noncomputable def tq(B:Base)(fuel:Nat):nj :=
 @Nat.rec (λ_=>nj) (λ_ _ _ _ _ _=>none) (λ_ ih rd n c t d s=>Er B ih rd n c t d s) fuel
end Go.Ev
