/- Part of a proof: see the last text. -/
import Derived.Test.YtankbefdlbcdnaaZd10
set_option linter.unusedSectionVars false
set_option linter.unusedSimpArgs false
set_option linter.unusedVariables false
namespace Go.Ev
open Go.RowKit
theorem Ft{op:Op}{t:TypeId}(h:cy op=some [1,t]):∃ x,op=.load t x:=by
 unfold cy at h
 split at h<;>first | (cases h;done) | skip
 all_goals first | (cases h;exact⟨_,rfl⟩) | (simp at h)
theorem Cj{op:Op}{t:TypeId}(h:cy op=some [2,t]):∃ x y,op=.store t x y:=by
 unfold cy at h
 split at h<;>first | (cases h;done) | skip
 all_goals first | (cases h;exact⟨_,_,rfl⟩) | (simp at h)
theorem Ck{op:Op}{t:TypeId}(h:cy op=some [3,t]):∃ x y,op=.indexAddr t x y:=by
 unfold cy at h
 split at h<;>first | (cases h;done) | skip
 all_goals first | (cases h;exact⟨_,_,rfl⟩) | (simp at h)
theorem u9{op:Op}{t:TypeId}(h:cy op=some [4,t,1,0,0]):∃ x lo,op=.slice t x (some lo) none none:=by
 unfold cy at h
 split at h<;>first | (cases h;done) | skip
 all_goals first | (simp at h;done) | skip
 rename_i t' x lo hi mx;cases lo<;>cases hi<;>cases mx<;>simp at h
 subst h;exact⟨_,_,rfl⟩
theorem u_{op:Op}{t:TypeId}(h:cy op=some [4,t,0,1,0]):∃ x hi,op=.slice t x none (some hi) none:=by
 unfold cy at h
 split at h<;>first | (cases h;done) | skip
 all_goals first | (simp at h;done) | skip
 rename_i t' x lo hi mx;cases lo<;>cases hi<;>cases mx<;>simp at h
 subst h;exact⟨_,_,rfl⟩
theorem HQ{op:Op}{t:TypeId}(h:cy op=some [10,t]):∃ x,op=.call { callee:=.builtin .len,args:=#[x],argTypes:=#[t] }:=by
 unfold cy at h
 split at h<;>first | (cases h;done) | skip
 all_goals first | (cases h;exact⟨_,rfl⟩) | (simp at h)
theorem qT{op:Op}{t u:TypeId}(h:cy op=some [11,t,u]):∃ x y,op=.call { callee:=.builtin .append,args:=#[x,y],argTypes:=#[t,u] }:=by
 unfold cy at h
 split at h<;>first | (cases h;done) | skip
 all_goals first | (cases h;exact⟨_,_,rfl⟩) | (simp at h)
section
variable[aL]
def eA(P:Program)(m:Sem Value)(ι:ag)(d:Nat)(F:Nat->Prop)(w:World)(r:Value)(ng:Option Nat):Prop:=∃ v' w',m.run P w=.ok v' w'/\si ι d F w r ng v' w'
def Cl(P:Program)(m:Sem Unit)(ι:ag)(d:Nat)(F:Nat->Prop)(w:World)(ng:Option Nat):Prop:=∃ w',m.run P w=.ok () w'/\si ι d F w undef ng undef w'
end
structure Ask(k:Kn)(g:Nat)(d0:Option Nat)(ng:Option Nat)(ι:ag)(F:Nat->Prop)(w:World)(d:Nat):Prop where
 st:∃ a,k.gs[g]? = some a/\a.p ι F w
 lt:∀ j,F j->j<w.heap.size
 fresh:ι d=none\/ng=none
 name:∀ y,d0=some y->y=d
theorem sG{ι:ag}[aL]{x:Value}{l:List Value}(h:cx ι [x] l):∃ x',l=[x']/\aw ι x x':=by
 match l,h with
 | [],h=>exact absurd h.1 (by simp)
 | [x'],h=>exact⟨x',rfl,h.2 0 x x' rfl rfl⟩
 | _::_::_,h=>exact absurd h.1 (by simp)
theorem m_{ι:ag}[aL]{x y:Value}{l:List Value}(h:cx ι [x,y] l):∃ x' y',l=[x',y']/\aw ι x x'/\aw ι y y':=by
 match l,h with
 | [],h=>exact absurd h.1 (by simp)
 | [_],h=>exact absurd h.1 (by simp)
 | [x',y'],h=>exact⟨x',y',rfl,h.2 0 x x' rfl rfl,h.2 1 y y' rfl rfl⟩
 | _::_::_::_,h=>exact absurd h.1 (by simp)
variable(k:Kn){P:Program}{g:Nat}{d0 ng:Option Nat}{r:Value}
theorem aD.load{t:TypeId}{x:Value}(h:letI:aL:=k.sig;∀ ι F w d x',Ask k g d0 ng ι F w d->aw ι x x'->eA P (Instr.loadAt t x') ι d F w r ng):aD k P ⟨[1,t],[x],none,g,d0,r,ng⟩:=by
 letI:aL:=k.sig;intro o hk ev ι F w d hv _ h1 h2 h3 h4;obtain⟨a,ho⟩:=Ft hk;rw[ho]at hv;obtain⟨x',e,hx⟩:=sG hv;simp[Op.operands]at e;subst e;obtain⟨v',w',r1,r2⟩:=h ι F w d _ ⟨h1,h2,h3,h4⟩ hx;refine⟨.value v',v',w',?_,.inl rfl,r2⟩;unfold execOp;rw[ho];simp only;rw[Sem.run_bind,r1];rfl
theorem aD.store{t:TypeId}{x y:Value}(h:letI:aL:=k.sig;∀ ι F w d x' y',Ask k g d0 ng ι F w d->aw ι x x'->aw ι y y'->Cl P (Instr.storeAt t x' y') ι d F w ng):aD k P ⟨[2,t],[x,y],none,g,d0,undef,ng⟩:=by
 letI:aL:=k.sig;intro o hk ev ι F w d hv _ h1 h2 h3 h4;obtain⟨a,b,ho⟩:=Cj hk;rw[ho]at hv;obtain⟨x',y',e,hx,hy⟩:=m_ hv;simp[Op.operands]at e;obtain⟨rfl,rfl⟩:=e;obtain⟨w',r1,r2⟩:=h ι F w d _ _ ⟨h1,h2,h3,h4⟩ hx hy;refine⟨.skip,undef,w',?_,.inr ⟨rfl,rfl⟩,r2⟩;unfold execOp;rw[ho];simp only;rw[Sem.run_bind,r1];rfl
theorem aD.index{t:TypeId}{x y:Value}(h:letI:aL:=k.sig;∀ ι F w d x' y',Ask k g d0 ng ι F w d->aw ι x x'->aw ι y y'->eA P (Instr.indexAt t x' y') ι d F w r ng):aD k P ⟨[3,t],[x,y],none,g,d0,r,ng⟩:=by
 letI:aL:=k.sig;intro o hk ev ι F w d hv _ h1 h2 h3 h4;obtain⟨a,b,ho⟩:=Ck hk;rw[ho]at hv;obtain⟨x',y',e,hx,hy⟩:=m_ hv;simp[Op.operands]at e;obtain⟨rfl,rfl⟩:=e;obtain⟨v',w',r1,r2⟩:=h ι F w d _ _ ⟨h1,h2,h3,h4⟩ hx hy;refine⟨.value v',v',w',?_,.inl rfl,r2⟩;unfold execOp;rw[ho];simp only;rw[Sem.run_bind,r1];rfl
theorem aD.y8{t:TypeId}{x y:Value}(h:letI:aL:=k.sig;∀ ι F w d x' y',Ask k g d0 ng ι F w d->aw ι x x'->aw ι y y'->eA P (Instr.sliceAt t x' (some y') none none) ι d F w r ng):aD k P ⟨[4,t,1,0,0],[x,y],none,g,d0,r,ng⟩:=by
 letI:aL:=k.sig;intro o hk ev ι F w d hv _ h1 h2 h3 h4;obtain⟨a,b,ho⟩:=u9 hk;rw[ho]at hv;obtain⟨x',y',e,hx,hy⟩:=m_ hv;simp[Op.operands]at e;obtain⟨rfl,rfl⟩:=e;obtain⟨v',w',r1,r2⟩:=h ι F w d _ _ ⟨h1,h2,h3,h4⟩ hx hy;refine⟨.value v',v',w',?_,.inl rfl,r2⟩;unfold execOp;rw[ho];simp only[Option.map];rw[Sem.run_bind,r1];rfl
theorem aD.Fu{t:TypeId}{x y:Value}(h:letI:aL:=k.sig;∀ ι F w d x' y',Ask k g d0 ng ι F w d->aw ι x x'->aw ι y y'->eA P (Instr.sliceAt t x' none (some y') none) ι d F w r ng):aD k P ⟨[4,t,0,1,0],[x,y],none,g,d0,r,ng⟩:=by
 letI:aL:=k.sig;intro o hk ev ι F w d hv _ h1 h2 h3 h4;obtain⟨a,b,ho⟩:=u_ hk;rw[ho]at hv;obtain⟨x',y',e,hx,hy⟩:=m_ hv;simp[Op.operands]at e;obtain⟨rfl,rfl⟩:=e;obtain⟨v',w',r1,r2⟩:=h ι F w d _ _ ⟨h1,h2,h3,h4⟩ hx hy;refine⟨.value v',v',w',?_,.inl rfl,r2⟩;unfold execOp;rw[ho];simp only[Option.map];rw[Sem.run_bind,r1];rfl
theorem dE{ev:Operand->Value}{o:Oper}{c:Call}{b:Builtin}(ho:o.op=.call c)(hc:c.callee=.builtin b):∃ cs,execOp ev o=builtin b c.argTypes o.type cs (c.args.map ev):=by
 unfold execOp;rw[ho];simp only;unfold resolve;rw[hc];exact⟨_,rfl⟩
theorem aD.len{t:TypeId}{x:Value}(h:letI:aL:=k.sig;∀ ι F w d x' ty,Ask k g d0 ng ι F w d->aw ι x x'->eA P (Builtin.len_ #[t] ty #[x']) ι d F w r ng):aD k P ⟨[10,t],[x],none,g,d0,r,ng⟩:=by
  letI:aL:=k.sig;intro o hk ev ι F w d hv _ h1 h2 h3 h4;obtain⟨a,ho⟩:=HQ hk;obtain⟨cs,he⟩:=dE (ev:=ev) ho rfl;rw[ho]at hv;obtain⟨x',e,hx⟩:=sG hv;simp[Op.operands,Call.operands]at e;subst e;obtain⟨v',w',r1,r2⟩:=h ι F w d _ o.type ⟨h1,h2,h3,h4⟩ hx;refine⟨.value v',v',w',?_,.inl rfl,r2⟩;rw[he];have hb:builtin .len #[t] o.type cs #[ev a]=(do pure (Next.value (← Builtin.len_ #[t] o.type #[ev a]))):=rfl;simp only[List.map_toArray,List.map_cons,List.map_nil];rw[hb];rw[Sem.run_bind,r1];rfl
theorem aD.append{t u:TypeId}{x:Value}{sz:Nat}{c:List Value}(h:letI:aL:=k.sig;∀ ι F w d x' y' c' m ty,Ask k g d0 ng ι F w d->aw ι x x'->cx ι c c'->c.length=m*sz->c.all oneCell=true->
      (∀ w':World,w'.heap=w.heap->(Builtin.firstCells sz m y').run P w'=.ok c'.toArray w')->(∀ w':World,(Builtin.lenOf y').run P w'=.ok m w')->eA P (Builtin.append_ #[t,u] ty #[x',y']) ι d F w r ng):aD k P ⟨[11,t,u],[x],some (sz,1,c),g,d0,r,ng⟩:=by
  letI:aL:=k.sig;intro o hk ev ι F w d hv hs h1 h2 h3 h4;obtain⟨a,b,ho⟩:=qT hk;obtain⟨cs,he⟩:=dE (ev:=ev) ho rfl;rw[ho]at hv hs;obtain⟨x',e,hx⟩:=sG hv;obtain⟨y2,c',m,q1,q2,q3,q4,q5,q6⟩:=hs sz 1 c rfl;simp[Op.operands,Call.operands]at e q1;subst e;subst q1;obtain⟨v',w',r1,r2⟩:=h ι F w d _ _ c'.toList m o.type ⟨h1,h2,h3,h4⟩ hx q2 q3 q4 (by simpa using q5) q6;refine⟨.value v',v',w',?_,.inl rfl,r2⟩;rw[he];have hb:builtin .append #[t,u] o.type cs #[ev a,ev b]=(do pure (Next.value (← Builtin.append_ #[t,u] o.type #[ev a,ev b]))):=rfl;simp only[List.map_toArray,List.map_cons,List.map_nil];rw[hb];rw[Sem.run_bind,r1];rfl
end Go.Ev
namespace Go.Ev
open Go.RowKit
def flat:Code->List Code
 | .seq x y=>flat x++flat y
 | c=>[c]
def inner:Nat->Code->Code
 | 0,.block _ x=>x
 | 0,.loop x=>x
 | 0,.scope x=>x
 | 0,.cond _ x _=>x
 | 1,.cond _ _ y=>y
 | _,c=>c
def Fv:List Nat->Code->Code
 | [],c=>c
 | i::p,c=>Fv p (inner (i%2) ((flat c).getD (i / 2) .skip))
theorem xk(p q:List Nat)(c:Code):Fv (p++q) c=Fv q (Fv p c):=by
 induction p generalizing c with
 | nil=>rfl
 | cons i p ih=>exact ih _
theorem Fw(P:Program):aY P .skip:=⟨default,[],[],rfl⟩
theorem Cm{P:Program}{i:Nat}{c:Code}(h:aY P c):aY P (inner i c):=by
 letI:aL:=cP;unfold inner
 split
 ·exact h.block
 ·exact h.loop
 ·exact h.scope
 ·exact h.cond.1
 ·exact h.cond.2
 ·exact h
theorem sH{P:Program} : ∀ {c:Code},aY P c->∀ x ∈ flat c,aY P x:=by
 letI:aL:=cP;intro c
 induction c with
 | seq x y Ja ihy =>
  intro h z hz;rcases List.mem_append.1 hz with hz | hz
  ·exact Ja h.seq.1 z hz
  ·exact ihy h.seq.2 z hz
 | _=>intro h z hz;rw[List.mem_singleton.1 hz];exact h
theorem Fx{P:Program}{l:List Code}(h:∀ x ∈ l,aY P x)(i:Nat):aY P (l.getD i .skip):=by
 rw[List.getD_eq_getElem?_getD];cases hi:l[i]? with
 | none=>exact Fw P
 | some x=>exact h x (List.mem_of_getElem? hi)
theorem GX{P:Program} : ∀ {p:List Nat} {c:Code},aY P c->aY P (Fv p c):=by
 intro p
 induction p with
 | nil=>exact λh=>h
 | cons i p ih=>exact λh=>ih (Cm (Fx (sH h) _))
def dF(P:Program):List Code->(Exit->Act->World->Prop)->Act->World->Prop
 | [],Q,a,w=>Q .normal a w
 | c::cs,Q,a,w=>c.wpIn Fence.wide 0 P (Exit.then (dF P cs Q) Q) a w
theorem Fy{P:Program} : ∀ {c:Code} {cs:List Code} {Q:Exit->Act->World->Prop} {a:Act} {w:World},dF P (flat c++cs) Q a w->c.wpIn Fence.wide 0 P (Exit.then (dF P cs Q) Q) a w:=by
 intro c
 induction c with
 | seq x y Ja ihy =>
  intro cs Q a w h;rw[flat,List.append_assoc]at h;refine wpIn_seq (wpIn_mono (Ja h) (λe a w he=>?_));cases e with
  | normal=>exact ihy he
  | _=>exact he
 | _=>exact λh=>h
theorem jG{P:Program}{c:Code}{Q:Exit->Act->World->Prop}{a:Act}{w:World}(h:dF P (flat c) Q a w):c.wpIn Fence.wide 0 P Q a w:=by
 refine wpIn_mono (Fy (cs:=[]) (by rw[List.append_nil];exact h)) (λe a w he=>?_);cases e<;>exact he
def gH(P:Program)(f:FuncId):Func:=(P.funcs[f]?).getD default
def na(P:Program)(f:FuncId):Code:=(gH P f).body.getD .skip
abbrev place(P:Program)(f:FuncId)(p:List Nat):Code:=Fv p (na P f)
noncomputable def iu(B:Base)(f:FuncId)(p:List Nat)(k:Func->Code->Bool):Bool :=
 match B.F.get f with
 | some fn=>(match fn.body with | some body=>k fn (Fv p body) | none=>false)
 | none=>false
theorem fX{P:Program}{f:FuncId}{p:List Nat}{k:Base->Func->Code->Bool}(h:dL P (λB=>iu B f p (k B))=true) :
  ∃ B,nY B/\B.P=P/\P.funcs[f]? = some (gH P f)/\(gH P f).body=some (na P f)/\k B (gH P f) (place P f p)=true:=by
 letI:aL:=cP;obtain⟨B,hB,KQ,e⟩:=uW P (λB=>iu B f p (k B));rw[e]at h;subst KQ;unfold iu at h
 split at h
 ·rename_i fn hf
  have hf':=hB.F _ _ hf;have e1:gH B.P f=fn:=by unfold gH;rw[hf'];rfl
  split at h
  ·rename_i body hb
   have e2:na B.P f=body:=by unfold na;rw[e1,hb];rfl
   exact⟨B,hB,rfl,by rw[e1];exact hf',by rw[e1,e2];exact hb,by rw[e1];unfold place;rw[e2];exact h⟩
  ·cases h
 ·cases h
abbrev ia(P:Program)(f:FuncId)(p:List Nat)(i:Nat):List Code:=(flat (place P f p)).drop i
noncomputable def GY(id:Nat):List Code->Bool
 | .block i _::_=>Nat.beq i id
 | _=>false
noncomputable def xm:List Code->Bool
 | .loop _::_=>true
 | _=>false
noncomputable def isNil:List Code->Bool
 | []=>true
 | _=>false
theorem py{P:Program}{f:FuncId}{p:List Nat}{i:Nat}{c:Code}{l:List Code}(h:ia P f p i=c::l):place P f (p++[2*i])=inner 0 c/\l=ia P f p (i+1):=by
 unfold place;rw[xk];have h1:(flat (place P f p))[i]? = some c:=by
  have:=congrArg List.head? h;rw[List.head?_drop]at this;exact this
 refine⟨?_,?_⟩
 ·show inner (2*i%2) ((flat (Fv p (na P f))).getD (2*i / 2) .skip)=_
  rw[Nat.mul_mod_right,Nat.mul_div_cancel_left _ (by omega),List.getD_eq_getElem?_getD];have h1':(flat (Fv p (na P f)))[i]? = some c:=h1;rw[h1'];rfl
 ·have:=congrArg List.tail h
  rw[List.tail_drop]at this;exact this.symm
theorem cY{P:Program}{f:FuncId}{p:List Nat}{i id:Nat}(h:dL P (λB=>iu B f p (λ_ c=>GY id ((flat c).drop i)))=true){Q:Exit->Act->World->Prop}{a:Act}{w:World}
  (hw:dF P (ia P f (p++[2*i]) 0) (Exit.inBlock id (Exit.then (dF P (ia P f p (i+1)) Q) Q)) a w):dF P (ia P f p i) Q a w:=by
 obtain⟨B,_,_,_,_,h⟩:=fX h;have h':GY id (ia P f p i)=true:=h;cases hs:ia P f p i with
 | nil=>rw[hs]at h';cases h'
 | cons c l =>
  rw[hs]at h';obtain⟨e1,e2⟩:=py hs;cases c with
  | block k x =>
   have hk:=Nat.eq_of_beq_eq_true (show Nat.beq k id=true from h');subst hk;rw[e2];refine wpIn_block (jG ?_);have:ia P f (p++[2*i]) 0=flat x:=by
    show(flat (place P f (p++[2*i]))).drop 0=_;rw[e1];rfl
   rw[← this];exact hw
  | _=>cases h'
theorem Fz{P:Program}{f:FuncId}{p:List Nat}{i:Nat}(h:dL P (λB=>iu B f p (λ_ c=>xm ((flat c).drop i)))=true){Q:Exit->Act->World->Prop}{a:Act}{w:World}
  (hw:(Code.loop (place P f (p++[2*i]))).wpIn Fence.wide 0 P (Exit.then (dF P (ia P f p (i+1)) Q) Q) a w):dF P (ia P f p i) Q a w:=by
 obtain⟨B,_,_,_,_,h⟩:=fX h;have h':xm (ia P f p i)=true:=h;cases hs:ia P f p i with
 | nil=>rw[hs]at h';cases h'
 | cons c l =>
  rw[hs]at h';obtain⟨e1,e2⟩:=py hs;cases c with
  | loop x =>
   rw[e2];have IQ:place P f (p++[2*i])=x:=e1;rw[IQ]at hw;exact hw
  | _=>cases h'
theorem db{P:Program}{f:FuncId}{p:List Nat}{i:Nat}(h:dL P (λB=>iu B f p (λ_ c=>isNil ((flat c).drop i)))=true){Q:Exit->Act->World->Prop}{a:Act}{w:World}(hw:Q .normal a w):dF P (ia P f p i) Q a w:=by
 obtain⟨B,_,_,_,_,h⟩:=fX h;have h':isNil (ia P f p i)=true:=h;cases hs:ia P f p i with
 | nil=>exact hw
 | cons c l=>rw[hs]at h';cases h'
theorem xn{P:Program}{f:FuncId}{N:Nat}{args:Array Value}{w:World}{R:Ending->World->Prop}(h:dL P (λB=>iu B f [] (λfn _=>Nat.beq fn.ntmps N))=true)
  (hw:dF P (ia P f [] 0) (bodyPostM Fence.wide 0 P (gH P f) R) { tmps:=args++Array.replicate (N-args.size) undef,defers:=[] } w):Calls P f args w R:=by
 obtain⟨B,_,_,hf,hb,h⟩:=fX h;rw[← Nat.eq_of_beq_eq_true h]at hw;exact callsIn_wide.1 (callsIn_of_wp_marks (F:=Fence.wide) (n:=0) hf hb trivial (jG hw))
section pieces
variable[aL]
def i9(run:Runner):Nat->List Code->Act->St->Option (Exit×Act×St)
 | 0,_,a,s=>some (.normal,a,s)
 | k+1,c::cs,a,s=>(match run none c a s with | some (.normal,a1,s1)=>i9 run k cs a1 s1 | r=>r)
 | _+1,[],_,_=>none
theorem jH{run:Runner}(hl:cF run):∀ (k:Nat) {cs:List Code} {a a1:Act} {s s1:St} {e:Exit},i9 run k cs a s=some (e,a1,s1)->s.next<=s1.next
 | 0,cs,a,a1,s,s1,e,h=>by cases h;exact Nat.le_refl _
 | k+1,c::cs,a,a1,s,s1,e,h=>by
  simp only[i9]at h
  split at h
  ·rename_i a2 s2 hx
   exact Nat.le_trans (hl.next hx) (jH hl k h)
  ·exact hl.next h
 | k+1,[],a,a1,s,s1,e,h=>by cases h
theorem va{P:Program}{base:Nat->Prop}{run:Runner}(hl:cF run)(hrun:Ad P base run):∀ (k:Nat) {cs:List Code} {a a1:Act} {s s1:St} {ex:Exit},i9 run k cs a s=some (ex,a1,s1)->(∀ c ∈ cs,aY P c)->kG s s.next s1.next->
  ∀ (ι:ag) (A:Act) (w:World),bF ι a A->bY P base ι s.look w->c6 ι s s1->∀ Q:Exit->Act->World->Prop,(∀ κ A1 w1,bF κ a1 A1->Goes P base ι κ s s1 w w1->Exit.then (dF P (cs.drop k) Q) Q ex A1 w1)->dF P cs Q A w:=by
 intro k
 induction k with
 | zero =>
  intro cs a a1 s s1 ex h hco hwin ι A w hA hr hfr Q hQ;cases h;exact hQ ι A w hA (Goes.refl hr)
 | succ k ih =>
  intro cs a a1 s s1 ex h hco hwin ι A w hA hr hfr Q hQ;cases cs with
  | nil=>cases h
  | cons c cs =>
   simp only[i9]at h
   split at h
   ·rename_i a2 s2 hx
    have n1:=hl.next hx
    have n2:=jH hl k h;refine hrun none c a s _ a2 s2 hx (hco c (List.mem_cons_self ..)) (hwin.left n2) ι none A w trivial hA hr (hfr.left n2) _ (λκ A1 w1 hA1 g=>?_);exact ih h (λc hc=>hco c (List.mem_cons_of_mem _ hc)) (hl.win hx hwin n2) κ A1 w1 hA1 g.rep (hfr.right g n1) Q (λμ A2 w2 hA2 g2=>hQ μ A2 w2 hA2 (g.trans g2 n1 n2))
   ·rename_i hne
    refine hrun none c a s _ a1 s1 h (hco c (List.mem_cons_self ..)) hwin ι none A w trivial hA hr hfr _ (λκ A1 w1 hA1 g=>?_);have:=hQ κ A1 w1 hA1 g;cases ex with
    | normal=>exact(hne _ _ h).elim
    | _=>exact this
noncomputable def fK(B:Base)(n N:Nat):Nat->List Code->TV->St->Option cT
 | 0,_,t,s=>some (.normal,t,[],s)
 | k+1,c::cs,t,s=>(match E' B n none N c t [] s with | some (.normal,t1,[],s1)=>fK B n N k cs t1 s1 | some (.normal,_,_::_,_)=>none | some (e,t1,d1,s1)=>some (e,t1,d1,s1) | none=>none)
 | _+1,[],_,_=>none
theorem nh{B:Base}(hB:nY B)(n N:Nat):∀ (k:Nat) {cs:List Code} {t t1:TV} {a:Act} {s s1:St} {ex:Exit} {d1:List Deferred},Env N t [] a->fK B n N k cs t s=some (ex,t1,d1,s1)->∃ a1,i9 (ev B.P n) k cs a s=some (ex,a1,s1)/\Env N t1 d1 a1:=by
 intro k
 induction k with
 | zero=>intro cs t t1 a s s1 ex d1 he h;cases h;exact⟨a,rfl,he⟩
 | succ k ih =>
  intro cs t t1 a s s1 ex d1 he h;cases cs with
  | nil=>cases h
  | cons c cs =>
   simp only[fK]at h
   split at h
   ·rename_i t2 s2 hx
    obtain⟨a2,q1,q2⟩:=xd hB n _ _ _ _ _ _ _ _ _ _ _ he hx;simp only[i9,q1];exact ih q2 h
   ·cases h
   ·rename_i e t2 d2 s2 h1 h2 hx
    cases h;obtain⟨a2,q1,q2⟩:=xd hB n _ _ _ _ _ _ _ _ _ _ _ he hx;refine⟨a2,?_,q2⟩;simp only[i9,q1];cases ex with
    | normal =>
     cases d1 with
     | nil=>exact(h1 rfl rfl).elim
     | cons d l=>exact(h2 _ _ rfl rfl).elim
    | _=>rfl
   ·cases h
structure sJ(rn:List (Nat×Nat))(bl:List g_)(F:Nat->Prop)(w:World):Prop where
 there:∀ q ∈ bl,∃ b cs',bh rn q.1=some b/\w.heap[b]? = some (.cells (List.toArray cs') q.2.2 (0,0))/\cx (bh rn) q.2.1 cs'
 inj:∀ p ∈ rn,∀ q ∈ rn,p.2=q.2->p.1=q.1
 out:∀ p ∈ rn,¬ F p.2
theorem sJ.nil{F:Nat->Prop}{w:World} : sJ [] [] F w:=⟨(λq h=>by cases h),(λq h=>by cases h),(λq h=>by cases h)⟩
theorem sJ.one{b:Nat}{cs cs':List Value}{T:TypeId}{F:Nat->Prop}{w:World}(hb:w.heap[b]? = some (.cells cs'.toArray T (0,0)))(hc:cx (bh [(4,b)]) cs cs')(hF:¬ F b):sJ [(4,b)] [(4,cs,T)] F w :=
 ⟨(λq h=>by rw[List.mem_singleton.1 h];exact⟨b,cs',rfl,hb,hc⟩),(λp hp q hq _=>by rw[List.mem_singleton.1 hp,List.mem_singleton.1 hq]),(λp hp=>by rw[List.mem_singleton.1 hp];exact hF)⟩
def dc(bl:List g_)(g:Nat):List (Nat×Obj):=(3,lV g)::bl.map (λq=>(q.1,.cells q.2.1.toArray q.2.2 (0,0)))
noncomputable def qw(m:Nat)(rn:List (Nat×Nat))(bl:List g_):Bool :=
 Nat.blt (4*m) lim&&(Nat.ble 1 m&&(rn.all (λp=>Nat.blt p.1 (4*m) && !(Nat.beq p.1 3))&&bl.all (λq=>Nat.blt q.1 (4*m)&&Nat.beq (q.1%4) 0)))
structure Left(rn:List (Nat×Nat))(d9:List g_)(g':Nat)(F:Nat->Prop)(w:World)(κ:ag)(w1:World):Prop where
 old:∀ id b,bh rn id=some b->κ id=some b
 blk:∀ q ∈ d9,q.2.1.all IB=true->∃ b,κ q.1=some b/\w1.heap[b]? = some (.cells (q.2.1.map (rH κ)).toArray q.2.2 (0,0))/\(F b\/(∃ p ∈ rn,p.2=b)\/w.heap.size<=b)
 cls:∀ q ∈ d9,∃ b c',κ q.1=some b/\w1.heap[b]? = some (.cells c' q.2.2 (0,0))/\bk κ q.2.1.toArray c'
 inj:∀ q ∈ d9,∀ q' ∈ d9,κ q.1=κ q'.1->q.1=q'.1
 gh:∃ F',aL.GR g' κ F' w1/\(∀ j,F' j->j<w1.heap.size/\(F j\/(∃ p ∈ rn,p.2=j)\/w.heap.size<=j))/\∀ q ∈ d9,∀ b,κ q.1=some b->¬ F' b
 turn:Turn (λj=>F j\/∃ p ∈ rn,p.2=j) w w1
theorem lA{l:List (Nat×Nat)}{id:Nat}(h:∀ p ∈ l,p.1≠id):bh l id=none:=by
 cases hr:bh l id with
 | none=>rfl
 | some b=>exact(h _ (f7 hr) rfl).elim
theorem ou{m:Nat}{rn:List (Nat×Nat)}{bl:List g_}(h:qw m rn bl=true):4*m<lim/\1<=m/\(∀ p ∈ rn,p.1<4*m/\p.1≠3)/\∀ q ∈ bl,q.1<4*m/\q.1%4=0:=by
 unfold qw at h;simp only[Bool.and_eq_true]at h;obtain⟨h1,h2,h3,h4⟩:=h;rw[List.all_eq_true]at h3 h4;refine⟨Nat.le_of_ble_eq_true h1,Nat.le_of_ble_eq_true h2,λp hp=>?_,λq hq=>?_⟩
 ·have:=h3 p hp
  simp only[Bool.and_eq_true]at this;refine⟨Nat.le_of_ble_eq_true this.1,λe=>?_⟩;rw[e]at this;exact absurd this.2 (by decide)
 ·have:=h4 q hq
  simp only[Bool.and_eq_true]at this;exact⟨Nat.le_of_ble_eq_true this.1,Nat.eq_of_beq_eq_true this.2⟩
theorem y9{P:Program}{m:Nat}{rn:List (Nat×Nat)}{bl:List g_}{g:Nat}{F:Nat->Prop}{w:World}(hi:qw m rn bl=true)(hb:sJ rn bl F w)(hg:aL.GR g (bh rn) F w)(hF:∀ j,F j->j<w.heap.size) :
  bY P (Rest rn F w) (bh rn) (jF (dc bl g) m).look w:=by
 obtain⟨i1,i2,i3,i4⟩:=ou hi;refine xg ?_ ?_ hb.inj hF hb.out ?_
 ·intro p hp
  rcases List.mem_cons.1 hp with rfl | hp
  ·show 3<lim;unfold lim;omega
  ·obtain⟨q,hq,rfl⟩:=List.mem_map.1 hp
   have:=(i4 q hq).1;show q.1<lim;omega
 ·intro p hp hgn
  rcases List.mem_cons.1 hp with rfl | hp
  ·cases hgn
  ·obtain⟨q,hq,rfl⟩:=List.mem_map.1 hp
   obtain⟨b,cs',h1,h2,h3⟩:=hb.there q hq;refine⟨b,_,h1,h2,rfl,cs'.toArray,rfl,by simp[h3.1],(λ_=>by simp[h3.1]),λi v v' h1 h2=>h3.2 i v v' (by simpa using h1) (by simpa using h2),λh=>?_⟩;have:=(i4 q hq).2;unfold gG at h;simp only[beq_iff_eq]at h;omega
 ·intro p hp k hk
  rcases List.mem_cons.1 hp with rfl | hp
  ·cases hk
   exact⟨rfl,lA (λp hp=>(i3 p hp).2),hg⟩
  ·obtain⟨q,hq,rfl⟩:=List.mem_map.1 hp
   cases hk
theorem ve{P:Program}{m:Nat}{rn:List (Nat×Nat)}{bl d9:List g_}{g g':Nat}{F:Nat->Prop}{w w1:World}{κ:ag}{s1:St}(hi:qw m rn bl=true)(xo:d9.all (λq=>Nat.beq (q.1%4) 0)=true)
  (gg:Goes P (Rest rn F w) (bh rn) κ (jF (dc bl g) m) s1 w w1) (hb1:∀ q ∈ d9,s1.look q.1=some (.cells q.2.1.toArray q.2.2 (0,0))) (hg1:s1.look 3=some (lV g')):Left rn d9 g' F w κ w1:=by
 obtain⟨i1,i2,i3,i4⟩:=ou hi;obtain⟨F',q1,q2,q3⟩:=xi gg hg1;rw[List.all_eq_true]at xo;have HR:∀ q ∈ d9,gG q.1=false:=λq hq=>by
  have:=Nat.eq_of_beq_eq_true (xo q hq);unfold gG;rw[this];rfl
 have rest:∀ b,¬ Rest rn F w b->F b\/(∃ p ∈ rn,p.2=b)\/w.heap.size<=b:=by
  intro b hr
  by_cases h1:F b
  ·exact .inl h1
  by_cases h2:∃ p ∈ rn,p.2=b
  ·exact .inr (.inl h2)
  rcases Nat.lt_or_ge b w.heap.size with h3 | h3
  ·exact absurd ⟨h3,h1,λp hp e=>h2 ⟨p,hp,e⟩⟩ hr
  ·exact .inr (.inr h3)
 refine⟨?_,?_,λq hq=>(by
  obtain⟨b,c',k1,k2,k3,k4⟩:=ly gg (hb1 q hq) (HR q hq)
  exact⟨b,c',k1,k2,k4⟩),?_,⟨F',q1,λj hj=>⟨(q2 j hj).1,rest j (q2 j hj).2⟩,λq hq b hk=>q3 _ _ b (hb1 q hq) hk⟩,⟨gg.below.os,gg.below.tape,gg.below.output,gg.below.size,λk hk hn=>?_⟩⟩
 ·intro id b hk
  rw[gg.ext id (.inl (by
   show id<4*m
   exact(i3 _ (f7 hk)).1))]
  exact hk
 ·intro q hq hk
  obtain⟨b,c',k1,k2,k3,k4⟩:=ly gg (hb1 q hq) (HR q hq);refine⟨b,k1,by rw[k2,xh k4 (by simpa using hk)],rest b k3⟩
 ·intro q hq q' hq' e
  obtain⟨b,c',k1,_⟩:=ly gg (hb1 q hq) (HR q hq);exact gg.rep.inj _ _ _ _ b (hb1 q hq) (hb1 q' hq') k1 (by rw[← e];exact k1)
 ·exact gg.below.block k ⟨hk,λh=>hn (.inl h),λp hp e=>hn (.inr ⟨p,hp,e⟩)⟩
noncomputable def K0:Exit->Exit->Bool
 | .normal,.normal=>true
 | .ret,.ret=>true
 | .exit i,.exit j=>Nat.beq i j
 | _,_=>false
theorem HS{e e':Exit}(h:K0 e e'=true):e=e':=by
 unfold K0 at h
 split at h
 ·rfl
 ·rfl
 ·rw[Nat.eq_of_beq_eq_true h]
 ·cases h
noncomputable def vf(ex:Exit)(live:List (Nat×Value))(d9:List g_)(g':Nat):Option cT->Bool
 | some (e,t,[],s)=>K0 e ex&&(live.all (λp=>xe 4 (t.get p.1) p.2)&&(d9.all (Ce s)&&(HO s (some g')&&d9.all (λq=>Nat.beq (q.1%4) 0))))
 | _=>false
theorem Cn{ex:Exit}{live:List (Nat×Value)}{d9:List g_}{g':Nat}{r:Option cT}(h:vf ex live d9 g' r=true) :
  ∃ t s,r=some (ex,t,[],s)/\(∀ p ∈ live,t.get p.1=p.2)/\(∀ q ∈ d9,s.look q.1=some (.cells q.2.1.toArray q.2.2 (0,0)))/\s.look 3=some (lV g')/\d9.all (λq=>Nat.beq (q.1%4) 0)=true:=by
 unfold vf at h
 split at h
 ·rename_i e t s
  simp only[Bool.and_eq_true]at h;obtain⟨h1,h2,h3,h4,h5⟩:=h
  obtain⟨_,k2,k3⟩:=u5 (r:=.bool true) (bl:=d9) (g:=some g') (v:=.bool true) (s:=s) (by
   have h0:xe 4 (.bool true) (.bool true)=true:=rfl
   simp only[qS,h0,h3,h4,Bool.and_self])
  rw[List.all_eq_true]at h2;exact⟨t,s,by rw[HS h1],λp hp=>lx _ _ _ (h2 p hp),k2,k3 _ rfl,h5⟩
 ·cases h
theorem vh{tm:List Value}{N:Nat}(h1:tm.length=N)(h2:N<=4094){β:Type}(k:TV->β):∃ t,jl tm 0 .leaf k=k t/\Env N t [] ⟨tm.toArray,[]⟩:=by
 obtain⟨t,e,he⟩:=m8 (args:=tm) (n:=N) (by omega) h2 k;refine⟨t,e,?_⟩;rw[h1,Nat.sub_self,show(Array.replicate 0 undef:Array Value) = #[] from rfl,Array.append_empty]at he;exact he
theorem FB{P:Program}(hP:P.check=.ok ())(cE:dV P)(hm:P.follows .mixedOrders=true){n m N i k:Nat}{f:FuncId}{p:List Nat}{tm:List Value}{rn:List (Nat×Nat)}{bl d9:List g_}{g g':Nat}{ex:Exit}{live:List (Nat×Value)}
  (h:dL P (λB=>iu B f p (λ_ c=>Nat.beq tm.length N&&(Nat.ble N 4094&&(qw m rn bl&&vf ex live d9 g' (jl tm 0 .leaf (λt=>fK B n N k ((flat c).drop i) t (jF (dc bl g) m)))))))=true)
  {F:Nat->Prop} {w:World} {A:Act} (hb:sJ rn bl F w) (hg:aL.GR g (bh rn) F w) (hF:∀ j,F j->j<w.heap.size) (ha:cx (bh rn) tm A.tmps.toList) (hd:A.defers=[]) {Q:Exit->Act->World->Prop}
  (hQ:∀ κ A1 w1,A1.tmps.size=N->A1.defers=[]->(∀ p ∈ live,aw κ p.2 (A1.tmps.getD p.1 undef))->Left rn d9 g' F w κ w1->Exit.then (dF P (ia P f p (i+k)) Q) Q ex A1 w1) :
  dF P (ia P f p i) Q A w:=by
 obtain⟨B,hB,rfl,hf,K1,h⟩:=fX h;simp only[Bool.and_eq_true]at h;obtain⟨h1,h2,h3,h4⟩:=h;have h1:=Nat.eq_of_beq_eq_true h1;have h2:=Nat.le_of_ble_eq_true h2;obtain⟨t,e,he⟩:=vh h1 h2 (λt=>fK B n N k (ia B.P f p i) t (jF (dc bl g) m));rw[e]at h4;obtain⟨t1,s1,r1,r2,r3,r4,r5⟩:=Cn h4;obtain⟨a1,q1,q2⟩:=nh hB n N k he r1;obtain⟨i1,i2,i3,i4⟩:=ou h3;refine va (l5 B.P n) (BG hP cE hm n).1 k q1 (λc hc=>sH (GX (sk hP hf K1)) c (List.mem_of_mem_drop hc)) (λid x y=>?_) (bh rn) A w ⟨⟨by simpa using ha.1,λi v v' a b=>ha.2 i v v' (by simpa using a) (by simpa using b)⟩,by rw[hd];exact .nil⟩ (y9 h3 hb hg hF) (λid x y=>?_) Q (λκ A1 w1 hA1 gg=>?_)
 ·rw[j_ m (dc bl g) id (λp hp=>by
   rcases List.mem_cons.1 hp with rfl | hp
   ·show 3<lim;unfold lim;omega
   ·obtain⟨q,hq,rfl⟩:=List.mem_map.1 hp
    have:=(i4 q hq).1;show q.1<lim
    omega)]
  cases hf:((dc bl g).find? λp=>p.1==id).map (·.2) with
  | none=>rfl
  | some o =>
   have x':4*m<=id:=x;rcases List.mem_cons.1 (mc hf) with e | hp
   ·cases e;omega
   ·obtain⟨q,hq,e⟩:=List.mem_map.1 hp
    cases e;have:=(i4 q hq).1;omega
 ·refine lA (λp hp e=>?_)
  have:=(i3 p hp).1;have x':4*m<=id:=x;omega
 ·have sz:A1.tmps.size=N:=by rw[← hA1.tmps.1,q2.sz]
  have df:A1.defers=[]:=by
   have:=hA1.EO;rw[q2.df]at this;generalize A1.defers=dd at this;cases this;rfl
  rw[List.drop_drop];refine hQ κ A1 w1 sz df (λp hp=>?_) (ve h3 r5 gg r3 r4);rw[← r2 p hp,q2.get p.1];exact rS hA1.tmps p.1
theorem FC{P:Program}(hP:P.check=.ok ())(cE:dV P)(hm:P.follows .mixedOrders=true){n m N i k:Nat}{f:FuncId}{p:List Nat}{tm:List Value}{rn:List (Nat×Nat)}{bl d9:List g_}{g g':Nat}{r:Value}
  (h:dL P (λB=>iu B f p (λfn c=>Nat.beq tm.length N&&(Nat.beq fn.ntmps N&&(Nat.ble N 4094&&(qw m rn bl&&((d9.all (λq=>Nat.beq (q.1%4) 0)&&isNil ((flat c).drop (i+k)))&&qS r d9 (some g') (jl tm 0 .leaf (λt=>sx B.P fn (fK B n N k ((flat c).drop i) t (jF (dc bl g) m))))))))))=true)
  {F:Nat->Prop} {w:World} {A:Act} (hb:sJ rn bl F w) (hg:aL.GR g (bh rn) F w) (hF:∀ j,F j->j<w.heap.size) (ha:cx (bh rn) tm A.tmps.toList) (hd:A.defers=[]) {R:Ending->World->Prop}
  (hQ:∀ κ v' w1,aw κ r v'->Left rn d9 g' F w κ w1->R (.returned v') w1) :
  dF P (ia P f p i) (bodyPostM Fence.wide 0 P (gH P f) R) A w:=by
 obtain⟨B,hB,rfl,hf,K1,h⟩:=fX h;simp only[Bool.and_eq_true]at h;obtain⟨h1,h0,h2,h3,⟨h5,h6⟩,h4⟩:=h;have h1:=Nat.eq_of_beq_eq_true h1;have h0:=Nat.eq_of_beq_eq_true h0;have h2:=Nat.le_of_ble_eq_true h2;obtain⟨t,e,he⟩:=vh h1 h2 (λt=>sx B.P (gH B.P f) (fK B n N k (ia B.P f p i) t (jF (dc bl g) m)));rw[e]at h4;cases hx:sx B.P (gH B.P f) (fK B n N k (ia B.P f p i) t (jF (dc bl g) m)) with
 | none=>rw[hx]at h4;cases h4
 | some x =>
 obtain⟨v,s1⟩:=x;rw[hx]at h4;obtain⟨rfl,r3,r4⟩:=u5 h4;have r4:=r4 _ rfl;obtain⟨i1,i2,i3,i4⟩:=ou h3;have hl:=l5 B.P n;obtain⟨ex,a2,s2,q1,q2⟩:∃ ex a2 s2,i9 (ev B.P n) k (ia B.P f p i) ⟨tm.toArray,[]⟩ (jF (dc bl g) m)=some (ex,a2,s2)/\gZ B.P (gH B.P f) ex a2 s2=some (v,s1):=by
  unfold sx at hx
  split at hx
  ·rename_i t d s2 hrun
   obtain⟨a1,q1,q2⟩:=nh hB n N k he hrun;rw[← h0]at q2;exact⟨_,a1,s2,q1,ot q2 hx rfl⟩
  ·rename_i t d s2 hrun
   obtain⟨a1,q1,q2⟩:=nh hB n N k he hrun;rw[← h0]at q2;exact⟨_,a1,s2,q1,ot q2 hx rfl⟩
  ·cases hx
 unfold gZ at q2
 split at q2
 case h_2=>cases q2
 rename_i hex
 split at q2
 case h_2=>cases q2
 rename_i s3 hmk;have n1:=jH hl k q1;have n2:=(fW B.P a2.defers).next hmk
 have n3:=cq B.P _ _ _ _ q2;have hwin:kG (jF (dc bl g) m) (jF (dc bl g) m).next s1.next:=λid x y=>by
  rw[j_ m (dc bl g) id (λp hp=>by
   rcases List.mem_cons.1 hp with rfl | hp
   ·show 3<lim;unfold lim;omega
   ·obtain⟨q,hq,rfl⟩:=List.mem_map.1 hp
    have:=(i4 q hq).1;show q.1<lim
    omega)]
  cases hf:((dc bl g).find? λp=>p.1==id).map (·.2) with
  | none=>rfl
  | some o =>
   have x':4*m<=id:=x;rcases List.mem_cons.1 (mc hf) with e | hp
   ·cases e;omega
   ·obtain⟨q,hq,e⟩:=List.mem_map.1 hp
    cases e;have:=(i4 q hq).1;omega
 have hfr:c6 (bh rn) (jF (dc bl g) m) s1:=λid x y=>by
  refine lA (λp hp e=>?_);have:=(i3 p hp).1;have x':4*m<=id:=x;omega
 refine va hl (BG hP cE hm n).1 k q1 (λc hc=>sH (GX (sk hP hf K1)) c (List.mem_of_mem_drop hc)) (hwin.left (Nat.le_trans n2 n3)) (bh rn) A w ⟨⟨by simpa using ha.1,λi v v' a b=>ha.2 i v v' (by simpa using a) (by simpa using b)⟩,by rw[hd];exact .nil⟩ (y9 h3 hb hg hF) (hfr.left (Nat.le_trans n2 n3)) _ (λκ A1 w1 hA1 g1=>?_);have f1:=hfr.right g1 n1;have fin:LeavesInM Fence.wide 0 B.P (gH B.P f) A1.tmps R A1.defers .returning w1:=by
  refine nW a2.defers A1.defers s2 s3 κ w1 hA1.EO hmk g1.rep (f1.left n3) (λμ w2 g2=>?_);have f2:=f1.right g2 n2;obtain⟨ν,v',w3,r1,Nr,g3⟩:=gu (nS (P:=B.P) (base:=Rest rn F w) (gH B.P f) (hA1.tmps.mono (g2.le (f1.left n3)))) g2.rep q2 f2;have hw:=kF (P:=B.P) (gH B.P f) A1.tmps w2 v' w3 r1;subst hw;exact⟨v',r1,hQ ν v' _ Nr (ve h3 h5 (g1.trans (g2.trans g3 n2 n3) n1 (Nat.le_trans n2 n3)) r3 r4)⟩
 cases ex with
 | normal =>
  rw[List.drop_drop];have h6':isNil (ia B.P f p (i+k))=true:=h6;show dF B.P (ia B.P f p (i+k)) _ A1 w1;cases hs:ia B.P f p (i+k) with
  | nil=>exact fin
  | cons c l=>rw[hs]at h6';cases h6'
 | ret=>exact fin
 | _=>cases hex
theorem sN(v':Value):∃ v:Value,∀ ι:ag,aw ι v v' :=
 match v' with
 | .bool b=>⟨_,λι=>.bool b⟩
 | .int k n=>⟨_,λι=>.int k n⟩
 | .float k n=>⟨_,λι=>.float k n⟩
 | .complex k n m=>⟨_,λι=>.junk 0 _ rfl⟩
 | .string b=>⟨_,λι=>.junk 0 _ rfl⟩
 | .pointer a=>⟨_,λι=>.junk 0 _ rfl⟩
 | .slice a n c=>⟨_,λι=>.junk 0 _ rfl⟩
 | .map a=>⟨_,λι=>.junk 0 _ rfl⟩
 | .func f a b=>⟨_,λι=>.junk 0 _ rfl⟩
 | .nilFunc=>⟨_,λι=>.junk 0 _ rfl⟩
 | .iface t v=>⟨_,λι=>.junk 0 _ rfl⟩
 | .nilIface=>⟨_,λι=>.junk 0 _ rfl⟩
 | .agg f=>by
  have h:∀ i (hi:i<f.size),∃ v:Value,∀ ι:ag,aw ι v f[i]:=λi hi=>sN f[i]
  exact⟨.agg (Array.ofFn (n:=f.size) λi=>Classical.choose (h i.1 i.2)),λι=>.agg _ _ (by simp) (λi v v' h1 h2=>by
   obtain⟨hi,rfl⟩:=Array.getElem?_eq_some_iff.1 h2;rw[Array.getElem?_ofFn,dif_pos hi]at h1;cases h1
   exact Classical.choose_spec (h i hi) ι)⟩
 | .tuple f=>by
  have h:∀ i (hi:i<f.size),∃ v:Value,∀ ι:ag,aw ι v f[i]:=λi hi=>sN f[i]
  exact⟨.tuple (Array.ofFn (n:=f.size) λi=>Classical.choose (h i.1 i.2)),λι=>.tuple _ _ (by simp) (λi v v' h1 h2=>by
   obtain⟨hi,rfl⟩:=Array.getElem?_eq_some_iff.1 h2;rw[Array.getElem?_ofFn,dif_pos hi]at h1;cases h1
   exact Classical.choose_spec (h i hi) ι)⟩
 | .chan r=>⟨_,λι=>.junk 0 _ rfl⟩
termination_by v'
decreasing_by
 all_goals
  subst_vars
  simp only[Value.agg.sizeOf_spec,Value.tuple.sizeOf_spec];have:=Array.sizeOf_get f i hi;omega
end pieces
noncomputable def kc:List ResultVar->List Nat->Bool
 | [],[]=>true
 | .tmp i::l,j::m=>Nat.beq i j&&kc l m
 | _,_=>false
theorem lB:∀ {l:List ResultVar} {m:List Nat},kc l m=true->l=m.map .tmp
 | [],[],_=>rfl
 | .tmp i::l,j::m,h=>by
  have h':(Nat.beq i j&&kc l m)=true:=h;rw[Bool.and_eq_true]at h';rw[Nat.eq_of_beq_eq_true h'.1,lB h'.2];rfl
 | [],_::_,h=>by cases h
 | .tmp i::l,[],h=>by cases h
theorem vi{P:Program}{fn:Func}{i:Nat}{T:Array Value}{w:World}(h:fn.results.toList=[.tmp i]):(results fn T).run P w=.ok (T.getD i undef) w:=by
 unfold results;rw[Array.mapM_eq_mapM_toList,h];rfl
theorem Co{P:Program}{f:FuncId}{i:Nat}(h:dL P (λB=>iu B f [] (λfn _=>kc fn.results.toList [i]))=true){R:Ending->World->Prop}{A:Act}{w:World}(hd:A.defers=[])(hR:R (.returned (A.tmps.getD i undef)) w):bodyPostM Fence.wide 0 P (gH P f) R .ret A w:=by
 obtain⟨B,_,_,hf,hb,h⟩:=fX h;show LeavesInM Fence.wide 0 P (gH P f) A.tmps R A.defers .returning w;rw[hd];exact⟨_,vi (lB h),hR⟩
theorem dY(b off n:Nat):(⟨b,off,none⟩:Addr).add n=⟨b,off+n,none⟩:=@Addr.d_ cP b off n
def FD(v:Value):Prop:=v=.slice none 0 0\/∃ b off,v=.slice (some ⟨b,off,none⟩) 0 0
theorem FD.base{v:Value}(h:FD v):∃ a:Option Addr,v=.slice a 0 0:=by
 rcases h with rfl | ⟨b,off,rfl⟩<;>exact⟨_,rfl⟩
def dG(e:TypeId)(sz:Nat)(v:Value)(n:Nat)(xs:List Value)(F:Nat->Prop)(w:World):Prop :=
 xs.length=n*sz/\((FD v/\n=0/\∀ j,¬ F j)\/
  ∃ b off c arr,v=.slice (some ⟨b,off,none⟩) n c/\(∀ j,F j↔j=b)/\w.heap[b]? = some (.cells arr e (0,0))/\(∀ i,i<n*sz->arr[off+i]? = xs[i]?)/\off+c*sz<=arr.size/\n<=c)
theorem dG.keep{e:TypeId}{sz n:Nat}{v:Value}{xs:List Value}{F:Nat->Prop}{w w':World}(h:dG e sz v n xs F w)(hk:∀ j,F j->w'.heap[j]? = w.heap[j]?):dG e sz v n xs F w':=by
 obtain⟨h1,h2 | ⟨b,off,c,arr,k1,k2,k3,k4⟩⟩:=h
 ·exact⟨h1,.inl h2⟩
 ·exact⟨h1,.inr ⟨b,off,c,arr,k1,k2,by rw[hk b ((k2 b).2 rfl)];exact k3,k4⟩⟩
theorem dG.lt{e:TypeId}{sz n:Nat}{v:Value}{xs:List Value}{F:Nat->Prop}{w:World}(h:dG e sz v n xs F w):∀ j,F j->j<w.heap.size:=by
 intro j hj;obtain⟨h1,⟨_,_,h2⟩ | ⟨b,off,c,arr,k1,k2,k3,k4⟩⟩:=h
 ·exact(h2 j hj).elim
 ·rw[(k2 j).1 hj]
  exact(Array.getElem?_eq_some_iff.1 k3).1
theorem dG.code{e:TypeId}{sz n:Nat}{v:Value}{xs:List Value}{F:Nat->Prop}{w:World}(h:dG e sz v n xs F w):∃ c,dec c=v:=by
 obtain⟨h1,⟨rfl | ⟨b,off,rfl⟩,_⟩ | ⟨b,off,c,arr,rfl,_⟩⟩:=h
 ·exact⟨_,kS⟩
 ·exact⟨_,dU b off 0 0⟩
 ·exact⟨_,dU b off n c⟩
theorem dG.leaf{e:TypeId}{sz n:Nat}{v:Value}{xs:List Value}{F:Nat->Prop}{w:World}(h:dG e sz v n xs F w):aR v=true:=by
 obtain⟨h1,⟨rfl | ⟨b,off,rfl⟩,_⟩ | ⟨b,off,c,arr,rfl,_⟩⟩:=h<;>rfl
theorem dG.nil(e:TypeId)(sz:Nat)(w:World):dG e sz (.slice none 0 0) 0 [] (λ_=>False) w:=⟨by simp,.inl ⟨.inl rfl,rfl,λ_ h=>h⟩⟩
theorem dG.append{P:Program}{t u ty e:TypeId}{i:TypeInfo}{z:Value}{v y:Value}{n m:Nat}{xs cs:List Value}{F:Nat->Prop}{w:World}(h:dG e i.size v n xs F w)(ht:P.underlying t=some (.slice e))(hi:P.info? e=some i)(hz:i.zero=some z)(hzs:z.cells.size=i.size)
  (hs:Src P i.size u y m cs w) (hb:(n+m)*i.bytes<=140737488355328) (hnm:n+m<=1000000000) :
  ∃ v' w' F',(Builtin.append_ #[t,u] ty #[v,y]).run P w=.ok v' w'/\dG e i.size v' (n+m) (xs++cs) F' w'/\Turn F w w'/\(∀ j,F' j->j<w'.heap.size/\(F j\/w.heap.size<=j)):=by
 obtain⟨hl,hv⟩:=h;have hcl:=hs.newsLen;have grow:∀ (base:Option Addr) (c:Nat),v=.slice base n c->c<n+m->(Builtin.firstCells i.size n (.slice base n c)).run P w.drew=.ok xs.toArray w.drew->
   ∃ v' w' F',(Builtin.append_ #[t,u] ty #[v,y]).run P w=.ok v' w'/\dG e i.size v' (n+m) (xs++cs) F' w'/\Turn F w w'/\(∀ j,F' j->j<w'.heap.size/\(F j\/w.heap.size<=j)):=by
  intro base c hv0 hlt hold;have hrun:=run_append_grow_src (P:=P) w t u ty e i z ht hi hz base n c xs hold y m cs hs hlt (by omega) (growslice_fits hlt hb);have hcap:=grownCap_ge w (n+m) c e;generalize grownCap w (n+m) c e=cap at hrun hcap;refine⟨.slice (some ⟨w.heap.size,0,none⟩) (n+m) cap,w.drew.alloc (.cells ((xs++cs).toArray++Builtin.zeroCells z.cells (cap-(n+m))) e),(λj=>j=w.heap.size),by rw[hv0];exact hrun,⟨by rw[List.length_append,hl,hcl,Nat.add_mul],.inr ⟨w.heap.size,0,cap,(xs++cs).toArray++Builtin.zeroCells z.cells (cap-(n+m)),rfl,λ_=>Iff.rfl,?_,?_,?_,hcap⟩⟩,⟨rfl,rfl,rfl,by simp,λk hk _=>?_⟩,λj hj=>?_⟩
  ·show(w.heap.push _)[w.heap.size]? = _
   rw[Array.getElem?_push_size]
  ·intro k hk
   rw[Nat.zero_add,Array.getElem?_append_left (by simp[hl,hcl,← Nat.add_mul];exact hk)];simp
  ·have e2:(Builtin.zeroCells z.cells (cap-(n+m))).size=(cap-(n+m))*i.size:=by simp[Builtin.zeroCells,hzs]
   rw[Array.size_append,e2];simp only[List.size_toArray,List.length_append,hl,hcl];rw[Nat.zero_add,← Nat.add_mul,← Nat.add_mul];rw[show n+m+(cap-(n+m))=cap by omega];exact Nat.le_refl _
  ·exact Below.heap_alloc _ _ _ hk
  ·rw[hj]
   exact⟨by simp,.inr (Nat.le_refl _)⟩
 rcases hv with ⟨hv,rfl,hF⟩ | ⟨b,off,c,arr,hv,hF,hb0,hx,hsz,hnc⟩
 ·by_cases hm:m=0
  ·subst hm
   have hcs:cs=[]:=List.eq_nil_of_length_eq_zero (by rw[hcl];simp);subst hcs;refine⟨v,w,F,?_,⟨by simpa using hl,.inl ⟨hv,rfl,hF⟩⟩,⟨rfl,rfl,rfl,Nat.le_refl _,λ_ _ _=>rfl⟩,λj hj=>(hF j hj).elim⟩;obtain⟨a,hv⟩:=hv.base;rw[hv];exact run_append_nothing w t u ty e i ht hi a 0 0 (Nat.le_refl _) y hs
  ·have hxs:xs=[]:=List.eq_nil_of_length_eq_zero (by rw[hl];simp)
   rcases hv with hv | ⟨b,off,hv⟩
   ·exact grow none 0 hv (by omega) (by rw[hxs];exact run_firstCells_none _ _ _ _ _)
   ·exact grow (some ⟨b,off,none⟩) 0 hv (by omega) (run_firstCells_some _ _ _ _ _ _ _ hl (λj x hj=>by rw[hxs]at hj;cases hj))
 ·by_cases hroom:n+m<=c
  ·have hnm':(n+m)*i.size<=c*i.size:=Nat.mul_le_mul_right _ hroom
   rw[Nat.add_mul]at hnm';have cell:∀ j,j<cs.length->∃ x,w.cell? ⟨b,off+n*i.size+j,none⟩=some x:=by
    intro j hj;have hlt:off+n*i.size+j<arr.size:=by omega
    exact⟨arr[off+n*i.size+j],by simp[World.cell?,hb0,Array.getElem?_eq_getElem hlt]⟩
   have hrun:=run_append_room_src (P:=P) w t u ty e i ht hi b off n c y m cs hs hroom (λj hj=>by obtain⟨x,hx⟩:=cell j hj;rw[hx];rfl) (λj hj=>by simp[World.frozen?,hb0]);obtain⟨cur,s1,s2,s3,s4⟩:=@kD cP _ _ cs (off+n*i.size) w arr hb0;refine⟨_,_,F,by rw[hv];exact hrun,⟨by rw[List.length_append,hl,hcl,Nat.add_mul],.inr ⟨b,off,c,cur,rfl,hF,s1,?_,by rw[s2];exact hsz,hroom⟩⟩,⟨?_,?_,?_,by rw[@setCells_size cP];exact Nat.le_refl _,λk _ hk=>@eo cP _ _ _ _ _ (λe=>hk ((hF k).2 e))⟩,λj hj=>⟨?_,.inl hj⟩⟩
   ·intro k hk
    by_cases hkn:k<n*i.size
    ·rw[s3 _ (by omega),hx k hkn,List.getElem?_append_left (by omega)]
    ·have e1:off+k=off+n*i.size+(k-n*i.size):=by omega
     rw[Nat.add_mul]at hk;have hlt2:k-n*i.size<cs.length:=by omega
     rw[List.getElem?_append_right (by omega),hl,e1,List.getElem?_eq_getElem hlt2];exact s4 _ _ (List.getElem?_eq_getElem hlt2) (by omega)
   ·exact(@du cP (base:=λ_=>False) (b:=b) (λh=>h) cs (off+n*i.size) w).os
   ·exact(@du cP (base:=λ_=>False) (b:=b) (λh=>h) cs (off+n*i.size) w).tape
   ·exact(@du cP (base:=λ_=>False) (b:=b) (λh=>h) cs (off+n*i.size) w).output
   ·rw[@setCells_size cP,(hF j).1 hj]
    exact(Array.getElem?_eq_some_iff.1 hb0).1
  ·refine grow (some ⟨b,off,none⟩) c hv (by omega) (run_firstCells_some _ _ _ _ _ _ _ hl (λj x hj=>?_))
   have hjl:j<n*i.size:=by
    rw[← hl];exact(List.getElem?_eq_some_iff.1 hj).1
   have:=hx j hjl;rw[hj]at this;show w.cell? ((⟨b,off,none⟩:Addr).add j)=some x;rw[dY];simp[World.cell?,hb0,this]
section
variable{P:Program}{t e:TypeId}{i:TypeInfo}{v:Value}{n:Nat}{xs:List Value}{F:Nat->Prop}{w:World}
theorem dG.len(h:dG e i.size v n xs F w)(ht:P.underlying t=some (.slice e))(ty:TypeId):(Builtin.len_ #[t] ty #[v]).run P w=.ok (.int .i64 n) w:=by
 obtain⟨h1,⟨rfl | ⟨b,off,rfl⟩,rfl,_⟩ | ⟨b,off,c,arr,rfl,_⟩⟩:=h<;>simp[Builtin.len_,run_underlying ht,goInt]
theorem dG.drop(h:dG e i.size v n xs F w)(ht:P.underlying t=some (.slice e))(hi:P.info? e=some i){kd:IntKind}{lo:Nat}(hlo:lo<=n) :
  ∃ v',(Instr.sliceAt t v (some (.int kd lo)) none none).run P w=.ok v' w/\dG e i.size v' (n-lo) (xs.drop (lo*i.size)) F w:=by
 obtain⟨h1,h2⟩:=h;have hle:=Nat.mul_le_mul_right i.size hlo;have hbd:∀ c:Nat,n<=c->(Instr.sliceBounds true n c (some (.int kd lo)) none none).run P w=.ok (lo,n,c) w:=by
  intro c hc;simp[Instr.sliceBounds,run_sliceBound,hlo,hc]
 have hs:(Instr.sliceAt t v (some (.int kd lo)) none none).run P w=(Instr.slice t v (some (.int kd lo)) none none).run P w:=by
  simp[Instr.sliceAt,run_underlying ht]
 rcases h2 with ⟨he,rfl,hF⟩ | ⟨b,off,c,arr,rfl,hF,hb0,hx,hsz,hnc⟩
 ·obtain rfl:lo=0:=by omega
  refine⟨v,?_,⟨by simp[h1],.inl ⟨he,rfl,hF⟩⟩⟩;rw[hs];rcases he with rfl | ⟨b,off,rfl⟩
  ·simp only[Instr.slice,Sem.run_bind,run_underlying ht,Result.andThen]
   rw[hbd 0 (Nat.le_refl _)];simp[sizeOf,typeInfo,hi]
  ·simp only[Instr.slice,Sem.run_bind,run_underlying ht,Result.andThen]
   rw[hbd 0 (Nat.le_refl _)];simp[sizeOf,typeInfo,hi]
 ·have hlc:=Nat.mul_le_mul_right i.size (Nat.le_trans hlo hnc)
  by_cases e1:c=lo
  ·obtain rfl:n=lo:=by omega
   subst e1;refine⟨.slice (some ⟨b,off,none⟩) 0 0,?_,⟨by simp[h1],.inr ⟨b,off,0,arr,by rw[Nat.sub_self],hF,hb0,λk hk=>by simp at hk,by omega,by omega⟩⟩⟩;rw[hs];simp only[Instr.slice,Sem.run_bind,run_underlying ht,Result.andThen];rw[hbd c (Nat.le_refl _)];simp[sizeOf,typeInfo,hi]
  ·refine⟨.slice (some ⟨b,off+lo*i.size,none⟩) (n-lo) (c-lo),?_,⟨by rw[List.length_drop,h1,Nat.sub_mul],.inr ⟨b,off+lo*i.size,c-lo,arr,rfl,hF,hb0,λk hk=>?_,?_,by omega⟩⟩⟩
   ·rw[hs]
    simp only[Instr.slice,Sem.run_bind,run_underlying ht,Result.andThen];rw[hbd c hnc];simp[sizeOf,typeInfo,hi,e1,dY]
   ·rw[Nat.sub_mul]at hk
    rw[List.getElem?_drop,Nat.add_assoc];exact hx _ (by omega)
   ·rw[Nat.sub_mul]
    omega
theorem dG.take(h:dG e i.size v n xs F w)(ht:P.underlying t=some (.slice e))(hi:P.info? e=some i){kd:IntKind}{m:Nat}(hm:m<=n) :
  ∃ v',(Instr.sliceAt t v none (some (.int kd m)) none).run P w=.ok v' w/\dG e i.size v' m (xs.take (m*i.size)) F w:=by
 obtain⟨h1,h2⟩:=h;have hle:=Nat.mul_le_mul_right i.size hm;have hs:(Instr.sliceAt t v none (some (.int kd m)) none).run P w=(Instr.slice t v none (some (.int kd m)) none).run P w:=by
  simp[Instr.sliceAt,run_underlying ht]
 rcases h2 with ⟨he,rfl,hF⟩ | ⟨b,off,c,arr,rfl,hF,hb0,hx,hsz,hnc⟩
 ·obtain rfl:m=0:=by omega
  refine⟨v,?_,⟨by simp,.inl ⟨he,rfl,hF⟩⟩⟩;rw[hs];rcases he with rfl | ⟨b,off,rfl⟩
  ·simp[Instr.slice,run_underlying ht,Instr.sliceBounds,run_sliceBound,sizeOf,typeInfo,hi]
  ·simp[Instr.slice,run_underlying ht,Instr.sliceBounds,run_sliceBound,sizeOf,typeInfo,hi]
 ·refine⟨.slice (some ⟨b,off,none⟩) m c,?_,⟨by rw[List.length_take,h1];omega,.inr ⟨b,off,c,arr,rfl,hF,hb0,λk hk=>?_,hsz,by omega⟩⟩⟩
  ·rw[hs]
   have hmc:(m:Int)<=c:=by omega
   simp[Instr.slice,run_underlying ht,Instr.sliceBounds,run_sliceBound,sizeOf,typeInfo,hi,hmc,dY]
  ·rw[List.getElem?_take,if_pos hk]
   exact hx k (by omega)
theorem dG.at(h:dG e i.size v n xs F w)(ht:P.underlying t=some (.slice e))(hi:P.info? e=some i){kd:IntKind}{k:Nat}(hk:k<n) :
  ∃ b off c,v=.slice (some ⟨b,off,none⟩) n c/\(Instr.indexAt t v (.int kd k)).run P w=.ok (.pointer (some ⟨b,off+k*i.size,none⟩)) w/\F b/\∀ j,j<i.size->w.cell? ⟨b,off+k*i.size+j,none⟩=xs[k*i.size+j]?/\w.frozen? ⟨b,off+k*i.size+j,none⟩=false:=by
 obtain⟨h1,h2⟩:=h;rcases h2 with ⟨_,rfl,hF⟩ | ⟨b,off,c,arr,rfl,hF,hb0,hx,hsz,hnc⟩
 ·omega
 ·refine⟨b,off,c,rfl,?_,(hF b).2 rfl,λj hj=>?_⟩
  ·have hc:(0:Int)<=(k:Int)/\(k:Int)<(n:Int):=⟨by omega,by omega⟩
   simp[Instr.indexAt,run_underlying ht,hc,sizeOf,typeInfo,hi,dY,asIntOf];intro h;omega
  ·have hlt:k*i.size+j<n*i.size:=by
    have:=Nat.mul_le_mul_right i.size (show k+1<=n by omega);rw[Nat.add_mul]at this;omega
   refine⟨?_,by simp[World.frozen?,hb0]⟩;rw[← hx _ hlt];simp[World.cell?,hb0,Nat.add_assoc]
theorem dG.set{sz b off c k:Nat}(h:dG e sz v n xs F w)(hv:v=.slice (some ⟨b,off,none⟩) n c)(hk:k<n*sz)(x:Value):dG e sz v n (xs.set k x) F (w.setCell ⟨b,off+k,none⟩ x):=by
 obtain⟨h1,h2⟩:=h;rcases h2 with ⟨_,rfl,hF⟩ | ⟨b',off',c',arr,hv',hF,hb0,hx,hsz,hnc⟩
 ·simp at hk
 ·rw[hv]at hv'
  cases hv';have hn:=Nat.mul_le_mul_right sz hnc;refine⟨by simpa using h1,.inr ⟨b,off,c,arr.setIfInBounds (off+k) x,hv,hF,@heap_setCell_same cP _ _ _ _ _ _ hb0,λi hi=>?_,by simpa using hsz,hnc⟩⟩;rw[Array.getElem?_setIfInBounds,List.getElem?_set]
  by_cases e:k=i
  ·subst e
   rw[if_pos rfl,if_pos rfl,if_pos (by omega),if_pos (by omega)]
  ·rw[if_neg (by omega),if_neg e]
   exact hx i hi
end
structure jI(l:List aK)(Fs:List (Nat->Prop))(ι:ag)(F:Nat->Prop)(w:World):Prop where
 len:Fs.length=l.length
 holds:∀ (i:Nat) a f,l[i]? = some a->Fs[i]? = some f->a.p ι f w
 apart:∀ (i j:Nat) f f',i≠j->Fs[i]? = some f->Fs[j]? = some f'->∀ x,f x->¬ f' x
 all:∀ x,F x↔∃ (i:Nat) (f:Nat->Prop),Fs[i]? = some f/\f x
def star(l:List aK):aK where
 p:=λι F w=>∃ Fs,jI l Fs ι F w
 keep:=λι F w w' hk ⟨Fs,h⟩=>⟨Fs,h.len,λi a f h1 h2=>a.keep ι f w w' (λj hj=>hk j ((h.all j).2 ⟨i,f,h2,hj⟩)) (h.holds i a f h1 h2),h.apart,h.all⟩
 mono:=λι κ F w hk ⟨Fs,h⟩=>⟨Fs,h.len,λi a f h1 h2=>a.mono ι κ f w hk (h.holds i a f h1 h2),h.apart,h.all⟩
theorem jI.turn{l l':List aK}{Fs FE:List (Nat->Prop)}{ι κ:ag}{F:Nat->Prop}{w w':World}(h:jI l Fs ι F w)(lt:∀ x,F x->x<w.heap.size)(C:Nat->Prop)(hle:ib ι κ)(hl:l'.length=l.length)(hf:FE.length=Fs.length)
  (same:∀ i:Nat,¬ C i->l'[i]? = l[i]?/\FE[i]? = Fs[i]?) (new:∀ (i:Nat) a f,C i->l'[i]? = some a->FE[i]? = some f->a.p κ f w')
  (vj:∀ (i j:Nat) f f',C i->C j->i≠j->FE[i]? = some f->FE[j]? = some f'->∀ x,f x->¬ f' x)
  (sub:∀ (i:Nat) f,C i->FE[i]? = some f->∀ x,f x->x<w'.heap.size/\((∃ (j:Nat) (f0:Nat->Prop),C j/\Fs[j]? = some f0/\f0 x)\/w.heap.size<=x))
  (ht:Turn (λx=>∃ (j:Nat) (f0:Nat->Prop),C j/\Fs[j]? = some f0/\f0 x) w w') :
  ∃ F',jI l' FE κ F' w'/\Turn F w w'/\∀ x,F' x->x<w'.heap.size/\(F x\/w.heap.size<=x):=by
 have hlt:∀ (i:Nat) f,Fs[i]? = some f->∀ x,f x->x<w.heap.size:=λi f hi x hx=>lt x ((h.all x).2 ⟨i,f,hi,hx⟩)
 refine⟨λx=>∃ (i:Nat) (f:Nat->Prop),FE[i]? = some f/\f x,⟨by rw[hf,hl,h.len],λi a f h1 h2=>?_,λi j f f' hij h1 h2 x hx hx'=>?_,λx=>Iff.rfl⟩,⟨ht.os,ht.tape,ht.output,ht.size,λx hx hn=>ht.block x hx (λ⟨j,f0,_,q2,q3⟩=>hn ((h.all x).2 ⟨j,f0,q2,q3⟩))⟩,?_⟩
 ·by_cases hc:C i
  ·exact new i a f hc h1 h2
  ·obtain⟨s1,s2⟩:=same i hc
   rw[s1]at h1;rw[s2]at h2;refine a.mono ι κ f w' hle (a.keep ι f w w' (λx hx=>ht.block x (hlt i f h2 x hx) ?_) (h.holds i a f h1 h2));rintro⟨j,f0,q1,q2,q3⟩;exact h.apart i j f f0 (λe=>hc (e▸q1)) h2 q2 x hx q3
 ·by_cases hc:C i
  ·by_cases hc':C j
   ·exact vj i j f f' hc hc' hij h1 h2 x hx hx'
   ·rw[(same j hc').2]at h2
    rcases(sub i f hc h1 x hx).2 with ⟨j0,f0,q1,q2,q3⟩ | q
    ·exact h.apart j0 j f0 f' (λe=>hc' (e▸q1)) q2 h2 x q3 hx'
    ·have:=hlt j f' h2 x hx'
     omega
  ·rw[(same i hc).2]at h1
   by_cases hc':C j
   ·rcases(sub j f' hc' h2 x hx').2 with ⟨j0,f0,q1,q2,q3⟩ | q
    ·exact h.apart i j0 f f0 (λe=>hc (e▸q1)) h1 q2 x hx q3
    ·have:=hlt i f h1 x hx
     omega
   ·rw[(same j hc').2]at h2
    exact h.apart i j f f' hij h1 h2 x hx hx'
 ·rintro x ⟨i,f,h1,hx⟩
  by_cases hc:C i
  ·refine⟨(sub i f hc h1 x hx).1,(sub i f hc h1 x hx).2.imp (λ⟨j,f0,_,q2,q3⟩=>(h.all x).2 ⟨j,f0,q2,q3⟩) id⟩
  ·rw[(same i hc).2]at h1
   have:=hlt i f h1 x hx;exact⟨Nat.lt_of_lt_of_le this ht.size,.inl ((h.all x).2 ⟨i,f,h1,hx⟩)⟩
theorem gR{α:Type}{l:List α}{i:Nat}(hi:i<l.length)(x:α)(j:Nat):(l.set i x)[j]? = if i=j then some x else l[j]?:=by
 rw[List.getElem?_set]
 by_cases e:i=j
 ·subst e;simp[hi]
 ·simp[e]
theorem jI.one{l:List aK}{Fs:List (Nat->Prop)}{ι κ:ag}{F f:Nat->Prop}{w w':World}(h:jI l Fs ι F w)(lt:∀ x,F x->x<w.heap.size){i:Nat}(hi:Fs[i]? = some f)(hle:ib ι κ)(a':aK)(f':Nat->Prop)(ha:a'.p κ f' w')(ht:Turn f w w')
  (hs:∀ x,f' x->x<w'.heap.size/\(f x\/w.heap.size<=x)):∃ F',(star (l.set i a')).p κ F' w'/\Turn F w w'/\∀ x,F' x->x<w'.heap.size/\(F x\/w.heap.size<=x):=by
 have hlt:i<Fs.length:=(List.getElem?_eq_some_iff.1 hi).1;have hlt':i<l.length:=by rw[← h.len];exact hlt
 obtain⟨F',h1,h2⟩:=h.turn (l':=l.set i a') (FE:=Fs.set i f') lt (λj=>j=i) hle (by simp) (by simp) (λj hj=>by rw[gR hlt',gR hlt,if_neg (λe=>hj e.symm),if_neg (λe=>hj e.symm)];exact⟨rfl,rfl⟩)
  (λj a g hj h1 h2=>by
   subst hj;rw[gR hlt',if_pos rfl]at h1;rw[gR hlt,if_pos rfl]at h2;cases h1;cases h2
   exact ha)
  (λj k g g' hj hk hjk=>absurd (hj.trans hk.symm) hjk)
  (λj g hj h1 x hx=>by
   subst hj;rw[gR hlt,if_pos rfl]at h1;cases h1
   exact⟨(hs x hx).1,(hs x hx).2.imp (λhf=>⟨j,f,rfl,hi,hf⟩) id⟩)
  ⟨ht.os,ht.tape,ht.output,ht.size,λx hx hn=>ht.block x hx (λhf=>hn ⟨i,f,rfl,hi,hf⟩)⟩
 exact⟨F',⟨_,h1⟩,h2⟩
end Go.Ev
