/- Part of a proof: see the last text. -/
import Derived.Test.YtkmccgombmogmaaGreatZf11
import Derived.Maps.Range
import Derived.Maps.Views
set_option linter.unusedSectionVars false
set_option linter.unusedSimpArgs false
set_option linter.unusedVariables false
namespace Go.Ev
open Go.RowKit
def flat:Code->List Code
 | .seq x y=>flat x++flat y
 | c=>[c]
def inner:Nat->Code->Code
 | 0,.block _ x=>x
 | 0,.loop x=>x
 | 0,.scope x=>x
 | 0,.cond _ x _=>x
 | 1,.cond _ _ y=>y
 | _,c=>c
def JQ:List Nat->Code->Code
 | [],c=>c
 | i::p,c=>JQ p (inner (i%2) ((flat c).getD (i / 2) .skip))
theorem AE(p q:List Nat)(c:Code):JQ (p++q) c=JQ q (JQ p c):=by
 induction p generalizing c with
 | nil=>rfl
 | cons i p ih=>exact ih _
theorem JR(P:Program):bU P .skip:=⟨default,[],[],rfl⟩
theorem FQ{P:Program}{i:Nat}{c:Code}(h:bU P c):bU P (inner i c):=by
 letI:bB:=dD;unfold inner
 split
 ·exact h.block
 ·exact h.loop
 ·exact h.scope
 ·exact h.cond.1
 ·exact h.cond.2
 ·exact h
theorem wj{P:Program} : ∀ {c:Code},bU P c->∀ x ∈ flat c,bU P x:=by
 letI:bB:=dD;intro c
 induction c with
 | seq x y Oc ihy =>
  intro h z hz;rcases List.mem_append.1 hz with hz | hz
  ·exact Oc h.seq.1 z hz
  ·exact ihy h.seq.2 z hz
 | _=>intro h z hz;rw[List.mem_singleton.1 hz];exact h
theorem JS{P:Program}{l:List Code}(h:∀ x ∈ l,bU P x)(i:Nat):bU P (l.getD i .skip):=by
 rw[List.getD_eq_getElem?_getD];cases hi:l[i]? with
 | none=>exact JR P
 | some x=>exact h x (List.mem_of_getElem? hi)
theorem yB{P:Program} : ∀ {p:List Nat} {c:Code},bU P c->bU P (JQ p c):=by
 intro p
 induction p with
 | nil=>exact λh=>h
 | cons i p ih=>exact λh=>ih (FQ (JS (wj h) _))
def kA(P:Program):List Code->(Exit->Act->World->Prop)->Act->World->Prop
 | [],Q,a,w=>Q .normal a w
 | c::cs,Q,a,w=>c.wpIn Fence.wide 0 P (Exit.then (kA P cs Q) Q) a w
theorem JT{P:Program} : ∀ {c:Code} {cs:List Code} {Q:Exit->Act->World->Prop} {a:Act} {w:World},kA P (flat c++cs) Q a w->c.wpIn Fence.wide 0 P (Exit.then (kA P cs Q) Q) a w:=by
 intro c
 induction c with
 | seq x y Oc ihy =>
  intro cs Q a w h;rw[flat,List.append_assoc]at h;refine wpIn_seq (wpIn_mono (Oc h) (λe a w he=>?_));cases e with
  | normal=>exact ihy he
  | _=>exact he
 | _=>exact λh=>h
theorem oH{P:Program}{c:Code}{Q:Exit->Act->World->Prop}{a:Act}{w:World}(h:kA P (flat c) Q a w):c.wpIn Fence.wide 0 P Q a w:=by
 refine wpIn_mono (JT (cs:=[]) (by rw[List.append_nil];exact h)) (λe a w he=>?_);cases e<;>exact he
def kV(P:Program)(f:FuncId):Func:=(P.funcs[f]?).getD default
def pQ(P:Program)(f:FuncId):Code:=(kV P f).body.getD .skip
abbrev place(P:Program)(f:FuncId)(p:List Nat):Code:=JQ p (pQ P f)
noncomputable def kW(B:Base)(f:FuncId)(p:List Nat)(k:Func->Code->Bool):Bool :=
 match B.F.get f with
 | some fn=>(match fn.body with | some body=>k fn (JQ p body) | none=>false)
 | none=>false
theorem kX{P:Program}{f:FuncId}{p:List Nat}{k:Base->Func->Code->Bool}(h:dS P (λB=>kW B f p (k B))=true) :
  ∃ B,ql B/\B.P=P/\P.funcs[f]? = some (kV P f)/\(kV P f).body=some (pQ P f)/\k B (kV P f) (place P f p)=true:=by
 letI:bB:=dD;obtain⟨B,hB,Ot,e⟩:=rG P (λB=>kW B f p (k B));rw[e]at h;subst Ot;unfold kW at h
 split at h
 ·rename_i fn hf
  have hf':=hB.F _ _ hf;have e1:kV B.P f=fn:=by unfold kV;rw[hf'];rfl
  split at h
  ·rename_i body hb
   have e2:pQ B.P f=body:=by unfold pQ;rw[e1,hb];rfl
   exact⟨B,hB,rfl,by rw[e1];exact hf',by rw[e1,e2];exact hb,by rw[e1];unfold place;rw[e2];exact h⟩
  ·cases h
 ·cases h
abbrev mJ(P:Program)(f:FuncId)(p:List Nat)(i:Nat):List Code:=(flat (place P f p)).drop i
noncomputable def Lt(id:Nat):List Code->Bool
 | .block i _::_=>Nat.beq i id
 | _=>false
noncomputable def AF:List Code->Bool
 | .loop _::_=>true
 | _=>false
noncomputable def isNil:List Code->Bool
 | []=>true
 | _=>false
theorem yC{P:Program}{f:FuncId}{p:List Nat}{i:Nat}{c:Code}{l:List Code}(h:mJ P f p i=c::l):place P f (p++[2*i])=inner 0 c/\l=mJ P f p (i+1):=by
 unfold place;rw[AE];have h1:(flat (place P f p))[i]? = some c:=by
  have:=congrArg List.head? h;rw[List.head?_drop]at this;exact this
 refine⟨?_,?_⟩
 ·show inner (2*i%2) ((flat (JQ p (pQ P f))).getD (2*i / 2) .skip)=_
  rw[Nat.mul_mod_right,Nat.mul_div_cancel_left _ (by omega),List.getD_eq_getElem?_getD];have h1':(flat (JQ p (pQ P f)))[i]? = some c:=h1;rw[h1'];rfl
 ·have:=congrArg List.tail h
  rw[List.tail_drop]at this;exact this.symm
theorem FSq{P:Program}{f:FuncId}{p:List Nat}{i id:Nat}(h:dS P (λB=>kW B f p (λ_ c=>Lt id ((flat c).drop i)))=true){Q:Exit->Act->World->Prop}{a:Act}{w:World}
  (hw:kA P (mJ P f (p++[2*i]) 0) (Exit.inBlock id (Exit.then (kA P (mJ P f p (i+1)) Q) Q)) a w):kA P (mJ P f p i) Q a w:=by
 obtain⟨B,_,_,_,_,h⟩:=kX h;have h':Lt id (mJ P f p i)=true:=h;cases hs:mJ P f p i with
 | nil=>rw[hs]at h';cases h'
 | cons c l =>
  rw[hs]at h';obtain⟨e1,e2⟩:=yC hs;cases c with
  | block k x =>
   have hk:=Nat.eq_of_beq_eq_true (show Nat.beq k id=true from h');subst hk;rw[e2];refine wpIn_block (oH ?_);have:mJ P f (p++[2*i]) 0=flat x:=by
    show(flat (place P f (p++[2*i]))).drop 0=_;rw[e1];rfl
   rw[← this];exact hw
  | _=>cases h'
theorem JU{P:Program}{f:FuncId}{p:List Nat}{i:Nat}(h:dS P (λB=>kW B f p (λ_ c=>AF ((flat c).drop i)))=true){Q:Exit->Act->World->Prop}{a:Act}{w:World}
  (hw:(Code.loop (place P f (p++[2*i]))).wpIn Fence.wide 0 P (Exit.then (kA P (mJ P f p (i+1)) Q) Q) a w):kA P (mJ P f p i) Q a w:=by
 obtain⟨B,_,_,_,_,h⟩:=kX h;have h':AF (mJ P f p i)=true:=h;cases hs:mJ P f p i with
 | nil=>rw[hs]at h';cases h'
 | cons c l =>
  rw[hs]at h';obtain⟨e1,e2⟩:=yC hs;cases c with
  | loop x =>
   rw[e2];have Jb:place P f (p++[2*i])=x:=e1;rw[Jb]at hw;exact hw
  | _=>cases h'
theorem JV{P:Program}{f:FuncId}{p:List Nat}{i:Nat}(h:dS P (λB=>kW B f p (λ_ c=>isNil ((flat c).drop i)))=true){Q:Exit->Act->World->Prop}{a:Act}{w:World}(hw:Q .normal a w):kA P (mJ P f p i) Q a w:=by
 obtain⟨B,_,_,_,_,h⟩:=kX h;have h':isNil (mJ P f p i)=true:=h;cases hs:mJ P f p i with
 | nil=>exact hw
 | cons c l=>rw[hs]at h';cases h'
theorem AG{P:Program}{f:FuncId}{N:Nat}{args:Array Value}{w:World}{R:Ending->World->Prop}(h:dS P (λB=>kW B f [] (λfn _=>Nat.beq fn.ntmps N))=true)
  (hw:kA P (mJ P f [] 0) (bodyPostM Fence.wide 0 P (kV P f) R) { tmps:=args++Array.replicate (N-args.size) undef,defers:=[] } w):Calls P f args w R:=by
 obtain⟨B,_,_,hf,hb,h⟩:=kX h;rw[← Nat.eq_of_beq_eq_true h]at hw;exact callsIn_wide.1 (callsIn_of_wp_marks (F:=Fence.wide) (n:=0) hf hb trivial (oH hw))
section pieces
variable[bB]
def kY(run:Runner):Nat->List Code->Act->St->Option (Exit×Act×St)
 | 0,_,a,s=>some (.normal,a,s)
 | k+1,c::cs,a,s=>(match run none c a s with | some (.normal,a1,s1)=>kY run k cs a1 s1 | r=>r)
 | _+1,[],_,_=>none
theorem l7{run:Runner}(hl:dM run):∀ (k:Nat) {cs:List Code} {a a1:Act} {s s1:St} {e:Exit},kY run k cs a s=some (e,a1,s1)->s.next<=s1.next
 | 0,cs,a,a1,s,s1,e,h=>by cases h;exact Nat.le_refl _
 | k+1,c::cs,a,a1,s,s1,e,h=>by
  simp only[kY]at h
  split at h
  ·rename_i a2 s2 hx
   exact Nat.le_trans (hl.next hx) (l7 hl k h)
  ·exact hl.next h
 | k+1,[],a,a1,s,s1,e,h=>by cases h
theorem yD{P:Program}{base:Nat->Prop}{run:Runner}(hl:dM run)(hrun:CZ P base run):∀ (k:Nat) {cs:List Code} {a a1:Act} {s s1:St} {ex:Exit},kY run k cs a s=some (ex,a1,s1)->(∀ c ∈ cs,bU P c)->m6 s s.next s1.next->
  ∀ (ι:am) (A:Act) (w:World),cA ι a A->dL P base ι s.look w->eA ι s s1->∀ Q:Exit->Act->World->Prop,(∀ κ A1 w1,cA κ a1 A1->Goes P base ι κ s s1 w w1->Exit.then (kA P (cs.drop k) Q) Q ex A1 w1)->kA P cs Q A w:=by
 intro k
 induction k with
 | zero =>
  intro cs a a1 s s1 ex h hco hwin ι A w hA hr hfr Q hQ;cases h;exact hQ ι A w hA (Goes.refl hr)
 | succ k ih =>
  intro cs a a1 s s1 ex h hco hwin ι A w hA hr hfr Q hQ;cases cs with
  | nil=>cases h
  | cons c cs =>
   simp only[kY]at h
   split at h
   ·rename_i a2 s2 hx
    have n1:=hl.next hx
    have n2:=l7 hl k h;refine hrun none c a s _ a2 s2 hx (hco c (List.mem_cons_self ..)) (hwin.left n2) ι none A w trivial hA hr (hfr.left n2) _ (λκ A1 w1 hA1 g=>?_);exact ih h (λc hc=>hco c (List.mem_cons_of_mem _ hc)) (hl.win hx hwin n2) κ A1 w1 hA1 g.rep (hfr.right g n1) Q (λμ A2 w2 hA2 g2=>hQ μ A2 w2 hA2 (g.trans g2 n1 n2))
   ·rename_i hne
    refine hrun none c a s _ a1 s1 h (hco c (List.mem_cons_self ..)) hwin ι none A w trivial hA hr hfr _ (λκ A1 w1 hA1 g=>?_);have:=hQ κ A1 w1 hA1 g;cases ex with
    | normal=>exact(hne _ _ h).elim
    | _=>exact this
noncomputable def iq(B:Base)(n N:Nat):Nat->List Code->TV->St->Option dY
 | 0,_,t,s=>some (.normal,t,[],s)
 | k+1,c::cs,t,s=>(match tO B n none N c t [] s with | some (.normal,t1,[],s1)=>iq B n N k cs t1 s1 | some (.normal,_,_::_,_)=>none | some (e,t1,d1,s1)=>some (e,t1,d1,s1) | none=>none)
 | _+1,[],_,_=>none
theorem pR{B:Base}(hB:ql B)(n N:Nat):∀ (k:Nat) {cs:List Code} {t t1:TV} {a:Act} {s s1:St} {ex:Exit} {d1:List Deferred},Env N t [] a->iq B n N k cs t s=some (ex,t1,d1,s1)->∃ a1,kY (ev B.P n) k cs a s=some (ex,a1,s1)/\Env N t1 d1 a1:=by
 intro k
 induction k with
 | zero=>intro cs t t1 a s s1 ex d1 he h;cases h;exact⟨a,rfl,he⟩
 | succ k ih =>
  intro cs t t1 a s s1 ex d1 he h;cases cs with
  | nil=>cases h
  | cons c cs =>
   simp only[iq]at h
   split at h
   ·rename_i t2 s2 hx
    obtain⟨a2,q1,q2⟩:=vW hB n _ _ _ _ _ _ _ _ _ _ _ he hx;simp only[kY,q1];exact ih q2 h
   ·cases h
   ·rename_i e t2 d2 s2 h1 h2 hx
    cases h;obtain⟨a2,q1,q2⟩:=vW hB n _ _ _ _ _ _ _ _ _ _ _ he hx;refine⟨a2,?_,q2⟩;simp only[kY,q1];cases ex with
    | normal =>
     cases d1 with
     | nil=>exact(h1 rfl rfl).elim
     | cons d l=>exact(h2 _ _ rfl rfl).elim
    | _=>rfl
   ·cases h
structure wk(rn:List (Nat×Nat))(bl:List iA)(F:Nat->Prop)(w:World):Prop where
 there:∀ q ∈ bl,∃ b cs',bL rn q.1=some b/\w.heap[b]? = some (.cells (List.toArray cs') q.2.2 (0,0))/\dW (bL rn) q.2.1 cs'
 inj:∀ p ∈ rn,∀ q ∈ rn,p.2=q.2->p.1=q.1
 out:∀ p ∈ rn,¬ F p.2
theorem wk.nil{F:Nat->Prop}{w:World} : wk [] [] F w:=⟨(λq h=>by cases h),(λq h=>by cases h),(λq h=>by cases h)⟩
theorem wk.one{b:Nat}{cs cs':List Value}{T:TypeId}{F:Nat->Prop}{w:World}(hb:w.heap[b]? = some (.cells cs'.toArray T (0,0)))(hc:dW (bL [(4,b)]) cs cs')(hF:¬ F b):wk [(4,b)] [(4,cs,T)] F w :=
 ⟨(λq h=>by rw[List.mem_singleton.1 h];exact⟨b,cs',rfl,hb,hc⟩),(λp hp q hq _=>by rw[List.mem_singleton.1 hp,List.mem_singleton.1 hq]),(λp hp=>by rw[List.mem_singleton.1 hp];exact hF)⟩
def eG(bl:List iA)(g:Nat):List (Nat×Obj):=(3,iG g)::bl.map (λq=>(q.1,.cells q.2.1.toArray q.2.2 (0,0)))
noncomputable def tQ(m:Nat)(rn:List (Nat×Nat))(bl:List iA):Bool :=
 Nat.blt (4*m) lim&&(Nat.ble 1 m&&(rn.all (λp=>Nat.blt p.1 (4*m) && !(Nat.beq p.1 3))&&bl.all (λq=>Nat.blt q.1 (4*m)&&Nat.beq (q.1%4) 0)))
structure Left(rn:List (Nat×Nat))(fX:List iA)(g':Nat)(F:Nat->Prop)(w:World)(κ:am)(w1:World):Prop where
 old:∀ id b,bL rn id=some b->κ id=some b
 blk:∀ q ∈ fX,q.2.1.all ME=true->∃ b,κ q.1=some b/\w1.heap[b]? = some (.cells (q.2.1.map (tw κ)).toArray q.2.2 (0,0))/\(F b\/(∃ p ∈ rn,p.2=b)\/w.heap.size<=b)
 cls:∀ q ∈ fX,∃ b c',κ q.1=some b/\w1.heap[b]? = some (.cells c' q.2.2 (0,0))/\bZ κ q.2.1.toArray c'
 inj:∀ q ∈ fX,∀ q' ∈ fX,κ q.1=κ q'.1->q.1=q'.1
 gh:∃ F',bB.GR g' κ F' w1/\(∀ j,F' j->j<w1.heap.size/\(F j\/(∃ p ∈ rn,p.2=j)\/w.heap.size<=j))/\∀ q ∈ fX,∀ b,κ q.1=some b->¬ F' b
 turn:Turn (λj=>F j\/∃ p ∈ rn,p.2=j) w w1
theorem nL{l:List (Nat×Nat)}{id:Nat}(h:∀ p ∈ l,p.1≠id):bL l id=none:=by
 cases hr:bL l id with
 | none=>rfl
 | some b=>exact(h _ (gF hr) rfl).elim
theorem qP{m:Nat}{rn:List (Nat×Nat)}{bl:List iA}(h:tQ m rn bl=true):4*m<lim/\1<=m/\(∀ p ∈ rn,p.1<4*m/\p.1≠3)/\∀ q ∈ bl,q.1<4*m/\q.1%4=0:=by
 unfold tQ at h;simp only[Bool.and_eq_true]at h;obtain⟨h1,h2,h3,h4⟩:=h;rw[List.all_eq_true]at h3 h4;refine⟨Nat.le_of_ble_eq_true h1,Nat.le_of_ble_eq_true h2,λp hp=>?_,λq hq=>?_⟩
 ·have:=h3 p hp
  simp only[Bool.and_eq_true]at this;refine⟨Nat.le_of_ble_eq_true this.1,λe=>?_⟩;rw[e]at this;exact absurd this.2 (by decide)
 ·have:=h4 q hq
  simp only[Bool.and_eq_true]at this;exact⟨Nat.le_of_ble_eq_true this.1,Nat.eq_of_beq_eq_true this.2⟩
theorem B0{P:Program}{m:Nat}{rn:List (Nat×Nat)}{bl:List iA}{g:Nat}{F:Nat->Prop}{w:World}(hi:tQ m rn bl=true)(hb:wk rn bl F w)(hg:bB.GR g (bL rn) F w)(hF:∀ j,F j->j<w.heap.size) :
  dL P (Rest rn F w) (bL rn) (fB (eG bl g) m).look w:=by
 obtain⟨i1,i2,i3,i4⟩:=qP hi;refine rL ?_ ?_ hb.inj hF hb.out ?_
 ·intro p hp
  rcases List.mem_cons.1 hp with rfl | hp
  ·show 3<lim;unfold lim;omega
  ·obtain⟨q,hq,rfl⟩:=List.mem_map.1 hp
   have:=(i4 q hq).1;show q.1<lim;omega
 ·intro p hp hgn
  rcases List.mem_cons.1 hp with rfl | hp
  ·cases hgn
  ·obtain⟨q,hq,rfl⟩:=List.mem_map.1 hp
   obtain⟨b,cs',h1,h2,h3⟩:=hb.there q hq;refine⟨b,_,h1,h2,rfl,cs'.toArray,rfl,by simp[h3.1],(λ_=>by simp[h3.1]),λi v v' h1 h2=>h3.2 i v v' (by simpa using h1) (by simpa using h2),λh=>?_⟩;have:=(i4 q hq).2;unfold iV at h;simp only[beq_iff_eq]at h;omega
 ·intro p hp k hk
  rcases List.mem_cons.1 hp with rfl | hp
  ·cases hk
   exact⟨rfl,nL (λp hp=>(i3 p hp).2),hg⟩
  ·obtain⟨q,hq,rfl⟩:=List.mem_map.1 hp
   cases hk
theorem yE{P:Program}{m:Nat}{rn:List (Nat×Nat)}{bl fX:List iA}{g g':Nat}{F:Nat->Prop}{w w1:World}{κ:am}{s1:St}(hi:tQ m rn bl=true)(AH:fX.all (λq=>Nat.beq (q.1%4) 0)=true)
  (gg:Goes P (Rest rn F w) (bL rn) κ (fB (eG bl g) m) s1 w w1) (hb1:∀ q ∈ fX,s1.look q.1=some (.cells q.2.1.toArray q.2.2 (0,0))) (hg1:s1.look 3=some (iG g')):Left rn fX g' F w κ w1:=by
 obtain⟨i1,i2,i3,i4⟩:=qP hi;obtain⟨F',q1,q2,q3⟩:=rN gg hg1;rw[List.all_eq_true]at AH;have MS:∀ q ∈ fX,iV q.1=false:=λq hq=>by
  have:=Nat.eq_of_beq_eq_true (AH q hq);unfold iV;rw[this];rfl
 have rest:∀ b,¬ Rest rn F w b->F b\/(∃ p ∈ rn,p.2=b)\/w.heap.size<=b:=by
  intro b hr
  by_cases h1:F b
  ·exact .inl h1
  by_cases h2:∃ p ∈ rn,p.2=b
  ·exact .inr (.inl h2)
  rcases Nat.lt_or_ge b w.heap.size with h3 | h3
  ·exact absurd ⟨h3,h1,λp hp e=>h2 ⟨p,hp,e⟩⟩ hr
  ·exact .inr (.inr h3)
 refine⟨?_,?_,λq hq=>(by
  obtain⟨b,c',k1,k2,k3,k4⟩:=kS gg (hb1 q hq) (MS q hq)
  exact⟨b,c',k1,k2,k4⟩),?_,⟨F',q1,λj hj=>⟨(q2 j hj).1,rest j (q2 j hj).2⟩,λq hq b hk=>q3 _ _ b (hb1 q hq) hk⟩,⟨gg.below.os,gg.below.tape,gg.below.output,gg.below.size,λk hk hn=>?_⟩⟩
 ·intro id b hk
  rw[gg.ext id (.inl (by
   show id<4*m
   exact(i3 _ (gF hk)).1))]
  exact hk
 ·intro q hq hk
  obtain⟨b,c',k1,k2,k3,k4⟩:=kS gg (hb1 q hq) (MS q hq);refine⟨b,k1,by rw[k2,rM k4 (by simpa using hk)],rest b k3⟩
 ·intro q hq q' hq' e
  obtain⟨b,c',k1,_⟩:=kS gg (hb1 q hq) (MS q hq);exact gg.rep.inj _ _ _ _ b (hb1 q hq) (hb1 q' hq') k1 (by rw[← e];exact k1)
 ·exact gg.below.block k ⟨hk,λh=>hn (.inl h),λp hp e=>hn (.inr ⟨p,hp,e⟩)⟩
noncomputable def QJ:Exit->Exit->Bool
 | .normal,.normal=>true
 | .ret,.ret=>true
 | .exit i,.exit j=>Nat.beq i j
 | _,_=>false
theorem MT{e e':Exit}(h:QJ e e'=true):e=e':=by
 unfold QJ at h
 split at h
 ·rfl
 ·rfl
 ·rw[Nat.eq_of_beq_eq_true h]
 ·cases h
noncomputable def yF(ex:Exit)(live:List (Nat×Value))(fX:List iA)(g':Nat):Option dY->Bool
 | some (e,t,[],s)=>QJ e ex&&(live.all (λp=>An 4 (t.get p.1) p.2)&&(fX.all (Fk s)&&(MF s (some g')&&fX.all (λq=>Nat.beq (q.1%4) 0))))
 | _=>false
theorem FT{ex:Exit}{live:List (Nat×Value)}{fX:List iA}{g':Nat}{r:Option dY}(h:yF ex live fX g' r=true) :
  ∃ t s,r=some (ex,t,[],s)/\(∀ p ∈ live,t.get p.1=p.2)/\(∀ q ∈ fX,s.look q.1=some (.cells q.2.1.toArray q.2.2 (0,0)))/\s.look 3=some (iG g')/\fX.all (λq=>Nat.beq (q.1%4) 0)=true:=by
 unfold yF at h
 split at h
 ·rename_i e t s
  simp only[Bool.and_eq_true]at h;obtain⟨h1,h2,h3,h4,h5⟩:=h
  obtain⟨_,k2,k3⟩:=rO (r:=.bool true) (bl:=fX) (g:=some g') (v:=.bool true) (s:=s) (by
   have h0:An 4 (.bool true) (.bool true)=true:=rfl
   simp only[jm,h0,h3,h4,Bool.and_self])
  rw[List.all_eq_true]at h2;exact⟨t,s,by rw[MT h1],λp hp=>nJ _ _ _ (h2 p hp),k2,k3 _ rfl,h5⟩
 ·cases h
theorem yG{tm:List Value}{N:Nat}(h1:tm.length=N)(h2:N<=4094){β:Type}(k:TV->β):∃ t,lC tm 0 .leaf k=k t/\Env N t [] ⟨tm.toArray,[]⟩:=by
 obtain⟨t,e,he⟩:=pH (args:=tm) (n:=N) (by omega) h2 k;refine⟨t,e,?_⟩;rw[h1,Nat.sub_self,show(Array.replicate 0 undef:Array Value) = #[] from rfl,Array.append_empty]at he;exact he
theorem JW{P:Program}(hP:P.check=.ok ())(dA:dR P)(hm:P.follows .mixedOrders=true){n m N i k:Nat}{f:FuncId}{p:List Nat}{tm:List Value}{rn:List (Nat×Nat)}{bl fX:List iA}{g g':Nat}{ex:Exit}{live:List (Nat×Value)}
  (h:dS P (λB=>kW B f p (λ_ c=>Nat.beq tm.length N&&(Nat.ble N 4094&&(tQ m rn bl&&yF ex live fX g' (lC tm 0 .leaf (λt=>iq B n N k ((flat c).drop i) t (fB (eG bl g) m)))))))=true)
  {F:Nat->Prop} {w:World} {A:Act} (hb:wk rn bl F w) (hg:bB.GR g (bL rn) F w) (hF:∀ j,F j->j<w.heap.size) (ha:dW (bL rn) tm A.tmps.toList) (hd:A.defers=[]) {Q:Exit->Act->World->Prop}
  (hQ:∀ κ A1 w1,A1.tmps.size=N->A1.defers=[]->(∀ p ∈ live,aq κ p.2 (A1.tmps.getD p.1 undef))->Left rn fX g' F w κ w1->Exit.then (kA P (mJ P f p (i+k)) Q) Q ex A1 w1) :
  kA P (mJ P f p i) Q A w:=by
 obtain⟨B,hB,rfl,hf,MU,h⟩:=kX h;simp only[Bool.and_eq_true]at h;obtain⟨h1,h2,h3,h4⟩:=h;have h1:=Nat.eq_of_beq_eq_true h1;have h2:=Nat.le_of_ble_eq_true h2;obtain⟨t,e,he⟩:=yG h1 h2 (λt=>iq B n N k (mJ B.P f p i) t (fB (eG bl g) m));rw[e]at h4;obtain⟨t1,s1,r1,r2,r3,r4,r5⟩:=FT h4;obtain⟨a1,q1,q2⟩:=pR hB n N k he r1;obtain⟨i1,i2,i3,i4⟩:=qP h3;refine yD (ot B.P n) (EJ hP dA hm n).1 k q1 (λc hc=>wj (yB (vP hP hf MU)) c (List.mem_of_mem_drop hc)) (λid x y=>?_) (bL rn) A w ⟨⟨by simpa using ha.1,λi v v' a b=>ha.2 i v v' (by simpa using a) (by simpa using b)⟩,by rw[hd];exact .nil⟩ (B0 h3 hb hg hF) (λid x y=>?_) Q (λκ A1 w1 hA1 gg=>?_)
 ·rw[kb m (eG bl g) id (λp hp=>by
   rcases List.mem_cons.1 hp with rfl | hp
   ·show 3<lim;unfold lim;omega
   ·obtain⟨q,hq,rfl⟩:=List.mem_map.1 hp
    have:=(i4 q hq).1;show q.1<lim
    omega)]
  cases hf:((eG bl g).find? λp=>p.1==id).map (·.2) with
  | none=>rfl
  | some o =>
   have x':4*m<=id:=x;rcases List.mem_cons.1 (l5 hf) with e | hp
   ·cases e;omega
   ·obtain⟨q,hq,e⟩:=List.mem_map.1 hp
    cases e;have:=(i4 q hq).1;omega
 ·refine nL (λp hp e=>?_)
  have:=(i3 p hp).1;have x':4*m<=id:=x;omega
 ·have sz:A1.tmps.size=N:=by rw[← hA1.tmps.1,q2.sz]
  have df:A1.defers=[]:=by
   have:=hA1.I';rw[q2.df]at this;generalize A1.defers=dd at this;cases this;rfl
  rw[List.drop_drop];refine hQ κ A1 w1 sz df (λp hp=>?_) (yE h3 r5 gg r3 r4);rw[← r2 p hp,q2.get p.1];exact vy hA1.tmps p.1
theorem JX{P:Program}(hP:P.check=.ok ())(dA:dR P)(hm:P.follows .mixedOrders=true){n m N i k:Nat}{f:FuncId}{p:List Nat}{tm:List Value}{rn:List (Nat×Nat)}{bl fX:List iA}{g g':Nat}{r:Value}
  (h:dS P (λB=>kW B f p (λfn c=>Nat.beq tm.length N&&(Nat.beq fn.ntmps N&&(Nat.ble N 4094&&(tQ m rn bl&&((fX.all (λq=>Nat.beq (q.1%4) 0)&&isNil ((flat c).drop (i+k)))&&jm r fX (some g') (lC tm 0 .leaf (λt=>vS B.P fn (iq B n N k ((flat c).drop i) t (fB (eG bl g) m))))))))))=true)
  {F:Nat->Prop} {w:World} {A:Act} (hb:wk rn bl F w) (hg:bB.GR g (bL rn) F w) (hF:∀ j,F j->j<w.heap.size) (ha:dW (bL rn) tm A.tmps.toList) (hd:A.defers=[]) {R:Ending->World->Prop}
  (hQ:∀ κ v' w1,aq κ r v'->Left rn fX g' F w κ w1->R (.returned v') w1) :
  kA P (mJ P f p i) (bodyPostM Fence.wide 0 P (kV P f) R) A w:=by
 obtain⟨B,hB,rfl,hf,MU,h⟩:=kX h;simp only[Bool.and_eq_true]at h;obtain⟨h1,h0,h2,h3,⟨h5,h6⟩,h4⟩:=h;have h1:=Nat.eq_of_beq_eq_true h1;have h0:=Nat.eq_of_beq_eq_true h0;have h2:=Nat.le_of_ble_eq_true h2;obtain⟨t,e,he⟩:=yG h1 h2 (λt=>vS B.P (kV B.P f) (iq B n N k (mJ B.P f p i) t (fB (eG bl g) m)));rw[e]at h4;cases hx:vS B.P (kV B.P f) (iq B n N k (mJ B.P f p i) t (fB (eG bl g) m)) with
 | none=>rw[hx]at h4;cases h4
 | some x =>
 obtain⟨v,s1⟩:=x;rw[hx]at h4;obtain⟨rfl,r3,r4⟩:=rO h4;have r4:=r4 _ rfl;obtain⟨i1,i2,i3,i4⟩:=qP h3;have hl:=ot B.P n;obtain⟨ex,a2,s2,q1,q2⟩:∃ ex a2 s2,kY (ev B.P n) k (mJ B.P f p i) ⟨tm.toArray,[]⟩ (fB (eG bl g) m)=some (ex,a2,s2)/\jP B.P (kV B.P f) ex a2 s2=some (v,s1):=by
  unfold vS at hx
  split at hx
  ·rename_i t d s2 hrun
   obtain⟨a1,q1,q2⟩:=pR hB n N k he hrun;rw[← h0]at q2;exact⟨_,a1,s2,q1,qM q2 hx rfl⟩
  ·rename_i t d s2 hrun
   obtain⟨a1,q1,q2⟩:=pR hB n N k he hrun;rw[← h0]at q2;exact⟨_,a1,s2,q1,qM q2 hx rfl⟩
  ·cases hx
 unfold jP at q2
 split at q2
 case h_2=>cases q2
 rename_i hex
 split at q2
 case h_2=>cases q2
 rename_i s3 hmk;have n1:=l7 hl k q1;have n2:=(iK B.P a2.defers).next hmk
 have n3:=dw B.P _ _ _ _ q2;have hwin:m6 (fB (eG bl g) m) (fB (eG bl g) m).next s1.next:=λid x y=>by
  rw[kb m (eG bl g) id (λp hp=>by
   rcases List.mem_cons.1 hp with rfl | hp
   ·show 3<lim;unfold lim;omega
   ·obtain⟨q,hq,rfl⟩:=List.mem_map.1 hp
    have:=(i4 q hq).1;show q.1<lim
    omega)]
  cases hf:((eG bl g).find? λp=>p.1==id).map (·.2) with
  | none=>rfl
  | some o =>
   have x':4*m<=id:=x;rcases List.mem_cons.1 (l5 hf) with e | hp
   ·cases e;omega
   ·obtain⟨q,hq,e⟩:=List.mem_map.1 hp
    cases e;have:=(i4 q hq).1;omega
 have hfr:eA (bL rn) (fB (eG bl g) m) s1:=λid x y=>by
  refine nL (λp hp e=>?_);have:=(i3 p hp).1;have x':4*m<=id:=x;omega
 refine yD hl (EJ hP dA hm n).1 k q1 (λc hc=>wj (yB (vP hP hf MU)) c (List.mem_of_mem_drop hc)) (hwin.left (Nat.le_trans n2 n3)) (bL rn) A w ⟨⟨by simpa using ha.1,λi v v' a b=>ha.2 i v v' (by simpa using a) (by simpa using b)⟩,by rw[hd];exact .nil⟩ (B0 h3 hb hg hF) (hfr.left (Nat.le_trans n2 n3)) _ (λκ A1 w1 hA1 g1=>?_);have f1:=hfr.right g1 n1;have fin:LeavesInM Fence.wide 0 B.P (kV B.P f) A1.tmps R A1.defers .returning w1:=by
  refine qj a2.defers A1.defers s2 s3 κ w1 hA1.I' hmk g1.rep (f1.left n3) (λμ w2 g2=>?_);have f2:=f1.right g2 n2;obtain⟨ν,v',w3,r1,SF,g3⟩:=jk (qf (P:=B.P) (base:=Rest rn F w) (kV B.P f) (hA1.tmps.mono (g2.le (f1.left n3)))) g2.rep q2 f2;have hw:=mZ (P:=B.P) (kV B.P f) A1.tmps w2 v' w3 r1;subst hw;exact⟨v',r1,hQ ν v' _ SF (yE h3 h5 (g1.trans (g2.trans g3 n2 n3) n1 (Nat.le_trans n2 n3)) r3 r4)⟩
 cases ex with
 | normal =>
  rw[List.drop_drop];have h6':isNil (mJ B.P f p (i+k))=true:=h6;show kA B.P (mJ B.P f p (i+k)) _ A1 w1;cases hs:mJ B.P f p (i+k) with
  | nil=>exact fin
  | cons c l=>rw[hs]at h6';cases h6'
 | ret=>exact fin
 | _=>cases hex
theorem wl(v':Value):∃ v:Value,∀ ι:am,aq ι v v' :=
 match v' with
 | .bool b=>⟨_,λι=>.bool b⟩
 | .int k n=>⟨_,λι=>.int k n⟩
 | .float k n=>⟨_,λι=>.float k n⟩
 | .complex k n m=>⟨_,λι=>.junk 0 _ rfl⟩
 | .string b=>⟨_,λι=>.junk 0 _ rfl⟩
 | .pointer a=>⟨_,λι=>.junk 0 _ rfl⟩
 | .slice a n c=>⟨_,λι=>.junk 0 _ rfl⟩
 | .map a=>⟨_,λι=>.junk 0 _ rfl⟩
 | .func f a b=>⟨_,λι=>.junk 0 _ rfl⟩
 | .nilFunc=>⟨_,λι=>.junk 0 _ rfl⟩
 | .iface t v=>⟨_,λι=>.junk 0 _ rfl⟩
 | .nilIface=>⟨_,λι=>.junk 0 _ rfl⟩
 | .agg f=>by
  have h:∀ i (hi:i<f.size),∃ v:Value,∀ ι:am,aq ι v f[i]:=λi hi=>wl f[i]
  exact⟨.agg (Array.ofFn (n:=f.size) λi=>Classical.choose (h i.1 i.2)),λι=>.agg _ _ (by simp) (λi v v' h1 h2=>by
   obtain⟨hi,rfl⟩:=Array.getElem?_eq_some_iff.1 h2;rw[Array.getElem?_ofFn,dif_pos hi]at h1;cases h1
   exact Classical.choose_spec (h i hi) ι)⟩
 | .tuple f=>by
  have h:∀ i (hi:i<f.size),∃ v:Value,∀ ι:am,aq ι v f[i]:=λi hi=>wl f[i]
  exact⟨.tuple (Array.ofFn (n:=f.size) λi=>Classical.choose (h i.1 i.2)),λι=>.tuple _ _ (by simp) (λi v v' h1 h2=>by
   obtain⟨hi,rfl⟩:=Array.getElem?_eq_some_iff.1 h2;rw[Array.getElem?_ofFn,dif_pos hi]at h1;cases h1
   exact Classical.choose_spec (h i hi) ι)⟩
 | .chan r=>⟨_,λι=>.junk 0 _ rfl⟩
termination_by v'
decreasing_by
 all_goals
  subst_vars
  simp only[Value.agg.sizeOf_spec,Value.tuple.sizeOf_spec];have:=Array.sizeOf_get f i hi;omega
end pieces
noncomputable def oI:List ResultVar->List Nat->Bool
 | [],[]=>true
 | .tmp i::l,j::m=>Nat.beq i j&&oI l m
 | _,_=>false
theorem rX:∀ {l:List ResultVar} {m:List Nat},oI l m=true->l=m.map .tmp
 | [],[],_=>rfl
 | .tmp i::l,j::m,h=>by
  have h':(Nat.beq i j&&oI l m)=true:=h;rw[Bool.and_eq_true]at h';rw[Nat.eq_of_beq_eq_true h'.1,rX h'.2];rfl
 | [],_::_,h=>by cases h
 | .tmp i::l,[],h=>by cases h
theorem qm{P:Program}{fn:Func}{i:Nat}{T:Array Value}{w:World}(h:fn.results.toList=[.tmp i]):(results fn T).run P w=.ok (T.getD i undef) w:=by
 unfold results;rw[Array.mapM_eq_mapM_toList,h];rfl
theorem g9{P:Program}{fn:Func}{i j:Nat}{T:Array Value}{w:World}(h:fn.results.toList=[.tmp i,.tmp j]):(results fn T).run P w=.ok (.tuple #[T.getD i undef,T.getD j undef]) w:=by
 unfold results;rw[Array.mapM_eq_mapM_toList,h];rfl
theorem FU{P:Program}{f:FuncId}{i:Nat}(h:dS P (λB=>kW B f [] (λfn _=>oI fn.results.toList [i]))=true){R:Ending->World->Prop}{A:Act}{w:World}(hd:A.defers=[])(hR:R (.returned (A.tmps.getD i undef)) w):bodyPostM Fence.wide 0 P (kV P f) R .ret A w:=by
 obtain⟨B,_,_,hf,hb,h⟩:=kX h;show LeavesInM Fence.wide 0 P (kV P f) A.tmps R A.defers .returning w;rw[hd];exact⟨_,qm (rX h),hR⟩
structure jR(l:List aF)(Fs:List (Nat->Prop))(ι:am)(F:Nat->Prop)(w:World):Prop where
 len:Fs.length=l.length
 holds:∀ (i:Nat) a f,l[i]? = some a->Fs[i]? = some f->a.p ι f w
 apart:∀ (i j:Nat) f f',i≠j->Fs[i]? = some f->Fs[j]? = some f'->∀ x,f x->¬ f' x
 all:∀ x,F x↔∃ (i:Nat) (f:Nat->Prop),Fs[i]? = some f/\f x
def star(l:List aF):aF where
 p:=λι F w=>∃ Fs,jR l Fs ι F w
 keep:=λι F w w' hk ⟨Fs,h⟩=>⟨Fs,h.len,λi a f h1 h2=>a.keep ι f w w' (λj hj=>hk j ((h.all j).2 ⟨i,f,h2,hj⟩)) (h.holds i a f h1 h2),h.apart,h.all⟩
 mono:=λι κ F w hk ⟨Fs,h⟩=>⟨Fs,h.len,λi a f h1 h2=>a.mono ι κ f w hk (h.holds i a f h1 h2),h.apart,h.all⟩
theorem jR.turn{l l':List aF}{Fs I3:List (Nat->Prop)}{ι κ:am}{F:Nat->Prop}{w w':World}(h:jR l Fs ι F w)(lt:∀ x,F x->x<w.heap.size)(C:Nat->Prop)(hle:ju ι κ)(hl:l'.length=l.length)(hf:I3.length=Fs.length)
  (same:∀ i:Nat,¬ C i->l'[i]? = l[i]?/\I3[i]? = Fs[i]?) (new:∀ (i:Nat) a f,C i->l'[i]? = some a->I3[i]? = some f->a.p κ f w')
  (SG:∀ (i j:Nat) f f',C i->C j->i≠j->I3[i]? = some f->I3[j]? = some f'->∀ x,f x->¬ f' x)
  (sub:∀ (i:Nat) f,C i->I3[i]? = some f->∀ x,f x->x<w'.heap.size/\((∃ (j:Nat) (f0:Nat->Prop),C j/\Fs[j]? = some f0/\f0 x)\/w.heap.size<=x))
  (ht:Turn (λx=>∃ (j:Nat) (f0:Nat->Prop),C j/\Fs[j]? = some f0/\f0 x) w w') :
  ∃ F',jR l' I3 κ F' w'/\Turn F w w'/\∀ x,F' x->x<w'.heap.size/\(F x\/w.heap.size<=x):=by
 have hlt:∀ (i:Nat) f,Fs[i]? = some f->∀ x,f x->x<w.heap.size:=λi f hi x hx=>lt x ((h.all x).2 ⟨i,f,hi,hx⟩)
 refine⟨λx=>∃ (i:Nat) (f:Nat->Prop),I3[i]? = some f/\f x,⟨by rw[hf,hl,h.len],λi a f h1 h2=>?_,λi j f f' hij h1 h2 x hx hx'=>?_,λx=>Iff.rfl⟩,⟨ht.os,ht.tape,ht.output,ht.size,λx hx hn=>ht.block x hx (λ⟨j,f0,_,q2,q3⟩=>hn ((h.all x).2 ⟨j,f0,q2,q3⟩))⟩,?_⟩
 ·by_cases hc:C i
  ·exact new i a f hc h1 h2
  ·obtain⟨s1,s2⟩:=same i hc
   rw[s1]at h1;rw[s2]at h2;refine a.mono ι κ f w' hle (a.keep ι f w w' (λx hx=>ht.block x (hlt i f h2 x hx) ?_) (h.holds i a f h1 h2));rintro⟨j,f0,q1,q2,q3⟩;exact h.apart i j f f0 (λe=>hc (e▸q1)) h2 q2 x hx q3
 ·by_cases hc:C i
  ·by_cases hc':C j
   ·exact SG i j f f' hc hc' hij h1 h2 x hx hx'
   ·rw[(same j hc').2]at h2
    rcases(sub i f hc h1 x hx).2 with ⟨j0,f0,q1,q2,q3⟩ | q
    ·exact h.apart j0 j f0 f' (λe=>hc' (e▸q1)) q2 h2 x q3 hx'
    ·have:=hlt j f' h2 x hx'
     omega
  ·rw[(same i hc).2]at h1
   by_cases hc':C j
   ·rcases(sub j f' hc' h2 x hx').2 with ⟨j0,f0,q1,q2,q3⟩ | q
    ·exact h.apart i j0 f f0 (λe=>hc (e▸q1)) h1 q2 x hx q3
    ·have:=hlt i f h1 x hx
     omega
   ·rw[(same j hc').2]at h2
    exact h.apart i j f f' hij h1 h2 x hx hx'
 ·rintro x ⟨i,f,h1,hx⟩
  by_cases hc:C i
  ·refine⟨(sub i f hc h1 x hx).1,(sub i f hc h1 x hx).2.imp (λ⟨j,f0,_,q2,q3⟩=>(h.all x).2 ⟨j,f0,q2,q3⟩) id⟩
  ·rw[(same i hc).2]at h1
   have:=hlt i f h1 x hx;exact⟨Nat.lt_of_lt_of_le this ht.size,.inl ((h.all x).2 ⟨i,f,h1,hx⟩)⟩
theorem fF{α:Type}{l:List α}{i:Nat}(hi:i<l.length)(x:α)(j:Nat):(l.set i x)[j]? = if i=j then some x else l[j]?:=by
 rw[List.getElem?_set]
 by_cases e:i=j
 ·subst e;simp[hi]
 ·simp[e]
theorem jR.one{l:List aF}{Fs:List (Nat->Prop)}{ι κ:am}{F f:Nat->Prop}{w w':World}(h:jR l Fs ι F w)(lt:∀ x,F x->x<w.heap.size){i:Nat}(hi:Fs[i]? = some f)(hle:ju ι κ)(a':aF)(f':Nat->Prop)(ha:a'.p κ f' w')(ht:Turn f w w')
  (hs:∀ x,f' x->x<w'.heap.size/\(f x\/w.heap.size<=x)):∃ F',(star (l.set i a')).p κ F' w'/\Turn F w w'/\∀ x,F' x->x<w'.heap.size/\(F x\/w.heap.size<=x):=by
 have hlt:i<Fs.length:=(List.getElem?_eq_some_iff.1 hi).1;have hlt':i<l.length:=by rw[← h.len];exact hlt
 obtain⟨F',h1,h2⟩:=h.turn (l':=l.set i a') (I3:=Fs.set i f') lt (λj=>j=i) hle (by simp) (by simp) (λj hj=>by rw[fF hlt',fF hlt,if_neg (λe=>hj e.symm),if_neg (λe=>hj e.symm)];exact⟨rfl,rfl⟩)
  (λj a g hj h1 h2=>by
   subst hj;rw[fF hlt',if_pos rfl]at h1;rw[fF hlt,if_pos rfl]at h2;cases h1;cases h2
   exact ha)
  (λj k g g' hj hk hjk=>absurd (hj.trans hk.symm) hjk)
  (λj g hj h1 x hx=>by
   subst hj;rw[fF hlt,if_pos rfl]at h1;cases h1
   exact⟨(hs x hx).1,(hs x hx).2.imp (λhf=>⟨j,f,rfl,hi,hf⟩) id⟩)
  ⟨ht.os,ht.tape,ht.output,ht.size,λx hx hn=>ht.block x hx (λhf=>hn ⟨i,f,rfl,hi,hf⟩)⟩
 exact⟨F',⟨_,h1⟩,h2⟩
theorem jR.two{l:List aF}{Fs:List (Nat->Prop)}{ι κ:am}{F f g:Nat->Prop}{w w':World}(h:jR l Fs ι F w)(lt:∀ x,F x->x<w.heap.size){i j:Nat}(hij:i≠j)(hi:Fs[i]? = some f)(hj:Fs[j]? = some g)(hle:ju ι κ)(a' b':aF)(f' g':Nat->Prop)(ha:a'.p κ f' w')(hb:b'.p κ g' w')
  (hd:∀ x,f' x->¬ g' x) (ht:Turn (λx=>f x\/g x) w w') (hs:∀ x,f' x\/g' x->x<w'.heap.size/\((f x\/g x)\/w.heap.size<=x)) :
  ∃ F',(star ((l.set i a').set j b')).p κ F' w'/\Turn F w w'/\∀ x,F' x->x<w'.heap.size/\(F x\/w.heap.size<=x):=by
 have hlt:i<Fs.length:=(List.getElem?_eq_some_iff.1 hi).1;have hlt':i<l.length:=by rw[← h.len];exact hlt
 have RY:j<Fs.length:=(List.getElem?_eq_some_iff.1 hj).1;have QK:j<l.length:=by rw[← h.len];exact RY
 have gl:∀ k,((l.set i a').set j b')[k]? = if j=k then some b' else if i=k then some a' else l[k]?:=λk=>by rw[fF (by simpa using QK),fF hlt']
 have gf:∀ k,((Fs.set i f').set j g')[k]? = if j=k then some g' else if i=k then some f' else Fs[k]?:=λk=>by rw[fF (by simpa using RY),fF hlt]
 have up:∀ x,(f x\/g x)->∃ (k:Nat) (f0:Nat->Prop),(k=i\/k=j)/\Fs[k]? = some f0/\f0 x:=λx hx=>hx.elim (λhx=>⟨i,f,.inl rfl,hi,hx⟩) (λhx=>⟨j,g,.inr rfl,hj,hx⟩)
 obtain⟨F',h1,h2⟩:=h.turn (l':=(l.set i a').set j b') (I3:=(Fs.set i f').set j g') lt (λk=>k=i\/k=j) hle (by simp) (by simp)
  (λk hk=>by
   have n1:¬ j=k:=λe=>hk (.inr e.symm)
   have n2:¬ i=k:=λe=>hk (.inl e.symm)
   simp[gl,gf,n1,n2])
  (λk a q hk h1 h2=>by
   rw[gl]at h1;rw[gf]at h2;rcases hk with rfl | rfl
   ·rw[if_neg (λe=>hij e.symm),if_pos rfl]at h1 h2
    cases h1;cases h2;exact ha
   ·rw[if_pos rfl]at h1 h2
    cases h1;cases h2
    exact hb)
  (λk m q q' hk hm hkm h1 h2 x hx hx'=>by
   rw[gf]at h1 h2;rcases hk with rfl | rfl<;>rcases hm with rfl | rfl
   ·exact hkm rfl
   ·rw[if_neg (λe=>hij e.symm),if_pos rfl]at h1
    rw[if_pos rfl]at h2;cases h1;cases h2;exact hd x hx hx'
   ·rw[if_pos rfl]at h1
    rw[if_neg (λe=>hij e.symm),if_pos rfl]at h2;cases h1;cases h2;exact hd x hx' hx
   ·exact hkm rfl)
  (λk q hk h1 x hx=>by
   rw[gf]at h1;rcases hk with rfl | rfl
   ·rw[if_neg (λe=>hij e.symm),if_pos rfl]at h1
    cases h1;exact⟨(hs x (.inl hx)).1,(hs x (.inl hx)).2.imp (up x) id⟩
   ·rw[if_pos rfl]at h1
    cases h1
    exact⟨(hs x (.inr hx)).1,(hs x (.inr hx)).2.imp (up x) id⟩)
  ⟨ht.os,ht.tape,ht.output,ht.size,λx hx hn=>ht.block x hx (λhf=>hn (up x hf))⟩
 exact⟨F',⟨_,h1⟩,h2⟩
theorem FV{op:Op}{t:TypeId}(h:ef op=some [13,t]):∃ x,op=.range t x:=by
 unfold ef at h
 split at h<;>first | (cases h;done) | skip
 all_goals first | (cases h;exact⟨_,rfl⟩) | (simp at h)
theorem JY{op:Op}(h:ef op=some [14,0]):∃ x,op=.next x false:=by
 unfold ef at h
 split at h<;>first | (cases h;done) | skip
 all_goals first | (simp at h;done) | skip
 rename_i x b;cases b
 ·exact⟨_,rfl⟩
 ·simp at h
theorem FW{op:Op} (h:ef op=some [15]):∃ x,op=.entry x:=by
 unfold ef at h
 split at h<;>first | (cases h;done) | skip
 all_goals first | (cases h;exact⟨_,rfl⟩) | (simp at h)
theorem Dt{op:Op}{t:TypeId}{b:Bool}{n:Nat}(hn:n=cond b 1 0)(h:ef op=some [5,t,n]):∃ x y,op=.lookup t x y b:=by
 subst hn;unfold ef at h
 split at h<;>first | (cases h;done) | skip
 all_goals first | (simp at h;done) | skip
 rename_i t' x y ok;cases ok<;>cases b<;>simp at h<;>subst h<;>exact⟨_,_,rfl⟩
theorem wm{op:Op}{t:TypeId}(h:ef op=some [6,t]):∃ x y z,op=.mapUpdate t x y z:=by
 unfold ef at h
 split at h<;>first | (cases h;done) | skip
 all_goals first | (cases h;exact⟨_,_,_,rfl⟩) | (simp at h)
theorem yH{op:Op}{t:TypeId}(h:ef op=some [22,t]):∃ x y,op=.mapEntry t x y:=by
 unfold ef at h
 split at h<;>first | (cases h;done) | skip
 all_goals first | (cases h;exact⟨_,_,rfl⟩) | (simp at h)
theorem tR{op:Op}{t:TypeId}(h:ef op=some [23,t]):∃ x y z,op=.entryStore t x y z:=by
 unfold ef at h
 split at h<;>first | (cases h;done) | skip
 all_goals first | (cases h;exact⟨_,_,_,rfl⟩) | (simp at h)
theorem Du{op:Op}{t u:TypeId}(h:ef op=some [12,t,u]):∃ x y,op=.call { callee:=.builtin .delete,args:=#[x,y],argTypes:=#[t,u] }:=by
 unfold ef at h
 split at h<;>first | (cases h;done) | skip
 all_goals first | (cases h;exact⟨_,_,rfl⟩) | (simp at h)
theorem MV{op:Op}{t u:TypeId}(h:ef op=some [16,t,u]):∃ x y,op=.call { callee:=.builtin .min,args:=#[x,y],argTypes:=#[t,u] }:=by
 unfold ef at h
 split at h<;>first | (cases h;done) | skip
 all_goals first | (cases h;exact⟨_,_,rfl⟩) | (simp at h)
theorem MW{op:Op}{t u:TypeId}(h:ef op=some [17,t,u]):∃ x y,op=.call { callee:=.builtin .max,args:=#[x,y],argTypes:=#[t,u] }:=by
 unfold ef at h
 split at h<;>first | (cases h;done) | skip
 all_goals first | (cases h;exact⟨_,_,rfl⟩) | (simp at h)
theorem wo{op:Op}{t:TypeId}{f:Nat}(h:ef op=some [7,t,f]):∃ x,op=.fieldAddr t x f:=by
 unfold ef at h
 split at h<;>first | (cases h;done) | skip
 all_goals first | (cases h;exact⟨_,rfl⟩) | (simp at h)
theorem MX{ι:am}[bB]{x y z:Value}{l:List Value}(h:dW ι [x,y,z] l):∃ x' y' z',l=[x',y',z']/\aq ι x x'/\aq ι y y'/\aq ι z z':=by
 match l,h with
 | [],h=>exact absurd h.1 (by simp)
 | [_],h=>exact absurd h.1 (by simp)
 | [_,_],h=>exact absurd h.1 (by simp)
 | [x',y',z'],h=>exact⟨x',y',z',rfl,h.2 0 x x' rfl rfl,h.2 1 y y' rfl rfl,h.2 2 z z' rfl rfl⟩
 | _::_::_::_::_,h=>exact absurd h.1 (by simp)
variable(k:Kn){P:Program}{g:Nat}{d0 ng:Option Nat}{r:Value}
theorem bw.range{t:TypeId}{x:Value}(h:letI:bB:=k.sig;∀ ι F w d x',Ask k g d0 ng ι F w d->aq ι x x'->iB P (Instr.range t x') ι d F w r ng):bw k P ⟨[13,t],[x],none,g,d0,r,ng⟩:=by
 letI:bB:=k.sig;intro o hk ev ι F w d hv _ h1 h2 h3 h4;obtain⟨a,ho⟩:=FV hk;rw[ho]at hv;obtain⟨x',e,hx⟩:=Ap hv;simp[Op.operands]at e;subst e;obtain⟨v',w',r1,r2⟩:=h ι F w d _ ⟨h1,h2,h3,h4⟩ hx;refine⟨.value v',v',w',?_,.inl rfl,r2⟩;unfold execOp;rw[ho];simp only;rw[Sem.run_bind,r1];rfl
theorem bw.next {x:Value}(h:letI:bB:=k.sig;∀ ι F w d x' ty,Ask k g d0 ng ι F w d->aq ι x x'->iB P (Instr.next x' false ty) ι d F w r ng):bw k P ⟨[14,0],[x],none,g,d0,r,ng⟩:=by
 letI:bB:=k.sig;intro o hk ev ι F w d hv _ h1 h2 h3 h4;obtain⟨a,ho⟩:=JY hk;rw[ho]at hv;obtain⟨x',e,hx⟩:=Ap hv;simp[Op.operands]at e;subst e;obtain⟨v',w',r1,r2⟩:=h ι F w d _ o.type ⟨h1,h2,h3,h4⟩ hx;refine⟨.value v',v',w',?_,.inl rfl,r2⟩;unfold execOp;rw[ho];simp only;rw[Sem.run_bind,r1];rfl
theorem bw.entry {x:Value}(h:letI:bB:=k.sig;∀ ι F w d x',Ask k g d0 ng ι F w d->aq ι x x'->iB P (Instr.entry x') ι d F w r ng):bw k P ⟨[15],[x],none,g,d0,r,ng⟩:=by
 letI:bB:=k.sig;intro o hk ev ι F w d hv _ h1 h2 h3 h4;obtain⟨a,ho⟩:=FW hk;rw[ho]at hv;obtain⟨x',e,hx⟩:=Ap hv;simp[Op.operands]at e;subst e;obtain⟨v',w',r1,r2⟩:=h ι F w d _ ⟨h1,h2,h3,h4⟩ hx;refine⟨.value v',v',w',?_,.inl rfl,r2⟩;unfold execOp;rw[ho];simp only;rw[Sem.run_bind,r1];rfl
theorem bw.fieldAddr{t:TypeId}{f:Nat}{x:Value}(h:letI:bB:=k.sig;∀ ι F w d x',Ask k g d0 ng ι F w d->aq ι x x'->iB P (Instr.fieldAt t x' f) ι d F w r ng):bw k P ⟨[7,t,f],[x],none,g,d0,r,ng⟩:=by
 letI:bB:=k.sig;intro o hk ev ι F w d hv _ h1 h2 h3 h4;obtain⟨a,ho⟩:=wo hk;rw[ho]at hv;obtain⟨x',e,hx⟩:=Ap hv;simp[Op.operands]at e;subst e;obtain⟨v',w',r1,r2⟩:=h ι F w d _ ⟨h1,h2,h3,h4⟩ hx;refine⟨.value v',v',w',?_,.inl rfl,r2⟩;unfold execOp;rw[ho];simp only;rw[Sem.run_bind,r1];rfl
theorem bw.lookup{t:TypeId}{b:Bool}{n:Nat}(hn:n=cond b 1 0){x y:Value}(h:letI:bB:=k.sig;∀ ι F w d x' y',Ask k g d0 ng ι F w d->aq ι x x'->aq ι y y'->iB P (Instr.lookup t x' y' b) ι d F w r ng):bw k P ⟨[5,t,n],[x,y],none,g,d0,r,ng⟩:=by
 letI:bB:=k.sig;intro o hk ev ι F w d hv _ h1 h2 h3 h4;obtain⟨a,b,ho⟩:=Dt hn hk;rw[ho]at hv;obtain⟨x',y',e,hx,hy⟩:=vY hv;simp[Op.operands]at e;obtain⟨rfl,rfl⟩:=e;obtain⟨v',w',r1,r2⟩:=h ι F w d _ _ ⟨h1,h2,h3,h4⟩ hx hy;refine⟨.value v',v',w',?_,.inl rfl,r2⟩;unfold execOp;rw[ho];simp only;rw[Sem.run_bind,r1];rfl
theorem bw.mapUpdate{t:TypeId}{x y z:Value}(h:letI:bB:=k.sig;∀ ι F w d x' y' z',Ask k g d0 ng ι F w d->aq ι x x'->aq ι y y'->aq ι z z'->Fx P (Instr.mapUpdate t x' y' z') ι d F w ng):bw k P ⟨[6,t],[x,y,z],none,g,d0,undef,ng⟩:=by
 letI:bB:=k.sig;intro o hk ev ι F w d hv _ h1 h2 h3 h4;obtain⟨a,b,c,ho⟩:=wm hk;rw[ho]at hv;obtain⟨x',y',z',e,hx,hy,hz⟩:=MX hv;simp[Op.operands]at e;obtain⟨rfl,rfl,rfl⟩:=e;obtain⟨w',r1,r2⟩:=h ι F w d _ _ _ ⟨h1,h2,h3,h4⟩ hx hy hz;refine⟨.skip,undef,w',?_,.inr ⟨rfl,rfl⟩,r2⟩;unfold execOp;rw[ho];simp only;rw[Sem.run_bind,r1];rfl
theorem bw.mapEntry{t:TypeId}{x y:Value}(h:letI:bB:=k.sig;∀ ι F w d x' y',Ask k g d0 ng ι F w d->aq ι x x'->aq ι y y'->iB P (Instr.mapEntry t x' y') ι d F w r ng):bw k P ⟨[22,t],[x,y],none,g,d0,r,ng⟩:=by
 letI:bB:=k.sig;intro o hk ev ι F w d hv _ h1 h2 h3 h4;obtain⟨a,b,ho⟩:=yH hk;rw[ho]at hv;obtain⟨x',y',e,hx,hy⟩:=vY hv;simp[Op.operands]at e;obtain⟨rfl,rfl⟩:=e;obtain⟨v',w',r1,r2⟩:=h ι F w d _ _ ⟨h1,h2,h3,h4⟩ hx hy;refine⟨.value v',v',w',?_,.inl rfl,r2⟩;unfold execOp;rw[ho];simp only;rw[Sem.run_bind,r1];rfl
theorem bw.entryStore{t:TypeId}{x y z:Value}(h:letI:bB:=k.sig;∀ ι F w d x' y' z',Ask k g d0 ng ι F w d->aq ι x x'->aq ι y y'->aq ι z z'->Fx P (Instr.entryStore t x' y' z') ι d F w ng):bw k P ⟨[23,t],[x,y,z],none,g,d0,undef,ng⟩:=by
 letI:bB:=k.sig;intro o hk ev ι F w d hv _ h1 h2 h3 h4;obtain⟨a,b,c,ho⟩:=tR hk;rw[ho]at hv;obtain⟨x',y',z',e,hx,hy,hz⟩:=MX hv;simp[Op.operands]at e;obtain⟨rfl,rfl,rfl⟩:=e;obtain⟨w',r1,r2⟩:=h ι F w d _ _ _ ⟨h1,h2,h3,h4⟩ hx hy hz;refine⟨.skip,undef,w',?_,.inr ⟨rfl,rfl⟩,r2⟩;unfold execOp;rw[ho];simp only;rw[Sem.run_bind,r1];rfl
theorem bw.delete{t u:TypeId}{x y:Value}(h:letI:bB:=k.sig;∀ ι F w d x' y' ty,Ask k g d0 ng ι F w d->aq ι x x'->aq ι y y'->iB P (Builtin.delete_ #[t,u] ty #[x',y']) ι d F w r ng):bw k P ⟨[12,t,u],[x,y],none,g,d0,r,ng⟩:=by
  letI:bB:=k.sig;intro o hk ev ι F w d hv _ h1 h2 h3 h4;obtain⟨a,b,ho⟩:=Du hk;obtain⟨cs,he⟩:=gj (ev:=ev) ho rfl;rw[ho]at hv;obtain⟨x',y',e,hx,hy⟩:=vY hv;simp[Op.operands,Call.operands]at e;obtain⟨rfl,rfl⟩:=e;obtain⟨v',w',r1,r2⟩:=h ι F w d _ _ o.type ⟨h1,h2,h3,h4⟩ hx hy;refine⟨.value v',v',w',?_,.inl rfl,r2⟩;rw[he];have hb:builtin .delete #[t,u] o.type cs #[ev a,ev b]=(do pure (Next.value (← Builtin.delete_ #[t,u] o.type #[ev a,ev b]))):=rfl;simp only[List.map_toArray,List.map_cons,List.map_nil];rw[hb];rw[Sem.run_bind,r1];rfl
theorem bw.min{t u:TypeId}{x y:Value}(h:letI:bB:=k.sig;∀ ι F w d x' y' ty,Ask k g d0 ng ι F w d->aq ι x x'->aq ι y y'->iB P (Builtin.min_ #[t,u] ty #[x',y']) ι d F w r ng):bw k P ⟨[16,t,u],[x,y],none,g,d0,r,ng⟩:=by
  letI:bB:=k.sig;intro o hk ev ι F w d hv _ h1 h2 h3 h4;obtain⟨a,b,ho⟩:=MV hk;obtain⟨cs,he⟩:=gj (ev:=ev) ho rfl;rw[ho]at hv;obtain⟨x',y',e,hx,hy⟩:=vY hv;simp[Op.operands,Call.operands]at e;obtain⟨rfl,rfl⟩:=e;obtain⟨v',w',r1,r2⟩:=h ι F w d _ _ o.type ⟨h1,h2,h3,h4⟩ hx hy;refine⟨.value v',v',w',?_,.inl rfl,r2⟩;rw[he];have hb:builtin .min #[t,u] o.type cs #[ev a,ev b]=(do pure (Next.value (← Builtin.min_ #[t,u] o.type #[ev a,ev b]))):=rfl;simp only[List.map_toArray,List.map_cons,List.map_nil];rw[hb];rw[Sem.run_bind,r1];rfl
theorem bw.max{t u:TypeId}{x y:Value}(h:letI:bB:=k.sig;∀ ι F w d x' y' ty,Ask k g d0 ng ι F w d->aq ι x x'->aq ι y y'->iB P (Builtin.max_ #[t,u] ty #[x',y']) ι d F w r ng):bw k P ⟨[17,t,u],[x,y],none,g,d0,r,ng⟩:=by
  letI:bB:=k.sig;intro o hk ev ι F w d hv _ h1 h2 h3 h4;obtain⟨a,b,ho⟩:=MW hk;obtain⟨cs,he⟩:=gj (ev:=ev) ho rfl;rw[ho]at hv;obtain⟨x',y',e,hx,hy⟩:=vY hv;simp[Op.operands,Call.operands]at e;obtain⟨rfl,rfl⟩:=e;obtain⟨v',w',r1,r2⟩:=h ι F w d _ _ o.type ⟨h1,h2,h3,h4⟩ hx hy;refine⟨.value v',v',w',?_,.inl rfl,r2⟩;rw[he];have hb:builtin .max #[t,u] o.type cs #[ev a,ev b]=(do pure (Next.value (← Builtin.max_ #[t,u] o.type #[ev a,ev b]))):=rfl;simp only[List.map_toArray,List.map_cons,List.map_nil];rw[hb];rw[Sem.run_bind,r1];rfl
end Go.Ev
namespace Go.Ev
open Go.RowKit Go.Maps Go.WideShapes
open Go.WideElems (Fit rd rg pl rd_key rd_val rg_of other_key)
section parts
variable{k:Kn}{P:Program}{g g':Nat}{d0:Option Nat}{r:Value}{l:List aF}{i:Nat}{a a':aF}{ι:am}{F:Nat->Prop}{w w':World}{d:Nat}
theorem fb{ng:Option Nat}(hg:k.gs[g]? = some (star l))(hi:l[i]? = some a)(q:Ask k g d0 ng ι F w d):∃ Fs f,jR l Fs ι F w/\Fs[i]? = some f/\a.p ι f w:=by
 obtain⟨b,q1,q2⟩:=q.st;rw[hg]at q1;cases q1;obtain⟨Fs,q2⟩:=q2;have hlt:i<Fs.length:=by rw[q2.len];exact(List.getElem?_eq_some_iff.1 hi).1
 exact⟨Fs,Fs[i],q2,List.getElem?_eq_getElem hlt,q2.holds i a _ hi (List.getElem?_eq_getElem hlt)⟩
theorem wq(hg':k.gs[g']? = some (star (l.set i a'))){Fs:List (Nat->Prop)}{f f':Nat->Prop}(hS:jR l Fs ι F w)(lt:∀ x,F x->x<w.heap.size)(hi:Fs[i]? = some f)(hd:ι d=none)(c:Nat){v':Value}(ha:a'.p (ι.upd d c) f' w')(ht:Turn f w w')
  (hs:∀ x,f' x->x<w'.heap.size/\(f x\/w.heap.size<=x)) (hv:letI:bB:=k.sig;aq (ι.upd d c) r v'):letI:bB:=k.sig;vN ι d F w r (some g') v' w':=by
 letI:bB:=k.sig;obtain⟨F',h1,h2,h3⟩:=hS.one lt hi (am.ie (b:=c) hd) a' f' ha ht hs;exact⟨c,F',hv,⟨_,hg',h1⟩,h2,h3⟩
theorem i7(q:Ask k g d0 (some g') ι F w d):ι d=none:=by
 rcases q.fresh with h | h
 ·exact h
 ·cases h
end parts
inductive Lv where
 | st (v:Value)
 | dy (d:Nat)
def Lv.is(ι:am)(v:Value):Lv->Prop
 | .st v0=>v=v0
 | .dy d=>∃ c,ι d=some c/\dec c=v
theorem Lv.mono{ι κ:am}(h:ju ι κ){v:Value}{l:Lv}(hl:l.is ι v):l.is κ v:=by
 cases l with
 | st v0=>exact hl
 | dy d=>obtain⟨c,h1,h2⟩:=hl;exact⟨c,h _ _ h1,h2⟩
structure MY(P:Program)(t kT e:TypeId):Prop where
 ht:P.underlying t=some (.map kT e)
 hk:P.underlying kT=some (.int .i64)
 he:P.underlying e=some (.int .i64)
 hz:∀ w,(zeroValue e).run P w=.ok (.int .i64 0) w
def NI(i:Int):Prop:=(Lit.int .i64 i).wf=true
def Reads(D:DataW Unit)(f:Int->Option Int):Prop:=∀ i,NI i->Maps.has D (.int .i64 i)=(f i).isSome/\D.atKey (.int .i64 i) (.lit (.int .i64 0))=.lit (.int .i64 ((f i).getD 0))
def upd(f:Int->Option Int)(i:Int)(x:Option Int):Int->Option Int:=λj=>if j=i then x else f j
theorem FX{i j:Int}(h:j≠i):(Lit.int .i64 j)≠(Lit.int .i64 i):=λe=>by cases e;exact h rfl
theorem Reads.put{D:DataW Unit}{f:Int->Option Int}(h:Reads D f)(hm:IsMap D){i x:Int} : Reads (D.put (.int .i64 i) (.lit (.int .i64 x))) (upd f i (some x)):=by
 intro j hj
 by_cases e:j=i
 ·subst e
  rw[has_put_same hm (by trivial),atKey_put_same hm (by trivial)];simp[upd]
 ·rw[has_put_other (FX e),atKey_put_other (FX e)]
  simpa[upd,e] using h j hj
section
variable(P:Program)(kT e:TypeId)
def FY(b n:Nat)(f:Int->Option Int)(w:World):Prop:=∃ D:DataW Unit,w.ownsMap P kT (plainElem P e) b n D/\Reads D f
theorem FY.keep{b n:Nat}{f:Int->Option Int}{w w':World}(h:FY P kT e b n f w)(hk:w'.heap[b]? = w.heap[b]?):FY P kT e b n f w':=by
 obtain⟨D,⟨es,clock,h1,h2⟩,h3⟩:=h;exact⟨D,⟨es,clock,by rw[hk];exact h1,h2⟩,h3⟩
def yI(b r n cnt:Nat)(f:Int->Option Int)(left:Int->Bool)(w:World):Prop :=
 ∃ (D:DataW Unit) (lf:Lit->Bool),w.ranges P kT (plainElem P e) b r n D lf cnt/\Reads D f/\(∀ i,NI i->lf (.int .i64 i)=left i)/\∀ i,NI i->left i=true->(f i).isSome=true
theorem yI.keep{b r n cnt:Nat}{f:Int->Option Int}{left:Int->Bool}{w w':World}(h:yI P kT e b r n cnt f left w)(hb:w'.heap[b]? = w.heap[b]?)(hr:w'.heap[r]? = w.heap[r]?):yI P kT e b r n cnt f left w':=by
 obtain⟨D,lf,⟨es,clock,since,seen,c0,h1,h2,h3,h4,h5,h6⟩,h7⟩:=h;exact⟨D,lf,⟨es,clock,since,seen,c0,by rw[hb];exact h1,h2,h3,h4,by rw[hr];exact h5,h6⟩,h7⟩
def MZ(r:Nat):Value:=.pointer (some ⟨r,0,none⟩)
def QL(b:Nat)(rv:Lv)(n cnt:Nat)(f:Int->Option Int)(left:Int->Bool):aF where
 p:=λι F w=>∃ r,rv.is ι (MZ r)/\(∀ j,F j↔j=b\/j=r)/\yI P kT e b r n cnt f left w
 keep:=λι F w w' hk ⟨r,h0,h1,h2⟩=>⟨r,h0,h1,h2.keep P kT e (hk b ((h1 b).2 (.inl rfl))) (hk r ((h1 r).2 (.inr rfl)))⟩
 mono:=λι κ F w hle ⟨r,h0,h1⟩=>⟨r,Lv.mono hle h0,h1⟩
def yJ(b r n cnt:Nat)(f:Int->Option Int)(left:Int->Bool)(i:Int)(w:World):Prop :=
 NI i/\(f i).isSome=true/\yI P kT e b r n cnt f left w/\∀ w2:World,w2.heap[b]? = w.heap[b]?->w2.heap[r]? = w.heap[r]?->(Instr.entry (MZ r)).run P w2=.ok (.tuple #[.int .i64 i,.int .i64 ((f i).getD 0)]) w2
theorem yJ.keep{b r n cnt:Nat}{f:Int->Option Int}{left:Int->Bool}{i:Int}{w w':World}(h:yJ P kT e b r n cnt f left i w)(hb:w'.heap[b]? = w.heap[b]?)(hr:w'.heap[r]? = w.heap[r]?):yJ P kT e b r n cnt f left i w':=by
 obtain⟨h0,h1,h2,h3⟩:=h;exact⟨h0,h1,h2.keep P kT e hb hr,λw2 k1 k2=>h3 w2 (k1.trans hb) (k2.trans hr)⟩
def M1(b r n cnt:Nat)(f:Int->Option Int)(left:Int->Bool)(i:Int):aF where
 p:=λι F w=>(∀ j,F j↔j=b\/j=r)/\yJ P kT e b r n cnt f left i w
 keep:=λι F w w' hk ⟨h1,h2⟩=>⟨h1,h2.keep P kT e (hk b ((h1 b).2 (.inl rfl))) (hk r ((h1 r).2 (.inr rfl)))⟩
 mono:=λι κ F w hle h=>h
def FZ(left:Int->Bool)(i:Int):Int->Bool:=λj=>left j && !(decide (j=i))
def OD(b r n cnt:Nat)(f:Int->Option Int)(left:Int->Bool):aF where
 p:=λι F w=>(∀ j,F j↔j=b\/j=r)/\∃ i cnt',cnt'<cnt/\left i=true/\yJ P kT e b r n cnt' f (FZ left i) i w
 keep:=λι F w w' hk ⟨h1,i,c,h2,h3,h4⟩=>⟨h1,i,c,h2,h3,h4.keep P kT e (hk b ((h1 b).2 (.inl rfl))) (hk r ((h1 r).2 (.inr rfl)))⟩
 mono:=λι κ F w hle h=>h
end
section rows
variable{k:Kn}{P:Program}{g g':Nat}{d0:Option Nat}{l:List aF}{ci:Nat}{t kT e:TypeId}{b n sM sK sV:Nat}{f:Int->Option Int}{i x:Int}(M:MY P t kT e)
include M
end rows
end Go.Ev
