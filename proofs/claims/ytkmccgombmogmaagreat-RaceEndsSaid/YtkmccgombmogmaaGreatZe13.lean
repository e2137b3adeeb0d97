/- Part of a proof: see the last text. -/
import Derived.Test.YtkmccgombmogmaaGreatZe11
import Derived.Maps.Range
import Derived.Maps.Views
set_option linter.unusedSectionVars false
set_option linter.unusedSimpArgs false
set_option linter.unusedVariables false
namespace Go.Ev
open Go.RowKit
def flat:Code->List Code
 | .seq x y=>flat x++flat y
 | c=>[c]
def inner:Nat->Code->Code
 | 0,.block _ x=>x
 | 0,.loop x=>x
 | 0,.scope x=>x
 | 0,.cond _ x _=>x
 | 1,.cond _ _ y=>y
 | _,c=>c
def Oz:List Nat->Code->Code
 | [],c=>c
 | i::p,c=>Oz p (inner (i%2) ((flat c).getD (i / 2) .skip))
theorem IW(P:Program):bL P .skip:=⟨default,[],[],rfl⟩
theorem Fj{P:Program}{i:Nat}{c:Code}(h:bL P c):bL P (inner i c):=by
 letI:bg:=dk;unfold inner
 split
 ·exact h.block
 ·exact h.loop
 ·exact h.scope
 ·exact h.cond.1
 ·exact h.cond.2
 ·exact h
theorem vI{P:Program} : ∀ {c:Code},bL P c->∀ x ∈ flat c,bL P x:=by
 letI:bg:=dk;intro c
 induction c with
 | seq x y Na ihy =>
  intro h z hz;rcases List.mem_append.1 hz with hz | hz
  ·exact Na h.seq.1 z hz
  ·exact ihy h.seq.2 z hz
 | _=>intro h z hz;rw[List.mem_singleton.1 hz];exact h
theorem IX{P:Program}{l:List Code}(h:∀ x ∈ l,bL P x)(i:Nat):bL P (l.getD i .skip):=by
 rw[List.getD_eq_getElem?_getD];cases hi:l[i]? with
 | none=>exact IW P
 | some x=>exact h x (List.mem_of_getElem? hi)
theorem x8{P:Program} : ∀ {p:List Nat} {c:Code},bL P c->bL P (Oz p c):=by
 intro p
 induction p with
 | nil=>exact λh=>h
 | cons i p ih=>exact λh=>ih (Fj (IX (vI h) _))
def og(P:Program):List Code->(Exit->Act->World->Prop)->Act->World->Prop
 | [],Q,a,w=>Q .normal a w
 | c::cs,Q,a,w=>c.wpIn Fence.wide 0 P (Exit.then (og P cs Q) Q) a w
theorem IY{P:Program} : ∀ {c:Code} {cs:List Code} {Q:Exit->Act->World->Prop} {a:Act} {w:World},og P (flat c++cs) Q a w->c.wpIn Fence.wide 0 P (Exit.then (og P cs Q) Q) a w:=by
 intro c
 induction c with
 | seq x y Na ihy =>
  intro cs Q a w h;rw[flat,List.append_assoc]at h;refine wpIn_seq (wpIn_mono (Na h) (λe a w he=>?_));cases e with
  | normal=>exact ihy he
  | _=>exact he
 | _=>exact λh=>h
theorem Fk{P:Program}{c:Code}{Q:Exit->Act->World->Prop}{a:Act}{w:World}(h:og P (flat c) Q a w):c.wpIn Fence.wide 0 P Q a w:=by
 refine wpIn_mono (IY (cs:=[]) (by rw[List.append_nil];exact h)) (λe a w he=>?_);cases e<;>exact he
def kJ(P:Program)(f:FuncId):Func:=(P.funcs[f]?).getD default
def vJ(P:Program)(f:FuncId):Code:=(kJ P f).body.getD .skip
abbrev place(P:Program)(f:FuncId)(p:List Nat):Code:=Oz p (vJ P f)
noncomputable def nq(B:Base)(f:FuncId)(p:List Nat)(k:Func->Code->Bool):Bool :=
 match B.F.get f with
 | some fn=>(match fn.body with | some body=>k fn (Oz p body) | none=>false)
 | none=>false
theorem qs{P:Program}{f:FuncId}{p:List Nat}{k:Base->Func->Code->Bool}(h:d9 P (λB=>nq B f p (k B))=true) :
  ∃ B,pV B/\B.P=P/\P.funcs[f]? = some (kJ P f)/\(kJ P f).body=some (vJ P f)/\k B (kJ P f) (place P f p)=true:=by
 letI:bg:=dk;obtain⟨B,hB,Nn,e⟩:=qY P (λB=>nq B f p (k B));rw[e]at h;subst Nn;unfold nq at h
 split at h
 ·rename_i fn hf
  have hf':=hB.F _ _ hf;have e1:kJ B.P f=fn:=by unfold kJ;rw[hf'];rfl
  split at h
  ·rename_i body hb
   have e2:vJ B.P f=body:=by unfold vJ;rw[e1,hb];rfl
   exact⟨B,hB,rfl,by rw[e1];exact hf',by rw[e1,e2];exact hb,by rw[e1];unfold place;rw[e2];exact h⟩
  ·cases h
 ·cases h
abbrev Ad(P:Program)(f:FuncId)(p:List Nat)(i:Nat):List Code:=(flat (place P f p)).drop i
noncomputable def isNil:List Code->Bool
 | []=>true
 | _=>false
theorem Ae{P:Program}{f:FuncId}{N:Nat}{args:Array Value}{w:World}{R:Ending->World->Prop}(h:d9 P (λB=>nq B f [] (λfn _=>Nat.beq fn.ntmps N))=true)
  (hw:og P (Ad P f [] 0) (bodyPostM Fence.wide 0 P (kJ P f) R) { tmps:=args++Array.replicate (N-args.size) undef,defers:=[] } w):Calls P f args w R:=by
 obtain⟨B,_,_,hf,hb,h⟩:=qs h;rw[← Nat.eq_of_beq_eq_true h]at hw;exact callsIn_wide.1 (callsIn_of_wp_marks (F:=Fence.wide) (n:=0) hf hb trivial (Fk hw))
section pieces
variable[bg]
def kK(run:Runner):Nat->List Code->Act->St->Option (Exit×Act×St)
 | 0,_,a,s=>some (.normal,a,s)
 | k+1,c::cs,a,s=>(match run none c a s with | some (.normal,a1,s1)=>kK run k cs a1 s1 | r=>r)
 | _+1,[],_,_=>none
theorem lO{run:Runner}(hl:dB run):∀ (k:Nat) {cs:List Code} {a a1:Act} {s s1:St} {e:Exit},kK run k cs a s=some (e,a1,s1)->s.next<=s1.next
 | 0,cs,a,a1,s,s1,e,h=>by cases h;exact Nat.le_refl _
 | k+1,c::cs,a,a1,s,s1,e,h=>by
  simp only[kK]at h
  split at h
  ·rename_i a2 s2 hx
   exact Nat.le_trans (hl.next hx) (lO hl k h)
  ·exact hl.next h
 | k+1,[],a,a1,s,s1,e,h=>by cases h
theorem ya{P:Program}{base:Nat->Prop}{run:Runner}(hl:dB run)(hrun:Cu P base run):∀ (k:Nat) {cs:List Code} {a a1:Act} {s s1:St} {ex:Exit},kK run k cs a s=some (ex,a1,s1)->(∀ c ∈ cs,bL P c)->mL s s.next s1.next->
  ∀ (ι:am) (A:Act) (w:World),cn ι a A->dA P base ι s.look w->d8 ι s s1->∀ Q:Exit->Act->World->Prop,(∀ κ A1 w1,cn κ a1 A1->Goes P base ι κ s s1 w w1->Exit.then (og P (cs.drop k) Q) Q ex A1 w1)->og P cs Q A w:=by
 intro k
 induction k with
 | zero =>
  intro cs a a1 s s1 ex h hco hwin ι A w hA hr hfr Q hQ;cases h;exact hQ ι A w hA (Goes.refl hr)
 | succ k ih =>
  intro cs a a1 s s1 ex h hco hwin ι A w hA hr hfr Q hQ;cases cs with
  | nil=>cases h
  | cons c cs =>
   simp only[kK]at h
   split at h
   ·rename_i a2 s2 hx
    have n1:=hl.next hx
    have n2:=lO hl k h;refine hrun none c a s _ a2 s2 hx (hco c (List.mem_cons_self ..)) (hwin.left n2) ι none A w trivial hA hr (hfr.left n2) _ (λκ A1 w1 hA1 g=>?_);exact ih h (λc hc=>hco c (List.mem_cons_of_mem _ hc)) (hl.win hx hwin n2) κ A1 w1 hA1 g.rep (hfr.right g n1) Q (λμ A2 w2 hA2 g2=>hQ μ A2 w2 hA2 (g.trans g2 n1 n2))
   ·rename_i hne
    refine hrun none c a s _ a1 s1 h (hco c (List.mem_cons_self ..)) hwin ι none A w trivial hA hr hfr _ (λκ A1 w1 hA1 g=>?_);have:=hQ κ A1 w1 hA1 g;cases ex with
    | normal=>exact(hne _ _ h).elim
    | _=>exact this
noncomputable def hJ(B:Base)(n N:Nat):Nat->List Code->TV->St->Option dN
 | 0,_,t,s=>some (.normal,t,[],s)
 | k+1,c::cs,t,s=>(match tq B n none N c t [] s with | some (.normal,t1,[],s1)=>hJ B n N k cs t1 s1 | some (.normal,_,_::_,_)=>none | some (e,t1,d1,s1)=>some (e,t1,d1,s1) | none=>none)
 | _+1,[],_,_=>none
theorem py{B:Base}(hB:pV B)(n N:Nat):∀ (k:Nat) {cs:List Code} {t t1:TV} {a:Act} {s s1:St} {ex:Exit} {d1:List Deferred},Env N t [] a->hJ B n N k cs t s=some (ex,t1,d1,s1)->∃ a1,kK (ev B.P n) k cs a s=some (ex,a1,s1)/\Env N t1 d1 a1:=by
 intro k
 induction k with
 | zero=>intro cs t t1 a s s1 ex d1 he h;cases h;exact⟨a,rfl,he⟩
 | succ k ih =>
  intro cs t t1 a s s1 ex d1 he h;cases cs with
  | nil=>cases h
  | cons c cs =>
   simp only[hJ]at h
   split at h
   ·rename_i t2 s2 hx
    obtain⟨a2,q1,q2⟩:=vx hB n _ _ _ _ _ _ _ _ _ _ _ he hx;simp only[kK,q1];exact ih q2 h
   ·cases h
   ·rename_i e t2 d2 s2 h1 h2 hx
    cases h;obtain⟨a2,q1,q2⟩:=vx hB n _ _ _ _ _ _ _ _ _ _ _ he hx;refine⟨a2,?_,q2⟩;simp only[kK,q1];cases ex with
    | normal =>
     cases d1 with
     | nil=>exact(h1 rfl rfl).elim
     | cons d l=>exact(h2 _ _ rfl rfl).elim
    | _=>rfl
   ·cases h
structure vK(rn:List (Nat×Nat))(bl:List ic)(F:Nat->Prop)(w:World):Prop where
 there:∀ q ∈ bl,∃ b cs',bE rn q.1=some b/\w.heap[b]? = some (.cells (List.toArray cs') q.2.2 (0,0))/\dL (bE rn) q.2.1 cs'
 inj:∀ p ∈ rn,∀ q ∈ rn,p.2=q.2->p.1=q.1
 out:∀ p ∈ rn,¬ F p.2
theorem vK.nil{F:Nat->Prop}{w:World} : vK [] [] F w:=⟨(λq h=>by cases h),(λq h=>by cases h),(λq h=>by cases h)⟩
theorem vK.one{b:Nat}{cs cs':List Value}{T:TypeId}{F:Nat->Prop}{w:World}(hb:w.heap[b]? = some (.cells cs'.toArray T (0,0)))(hc:dL (bE [(4,b)]) cs cs')(hF:¬ F b):vK [(4,b)] [(4,cs,T)] F w :=
 ⟨(λq h=>by rw[List.mem_singleton.1 h];exact⟨b,cs',rfl,hb,hc⟩),(λp hp q hq _=>by rw[List.mem_singleton.1 hp,List.mem_singleton.1 hq]),(λp hp=>by rw[List.mem_singleton.1 hp];exact hF)⟩
def eo(bl:List ic)(g:Nat):List (Nat×Obj):=(3,il g)::bl.map (λq=>(q.1,.cells q.2.1.toArray q.2.2 (0,0)))
noncomputable def tu(m:Nat)(rn:List (Nat×Nat))(bl:List ic):Bool :=
 Nat.blt (4*m) lim&&(Nat.ble 1 m&&(rn.all (λp=>Nat.blt p.1 (4*m) && !(Nat.beq p.1 3))&&bl.all (λq=>Nat.blt q.1 (4*m)&&Nat.beq (q.1%4) 0)))
structure Left(rn:List (Nat×Nat))(fK:List ic)(g':Nat)(F:Nat->Prop)(w:World)(κ:am)(w1:World):Prop where
 old:∀ id b,bE rn id=some b->κ id=some b
 blk:∀ q ∈ fK,q.2.1.all Lt=true->∃ b,κ q.1=some b/\w1.heap[b]? = some (.cells (q.2.1.map (sG κ)).toArray q.2.2 (0,0))/\(F b\/(∃ p ∈ rn,p.2=b)\/w.heap.size<=b)
 cls:∀ q ∈ fK,∃ b c',κ q.1=some b/\w1.heap[b]? = some (.cells c' q.2.2 (0,0))/\bN κ q.2.1.toArray c'
 inj:∀ q ∈ fK,∀ q' ∈ fK,κ q.1=κ q'.1->q.1=q'.1
 gh:∃ F',bg.GR g' κ F' w1/\(∀ j,F' j->j<w1.heap.size/\(F j\/(∃ p ∈ rn,p.2=j)\/w.heap.size<=j))/\∀ q ∈ fK,∀ b,κ q.1=some b->¬ F' b
 turn:Turn (λj=>F j\/∃ p ∈ rn,p.2=j) w w1
theorem nr{l:List (Nat×Nat)}{id:Nat}(h:∀ p ∈ l,p.1≠id):bE l id=none:=by
 cases hr:bE l id with
 | none=>rfl
 | some b=>exact(h _ (gp hr) rfl).elim
theorem qu{m:Nat}{rn:List (Nat×Nat)}{bl:List ic}(h:tu m rn bl=true):4*m<lim/\1<=m/\(∀ p ∈ rn,p.1<4*m/\p.1≠3)/\∀ q ∈ bl,q.1<4*m/\q.1%4=0:=by
 unfold tu at h;simp only[Bool.and_eq_true]at h;obtain⟨h1,h2,h3,h4⟩:=h;rw[List.all_eq_true]at h3 h4;refine⟨Nat.le_of_ble_eq_true h1,Nat.le_of_ble_eq_true h2,λp hp=>?_,λq hq=>?_⟩
 ·have:=h3 p hp
  simp only[Bool.and_eq_true]at this;refine⟨Nat.le_of_ble_eq_true this.1,λe=>?_⟩;rw[e]at this;exact absurd this.2 (by decide)
 ·have:=h4 q hq
  simp only[Bool.and_eq_true]at this;exact⟨Nat.le_of_ble_eq_true this.1,Nat.eq_of_beq_eq_true this.2⟩
theorem By{P:Program}{m:Nat}{rn:List (Nat×Nat)}{bl:List ic}{g:Nat}{F:Nat->Prop}{w:World}(hi:tu m rn bl=true)(hb:vK rn bl F w)(hg:bg.GR g (bE rn) F w)(hF:∀ j,F j->j<w.heap.size) :
  dA P (Rest rn F w) (bE rn) (fi (eo bl g) m).look w:=by
 obtain⟨i1,i2,i3,i4⟩:=qu hi;refine ri ?_ ?_ hb.inj hF hb.out ?_
 ·intro p hp
  rcases List.mem_cons.1 hp with rfl | hp
  ·show 3<lim;unfold lim;omega
  ·obtain⟨q,hq,rfl⟩:=List.mem_map.1 hp
   have:=(i4 q hq).1;show q.1<lim;omega
 ·intro p hp hgn
  rcases List.mem_cons.1 hp with rfl | hp
  ·cases hgn
  ·obtain⟨q,hq,rfl⟩:=List.mem_map.1 hp
   obtain⟨b,cs',h1,h2,h3⟩:=hb.there q hq;refine⟨b,_,h1,h2,rfl,cs'.toArray,rfl,by simp[h3.1],(λ_=>by simp[h3.1]),λi v v' h1 h2=>h3.2 i v v' (by simpa using h1) (by simpa using h2),λh=>?_⟩;have:=(i4 q hq).2;unfold iF at h;simp only[beq_iff_eq]at h;omega
 ·intro p hp k hk
  rcases List.mem_cons.1 hp with rfl | hp
  ·cases hk
   exact⟨rfl,nr (λp hp=>(i3 p hp).2),hg⟩
  ·obtain⟨q,hq,rfl⟩:=List.mem_map.1 hp
   cases hk
theorem yb{P:Program}{m:Nat}{rn:List (Nat×Nat)}{bl fK:List ic}{g g':Nat}{F:Nat->Prop}{w w1:World}{κ:am}{s1:St}(hi:tu m rn bl=true)(Ah:fK.all (λq=>Nat.beq (q.1%4) 0)=true)
  (gg:Goes P (Rest rn F w) (bE rn) κ (fi (eo bl g) m) s1 w w1) (hb1:∀ q ∈ fK,s1.look q.1=some (.cells q.2.1.toArray q.2.2 (0,0))) (hg1:s1.look 3=some (il g')):Left rn fK g' F w κ w1:=by
 obtain⟨i1,i2,i3,i4⟩:=qu hi;obtain⟨F',q1,q2,q3⟩:=rk gg hg1;rw[List.all_eq_true]at Ah;have LH:∀ q ∈ fK,iF q.1=false:=λq hq=>by
  have:=Nat.eq_of_beq_eq_true (Ah q hq);unfold iF;rw[this];rfl
 have rest:∀ b,¬ Rest rn F w b->F b\/(∃ p ∈ rn,p.2=b)\/w.heap.size<=b:=by
  intro b hr
  by_cases h1:F b
  ·exact .inl h1
  by_cases h2:∃ p ∈ rn,p.2=b
  ·exact .inr (.inl h2)
  rcases Nat.lt_or_ge b w.heap.size with h3 | h3
  ·exact absurd ⟨h3,h1,λp hp e=>h2 ⟨p,hp,e⟩⟩ hr
  ·exact .inr (.inr h3)
 refine⟨?_,?_,λq hq=>(by
  obtain⟨b,c',k1,k2,k3,k4⟩:=kH gg (hb1 q hq) (LH q hq)
  exact⟨b,c',k1,k2,k4⟩),?_,⟨F',q1,λj hj=>⟨(q2 j hj).1,rest j (q2 j hj).2⟩,λq hq b hk=>q3 _ _ b (hb1 q hq) hk⟩,⟨gg.below.os,gg.below.tape,gg.below.output,gg.below.size,λk hk hn=>?_⟩⟩
 ·intro id b hk
  rw[gg.ext id (.inl (by
   show id<4*m
   exact(i3 _ (gp hk)).1))]
  exact hk
 ·intro q hq hk
  obtain⟨b,c',k1,k2,k3,k4⟩:=kH gg (hb1 q hq) (LH q hq);refine⟨b,k1,by rw[k2,rj k4 (by simpa using hk)],rest b k3⟩
 ·intro q hq q' hq' e
  obtain⟨b,c',k1,_⟩:=kH gg (hb1 q hq) (LH q hq);exact gg.rep.inj _ _ _ _ b (hb1 q hq) (hb1 q' hq') k1 (by rw[← e];exact k1)
 ·exact gg.below.block k ⟨hk,λh=>hn (.inl h),λp hp e=>hn (.inr ⟨p,hp,e⟩)⟩
noncomputable def Pu:Exit->Exit->Bool
 | .normal,.normal=>true
 | .ret,.ret=>true
 | .exit i,.exit j=>Nat.beq i j
 | _,_=>false
theorem LI{e e':Exit}(h:Pu e e'=true):e=e':=by
 unfold Pu at h
 split at h
 ·rfl
 ·rfl
 ·rw[Nat.eq_of_beq_eq_true h]
 ·cases h
noncomputable def yc(ex:Exit)(live:List (Nat×Value))(fK:List ic)(g':Nat):Option dN->Bool
 | some (e,t,[],s)=>Pu e ex&&(live.all (λp=>zT 4 (t.get p.1) p.2)&&(fK.all (ER s)&&(Lu s (some g')&&fK.all (λq=>Nat.beq (q.1%4) 0))))
 | _=>false
theorem Fm{ex:Exit}{live:List (Nat×Value)}{fK:List ic}{g':Nat}{r:Option dN}(h:yc ex live fK g' r=true) :
  ∃ t s,r=some (ex,t,[],s)/\(∀ p ∈ live,t.get p.1=p.2)/\(∀ q ∈ fK,s.look q.1=some (.cells q.2.1.toArray q.2.2 (0,0)))/\s.look 3=some (il g')/\fK.all (λq=>Nat.beq (q.1%4) 0)=true:=by
 unfold yc at h
 split at h
 ·rename_i e t s
  simp only[Bool.and_eq_true]at h;obtain⟨h1,h2,h3,h4,h5⟩:=h
  obtain⟨_,k2,k3⟩:=rr (r:=.bool true) (bl:=fK) (g:=some g') (v:=.bool true) (s:=s) (by
   have h0:zT 4 (.bool true) (.bool true)=true:=rfl
   simp only[i7,h0,h3,h4,Bool.and_self])
  rw[List.all_eq_true]at h2;exact⟨t,s,by rw[LI h1],λp hp=>nl _ _ _ (h2 p hp),k2,k3 _ rfl,h5⟩
 ·cases h
theorem yd{tm:List Value}{N:Nat}(h1:tm.length=N)(h2:N<=4094){β:Type}(k:TV->β):∃ t,kY tm 0 .leaf k=k t/\Env N t [] ⟨tm.toArray,[]⟩:=by
 obtain⟨t,e,he⟩:=pk (args:=tm) (n:=N) (by omega) h2 k;refine⟨t,e,?_⟩;rw[h1,Nat.sub_self,show(Array.replicate 0 undef:Array Value) = #[] from rfl,Array.append_empty]at he;exact he
theorem IZ{P:Program}(hP:P.check=.ok ())(dh:dH P)(hm:P.follows .mixedOrders=true){n m N i k:Nat}{f:FuncId}{p:List Nat}{tm:List Value}{rn:List (Nat×Nat)}{bl fK:List ic}{g g':Nat}{ex:Exit}{live:List (Nat×Value)}
  (h:d9 P (λB=>nq B f p (λ_ c=>Nat.beq tm.length N&&(Nat.ble N 4094&&(tu m rn bl&&yc ex live fK g' (kY tm 0 .leaf (λt=>hJ B n N k ((flat c).drop i) t (fi (eo bl g) m)))))))=true)
  {F:Nat->Prop} {w:World} {A:Act} (hb:vK rn bl F w) (hg:bg.GR g (bE rn) F w) (hF:∀ j,F j->j<w.heap.size) (ha:dL (bE rn) tm A.tmps.toList) (hd:A.defers=[]) {Q:Exit->Act->World->Prop}
  (hQ:∀ κ A1 w1,A1.tmps.size=N->A1.defers=[]->(∀ p ∈ live,ao κ p.2 (A1.tmps.getD p.1 undef))->Left rn fK g' F w κ w1->Exit.then (og P (Ad P f p (i+k)) Q) Q ex A1 w1) :
  og P (Ad P f p i) Q A w:=by
 obtain⟨B,hB,rfl,hf,Ny,h⟩:=qs h;simp only[Bool.and_eq_true]at h;obtain⟨h1,h2,h3,h4⟩:=h;have h1:=Nat.eq_of_beq_eq_true h1;have h2:=Nat.le_of_ble_eq_true h2;obtain⟨t,e,he⟩:=yd h1 h2 (λt=>hJ B n N k (Ad B.P f p i) t (fi (eo bl g) m));rw[e]at h4;obtain⟨t1,s1,r1,r2,r3,r4,r5⟩:=Fm h4;obtain⟨a1,q1,q2⟩:=py hB n N k he r1;obtain⟨i1,i2,i3,i4⟩:=qu h3;refine ya (nY B.P n) (Eh hP dh hm n).1 k q1 (λc hc=>vI (x8 (vl hP hf Ny)) c (List.mem_of_mem_drop hc)) (λid x y=>?_) (bE rn) A w ⟨⟨by simpa using ha.1,λi v v' a b=>ha.2 i v v' (by simpa using a) (by simpa using b)⟩,by rw[hd];exact .nil⟩ (By h3 hb hg hF) (λid x y=>?_) Q (λκ A1 w1 hA1 gg=>?_)
 ·rw[jM m (eo bl g) id (λp hp=>by
   rcases List.mem_cons.1 hp with rfl | hp
   ·show 3<lim;unfold lim;omega
   ·obtain⟨q,hq,rfl⟩:=List.mem_map.1 hp
    have:=(i4 q hq).1;show q.1<lim
    omega)]
  cases hf:((eo bl g).find? λp=>p.1==id).map (·.2) with
  | none=>rfl
  | some o =>
   have x':4*m<=id:=x;rcases List.mem_cons.1 (lM hf) with e | hp
   ·cases e;omega
   ·obtain⟨q,hq,e⟩:=List.mem_map.1 hp
    cases e;have:=(i4 q hq).1;omega
 ·refine nr (λp hp e=>?_)
  have:=(i3 p hp).1;have x':4*m<=id:=x;omega
 ·have sz:A1.tmps.size=N:=by rw[← hA1.tmps.1,q2.sz]
  have df:A1.defers=[]:=by
   have:=hA1.H6;rw[q2.df]at this;generalize A1.defers=dd at this;cases this;rfl
  rw[List.drop_drop];refine hQ κ A1 w1 sz df (λp hp=>?_) (yb h3 r5 gg r3 r4);rw[← r2 p hp,q2.get p.1];exact uU hA1.tmps p.1
theorem I0{P:Program}(hP:P.check=.ok ())(dh:dH P)(hm:P.follows .mixedOrders=true){n m N i k:Nat}{f:FuncId}{p:List Nat}{tm:List Value}{rn:List (Nat×Nat)}{bl fK:List ic}{g g':Nat}{r:Value}
  (h:d9 P (λB=>nq B f p (λfn c=>Nat.beq tm.length N&&(Nat.beq fn.ntmps N&&(Nat.ble N 4094&&(tu m rn bl&&((fK.all (λq=>Nat.beq (q.1%4) 0)&&isNil ((flat c).drop (i+k)))&&i7 r fK (some g') (kY tm 0 .leaf (λt=>vo B.P fn (hJ B n N k ((flat c).drop i) t (fi (eo bl g) m))))))))))=true)
  {F:Nat->Prop} {w:World} {A:Act} (hb:vK rn bl F w) (hg:bg.GR g (bE rn) F w) (hF:∀ j,F j->j<w.heap.size) (ha:dL (bE rn) tm A.tmps.toList) (hd:A.defers=[]) {R:Ending->World->Prop}
  (hQ:∀ κ v' w1,ao κ r v'->Left rn fK g' F w κ w1->R (.returned v') w1) :
  og P (Ad P f p i) (bodyPostM Fence.wide 0 P (kJ P f) R) A w:=by
 obtain⟨B,hB,rfl,hf,Ny,h⟩:=qs h;simp only[Bool.and_eq_true]at h;obtain⟨h1,h0,h2,h3,⟨h5,h6⟩,h4⟩:=h;have h1:=Nat.eq_of_beq_eq_true h1;have h0:=Nat.eq_of_beq_eq_true h0;have h2:=Nat.le_of_ble_eq_true h2;obtain⟨t,e,he⟩:=yd h1 h2 (λt=>vo B.P (kJ B.P f) (hJ B n N k (Ad B.P f p i) t (fi (eo bl g) m)));rw[e]at h4;cases hx:vo B.P (kJ B.P f) (hJ B n N k (Ad B.P f p i) t (fi (eo bl g) m)) with
 | none=>rw[hx]at h4;cases h4
 | some x =>
 obtain⟨v,s1⟩:=x;rw[hx]at h4;obtain⟨rfl,r3,r4⟩:=rr h4;have r4:=r4 _ rfl;obtain⟨i1,i2,i3,i4⟩:=qu h3;have hl:=nY B.P n;obtain⟨ex,a2,s2,q1,q2⟩:∃ ex a2 s2,kK (ev B.P n) k (Ad B.P f p i) ⟨tm.toArray,[]⟩ (fi (eo bl g) m)=some (ex,a2,s2)/\jB B.P (kJ B.P f) ex a2 s2=some (v,s1):=by
  unfold vo at hx
  split at hx
  ·rename_i t d s2 hrun
   obtain⟨a1,q1,q2⟩:=py hB n N k he hrun;rw[← h0]at q2;exact⟨_,a1,s2,q1,qp q2 hx rfl⟩
  ·rename_i t d s2 hrun
   obtain⟨a1,q1,q2⟩:=py hB n N k he hrun;rw[← h0]at q2;exact⟨_,a1,s2,q1,qp q2 hx rfl⟩
  ·cases hx
 unfold jB at q2
 split at q2
 case h_2=>cases q2
 rename_i hex
 split at q2
 case h_2=>cases q2
 rename_i s3 hmk;have n1:=lO hl k q1;have n2:=(iw B.P a2.defers).next hmk
 have n3:=de B.P _ _ _ _ q2;have hwin:mL (fi (eo bl g) m) (fi (eo bl g) m).next s1.next:=λid x y=>by
  rw[jM m (eo bl g) id (λp hp=>by
   rcases List.mem_cons.1 hp with rfl | hp
   ·show 3<lim;unfold lim;omega
   ·obtain⟨q,hq,rfl⟩:=List.mem_map.1 hp
    have:=(i4 q hq).1;show q.1<lim
    omega)]
  cases hf:((eo bl g).find? λp=>p.1==id).map (·.2) with
  | none=>rfl
  | some o =>
   have x':4*m<=id:=x;rcases List.mem_cons.1 (lM hf) with e | hp
   ·cases e;omega
   ·obtain⟨q,hq,e⟩:=List.mem_map.1 hp
    cases e;have:=(i4 q hq).1;omega
 have hfr:d8 (bE rn) (fi (eo bl g) m) s1:=λid x y=>by
  refine nr (λp hp e=>?_);have:=(i3 p hp).1;have x':4*m<=id:=x;omega
 refine ya hl (Eh hP dh hm n).1 k q1 (λc hc=>vI (x8 (vl hP hf Ny)) c (List.mem_of_mem_drop hc)) (hwin.left (Nat.le_trans n2 n3)) (bE rn) A w ⟨⟨by simpa using ha.1,λi v v' a b=>ha.2 i v v' (by simpa using a) (by simpa using b)⟩,by rw[hd];exact .nil⟩ (By h3 hb hg hF) (hfr.left (Nat.le_trans n2 n3)) _ (λκ A1 w1 hA1 g1=>?_);have f1:=hfr.right g1 n1;have fin:LeavesInM Fence.wide 0 B.P (kJ B.P f) A1.tmps R A1.defers .returning w1:=by
  refine pT a2.defers A1.defers s2 s3 κ w1 hA1.H6 hmk g1.rep (f1.left n3) (λμ w2 g2=>?_);have f2:=f1.right g2 n2;obtain⟨ν,v',w3,r1,Rt,g3⟩:=iZ (pP (P:=B.P) (base:=Rest rn F w) (kJ B.P f) (hA1.tmps.mono (g2.le (f1.left n3)))) g2.rep q2 f2;have hw:=mK (P:=B.P) (kJ B.P f) A1.tmps w2 v' w3 r1;subst hw;exact⟨v',r1,hQ ν v' _ Rt (yb h3 h5 (g1.trans (g2.trans g3 n2 n3) n1 (Nat.le_trans n2 n3)) r3 r4)⟩
 cases ex with
 | normal =>
  rw[List.drop_drop];have h6':isNil (Ad B.P f p (i+k))=true:=h6;show og B.P (Ad B.P f p (i+k)) _ A1 w1;cases hs:Ad B.P f p (i+k) with
  | nil=>exact fin
  | cons c l=>rw[hs]at h6';cases h6'
 | ret=>exact fin
 | _=>cases hex
theorem vL(v':Value):∃ v:Value,∀ ι:am,ao ι v v' :=
 match v' with
 | .bool b=>⟨_,λι=>.bool b⟩
 | .int k n=>⟨_,λι=>.int k n⟩
 | .float k n=>⟨_,λι=>.float k n⟩
 | .complex k n m=>⟨_,λι=>.junk 0 _ rfl⟩
 | .string b=>⟨_,λι=>.junk 0 _ rfl⟩
 | .pointer a=>⟨_,λι=>.junk 0 _ rfl⟩
 | .slice a n c=>⟨_,λι=>.junk 0 _ rfl⟩
 | .map a=>⟨_,λι=>.junk 0 _ rfl⟩
 | .func f a b=>⟨_,λι=>.junk 0 _ rfl⟩
 | .nilFunc=>⟨_,λι=>.junk 0 _ rfl⟩
 | .iface t v=>⟨_,λι=>.junk 0 _ rfl⟩
 | .nilIface=>⟨_,λι=>.junk 0 _ rfl⟩
 | .agg f=>by
  have h:∀ i (hi:i<f.size),∃ v:Value,∀ ι:am,ao ι v f[i]:=λi hi=>vL f[i]
  exact⟨.agg (Array.ofFn (n:=f.size) λi=>Classical.choose (h i.1 i.2)),λι=>.agg _ _ (by simp) (λi v v' h1 h2=>by
   obtain⟨hi,rfl⟩:=Array.getElem?_eq_some_iff.1 h2;rw[Array.getElem?_ofFn,dif_pos hi]at h1;cases h1
   exact Classical.choose_spec (h i hi) ι)⟩
 | .tuple f=>by
  have h:∀ i (hi:i<f.size),∃ v:Value,∀ ι:am,ao ι v f[i]:=λi hi=>vL f[i]
  exact⟨.tuple (Array.ofFn (n:=f.size) λi=>Classical.choose (h i.1 i.2)),λι=>.tuple _ _ (by simp) (λi v v' h1 h2=>by
   obtain⟨hi,rfl⟩:=Array.getElem?_eq_some_iff.1 h2;rw[Array.getElem?_ofFn,dif_pos hi]at h1;cases h1
   exact Classical.choose_spec (h i hi) ι)⟩
 | .chan r=>⟨_,λι=>.junk 0 _ rfl⟩
termination_by v'
decreasing_by
 all_goals
  subst_vars
  simp only[Value.agg.sizeOf_spec,Value.tuple.sizeOf_spec];have:=Array.sizeOf_get f i hi;omega
end pieces
noncomputable def oh:List ResultVar->List Nat->Bool
 | [],[]=>true
 | .tmp i::l,j::m=>Nat.beq i j&&oh l m
 | _,_=>false
theorem rE:∀ {l:List ResultVar} {m:List Nat},oh l m=true->l=m.map .tmp
 | [],[],_=>rfl
 | .tmp i::l,j::m,h=>by
  have h':(Nat.beq i j&&oh l m)=true:=h;rw[Bool.and_eq_true]at h';rw[Nat.eq_of_beq_eq_true h'.1,rE h'.2];rfl
 | [],_::_,h=>by cases h
 | .tmp i::l,[],h=>by cases h
theorem pW{P:Program}{fn:Func}{i:Nat}{T:Array Value}{w:World}(h:fn.results.toList=[.tmp i]):(results fn T).run P w=.ok (T.getD i undef) w:=by
 unfold results;rw[Array.mapM_eq_mapM_toList,h];rfl
theorem gR{P:Program}{fn:Func}{i j:Nat}{T:Array Value}{w:World}(h:fn.results.toList=[.tmp i,.tmp j]):(results fn T).run P w=.ok (.tuple #[T.getD i undef,T.getD j undef]) w:=by
 unfold results;rw[Array.mapM_eq_mapM_toList,h];rfl
theorem Fp{P:Program}{f:FuncId}{i:Nat}(h:d9 P (λB=>nq B f [] (λfn _=>oh fn.results.toList [i]))=true){R:Ending->World->Prop}{A:Act}{w:World}(hd:A.defers=[])(hR:R (.returned (A.tmps.getD i undef)) w):bodyPostM Fence.wide 0 P (kJ P f) R .ret A w:=by
 obtain⟨B,_,_,hf,hb,h⟩:=qs h;show LeavesInM Fence.wide 0 P (kJ P f) A.tmps R A.defers .returning w;rw[hd];exact⟨_,pW (rE h),hR⟩
structure jD(l:List aG)(Fs:List (Nat->Prop))(ι:am)(F:Nat->Prop)(w:World):Prop where
 len:Fs.length=l.length
 holds:∀ (i:Nat) a f,l[i]? = some a->Fs[i]? = some f->a.p ι f w
 apart:∀ (i j:Nat) f f',i≠j->Fs[i]? = some f->Fs[j]? = some f'->∀ x,f x->¬ f' x
 all:∀ x,F x↔∃ (i:Nat) (f:Nat->Prop),Fs[i]? = some f/\f x
def star(l:List aG):aG where
 p:=λι F w=>∃ Fs,jD l Fs ι F w
 keep:=λι F w w' hk ⟨Fs,h⟩=>⟨Fs,h.len,λi a f h1 h2=>a.keep ι f w w' (λj hj=>hk j ((h.all j).2 ⟨i,f,h2,hj⟩)) (h.holds i a f h1 h2),h.apart,h.all⟩
 mono:=λι κ F w hk ⟨Fs,h⟩=>⟨Fs,h.len,λi a f h1 h2=>a.mono ι κ f w hk (h.holds i a f h1 h2),h.apart,h.all⟩
theorem jD.turn{l l':List aG}{Fs H0:List (Nat->Prop)}{ι κ:am}{F:Nat->Prop}{w w':World}(h:jD l Fs ι F w)(lt:∀ x,F x->x<w.heap.size)(C:Nat->Prop)(hle:jf ι κ)(hl:l'.length=l.length)(hf:H0.length=Fs.length)
  (same:∀ i:Nat,¬ C i->l'[i]? = l[i]?/\H0[i]? = Fs[i]?) (new:∀ (i:Nat) a f,C i->l'[i]? = some a->H0[i]? = some f->a.p κ f w')
  (Ru:∀ (i j:Nat) f f',C i->C j->i≠j->H0[i]? = some f->H0[j]? = some f'->∀ x,f x->¬ f' x)
  (sub:∀ (i:Nat) f,C i->H0[i]? = some f->∀ x,f x->x<w'.heap.size/\((∃ (j:Nat) (f0:Nat->Prop),C j/\Fs[j]? = some f0/\f0 x)\/w.heap.size<=x))
  (ht:Turn (λx=>∃ (j:Nat) (f0:Nat->Prop),C j/\Fs[j]? = some f0/\f0 x) w w') :
  ∃ F',jD l' H0 κ F' w'/\Turn F w w'/\∀ x,F' x->x<w'.heap.size/\(F x\/w.heap.size<=x):=by
 have hlt:∀ (i:Nat) f,Fs[i]? = some f->∀ x,f x->x<w.heap.size:=λi f hi x hx=>lt x ((h.all x).2 ⟨i,f,hi,hx⟩)
 refine⟨λx=>∃ (i:Nat) (f:Nat->Prop),H0[i]? = some f/\f x,⟨by rw[hf,hl,h.len],λi a f h1 h2=>?_,λi j f f' hij h1 h2 x hx hx'=>?_,λx=>Iff.rfl⟩,⟨ht.os,ht.tape,ht.output,ht.size,λx hx hn=>ht.block x hx (λ⟨j,f0,_,q2,q3⟩=>hn ((h.all x).2 ⟨j,f0,q2,q3⟩))⟩,?_⟩
 ·by_cases hc:C i
  ·exact new i a f hc h1 h2
  ·obtain⟨s1,s2⟩:=same i hc
   rw[s1]at h1;rw[s2]at h2;refine a.mono ι κ f w' hle (a.keep ι f w w' (λx hx=>ht.block x (hlt i f h2 x hx) ?_) (h.holds i a f h1 h2));rintro⟨j,f0,q1,q2,q3⟩;exact h.apart i j f f0 (λe=>hc (e▸q1)) h2 q2 x hx q3
 ·by_cases hc:C i
  ·by_cases hc':C j
   ·exact Ru i j f f' hc hc' hij h1 h2 x hx hx'
   ·rw[(same j hc').2]at h2
    rcases(sub i f hc h1 x hx).2 with ⟨j0,f0,q1,q2,q3⟩ | q
    ·exact h.apart j0 j f0 f' (λe=>hc' (e▸q1)) q2 h2 x q3 hx'
    ·have:=hlt j f' h2 x hx'
     omega
  ·rw[(same i hc).2]at h1
   by_cases hc':C j
   ·rcases(sub j f' hc' h2 x hx').2 with ⟨j0,f0,q1,q2,q3⟩ | q
    ·exact h.apart i j0 f f0 (λe=>hc (e▸q1)) h1 q2 x hx q3
    ·have:=hlt i f h1 x hx
     omega
   ·rw[(same j hc').2]at h2
    exact h.apart i j f f' hij h1 h2 x hx hx'
 ·rintro x ⟨i,f,h1,hx⟩
  by_cases hc:C i
  ·refine⟨(sub i f hc h1 x hx).1,(sub i f hc h1 x hx).2.imp (λ⟨j,f0,_,q2,q3⟩=>(h.all x).2 ⟨j,f0,q2,q3⟩) id⟩
  ·rw[(same i hc).2]at h1
   have:=hlt i f h1 x hx;exact⟨Nat.lt_of_lt_of_le this ht.size,.inl ((h.all x).2 ⟨i,f,h1,hx⟩)⟩
theorem fk{α:Type}{l:List α}{i:Nat}(hi:i<l.length)(x:α)(j:Nat):(l.set i x)[j]? = if i=j then some x else l[j]?:=by
 rw[List.getElem?_set]
 by_cases e:i=j
 ·subst e;simp[hi]
 ·simp[e]
theorem jD.one{l:List aG}{Fs:List (Nat->Prop)}{ι κ:am}{F f:Nat->Prop}{w w':World}(h:jD l Fs ι F w)(lt:∀ x,F x->x<w.heap.size){i:Nat}(hi:Fs[i]? = some f)(hle:jf ι κ)(a':aG)(f':Nat->Prop)(ha:a'.p κ f' w')(ht:Turn f w w')
  (hs:∀ x,f' x->x<w'.heap.size/\(f x\/w.heap.size<=x)):∃ F',(star (l.set i a')).p κ F' w'/\Turn F w w'/\∀ x,F' x->x<w'.heap.size/\(F x\/w.heap.size<=x):=by
 have hlt:i<Fs.length:=(List.getElem?_eq_some_iff.1 hi).1;have hlt':i<l.length:=by rw[← h.len];exact hlt
 obtain⟨F',h1,h2⟩:=h.turn (l':=l.set i a') (H0:=Fs.set i f') lt (λj=>j=i) hle (by simp) (by simp) (λj hj=>by rw[fk hlt',fk hlt,if_neg (λe=>hj e.symm),if_neg (λe=>hj e.symm)];exact⟨rfl,rfl⟩)
  (λj a g hj h1 h2=>by
   subst hj;rw[fk hlt',if_pos rfl]at h1;rw[fk hlt,if_pos rfl]at h2;cases h1;cases h2
   exact ha)
  (λj k g g' hj hk hjk=>absurd (hj.trans hk.symm) hjk)
  (λj g hj h1 x hx=>by
   subst hj;rw[fk hlt,if_pos rfl]at h1;cases h1
   exact⟨(hs x hx).1,(hs x hx).2.imp (λhf=>⟨j,f,rfl,hi,hf⟩) id⟩)
  ⟨ht.os,ht.tape,ht.output,ht.size,λx hx hn=>ht.block x hx (λhf=>hn ⟨i,f,rfl,hi,hf⟩)⟩
 exact⟨F',⟨_,h1⟩,h2⟩
theorem jD.two{l:List aG}{Fs:List (Nat->Prop)}{ι κ:am}{F f g:Nat->Prop}{w w':World}(h:jD l Fs ι F w)(lt:∀ x,F x->x<w.heap.size){i j:Nat}(hij:i≠j)(hi:Fs[i]? = some f)(hj:Fs[j]? = some g)(hle:jf ι κ)(a' b':aG)(f' g':Nat->Prop)(ha:a'.p κ f' w')(hb:b'.p κ g' w')
  (hd:∀ x,f' x->¬ g' x) (ht:Turn (λx=>f x\/g x) w w') (hs:∀ x,f' x\/g' x->x<w'.heap.size/\((f x\/g x)\/w.heap.size<=x)) :
  ∃ F',(star ((l.set i a').set j b')).p κ F' w'/\Turn F w w'/\∀ x,F' x->x<w'.heap.size/\(F x\/w.heap.size<=x):=by
 have hlt:i<Fs.length:=(List.getElem?_eq_some_iff.1 hi).1;have hlt':i<l.length:=by rw[← h.len];exact hlt
 have QD:j<Fs.length:=(List.getElem?_eq_some_iff.1 hj).1;have Pv:j<l.length:=by rw[← h.len];exact QD
 have gl:∀ k,((l.set i a').set j b')[k]? = if j=k then some b' else if i=k then some a' else l[k]?:=λk=>by rw[fk (by simpa using Pv),fk hlt']
 have gf:∀ k,((Fs.set i f').set j g')[k]? = if j=k then some g' else if i=k then some f' else Fs[k]?:=λk=>by rw[fk (by simpa using QD),fk hlt]
 have up:∀ x,(f x\/g x)->∃ (k:Nat) (f0:Nat->Prop),(k=i\/k=j)/\Fs[k]? = some f0/\f0 x:=λx hx=>hx.elim (λhx=>⟨i,f,.inl rfl,hi,hx⟩) (λhx=>⟨j,g,.inr rfl,hj,hx⟩)
 obtain⟨F',h1,h2⟩:=h.turn (l':=(l.set i a').set j b') (H0:=(Fs.set i f').set j g') lt (λk=>k=i\/k=j) hle (by simp) (by simp)
  (λk hk=>by
   have n1:¬ j=k:=λe=>hk (.inr e.symm)
   have n2:¬ i=k:=λe=>hk (.inl e.symm)
   simp[gl,gf,n1,n2])
  (λk a q hk h1 h2=>by
   rw[gl]at h1;rw[gf]at h2;rcases hk with rfl | rfl
   ·rw[if_neg (λe=>hij e.symm),if_pos rfl]at h1 h2
    cases h1;cases h2;exact ha
   ·rw[if_pos rfl]at h1 h2
    cases h1;cases h2
    exact hb)
  (λk m q q' hk hm hkm h1 h2 x hx hx'=>by
   rw[gf]at h1 h2;rcases hk with rfl | rfl<;>rcases hm with rfl | rfl
   ·exact hkm rfl
   ·rw[if_neg (λe=>hij e.symm),if_pos rfl]at h1
    rw[if_pos rfl]at h2;cases h1;cases h2;exact hd x hx hx'
   ·rw[if_pos rfl]at h1
    rw[if_neg (λe=>hij e.symm),if_pos rfl]at h2;cases h1;cases h2;exact hd x hx' hx
   ·exact hkm rfl)
  (λk q hk h1 x hx=>by
   rw[gf]at h1;rcases hk with rfl | rfl
   ·rw[if_neg (λe=>hij e.symm),if_pos rfl]at h1
    cases h1;exact⟨(hs x (.inl hx)).1,(hs x (.inl hx)).2.imp (up x) id⟩
   ·rw[if_pos rfl]at h1
    cases h1
    exact⟨(hs x (.inr hx)).1,(hs x (.inr hx)).2.imp (up x) id⟩)
  ⟨ht.os,ht.tape,ht.output,ht.size,λx hx hn=>ht.block x hx (λhf=>hn (up x hf))⟩
 exact⟨F',⟨_,h1⟩,h2⟩
theorem Fq{op:Op}{t:TypeId}(h:dV op=some [13,t]):∃ x,op=.range t x:=by
 unfold dV at h
 split at h<;>first | (cases h;done) | skip
 all_goals first | (cases h;exact⟨_,rfl⟩) | (simp at h)
theorem I1{op:Op}(h:dV op=some [14,0]):∃ x,op=.next x false:=by
 unfold dV at h
 split at h<;>first | (cases h;done) | skip
 all_goals first | (simp at h;done) | skip
 rename_i x b;cases b
 ·exact⟨_,rfl⟩
 ·simp at h
theorem Fu{op:Op} (h:dV op=some [15]):∃ x,op=.entry x:=by
 unfold dV at h
 split at h<;>first | (cases h;done) | skip
 all_goals first | (cases h;exact⟨_,rfl⟩) | (simp at h)
theorem CZ{op:Op}{t:TypeId}{b:Bool}{n:Nat}(hn:n=cond b 1 0)(h:dV op=some [5,t,n]):∃ x y,op=.lookup t x y b:=by
 subst hn;unfold dV at h
 split at h<;>first | (cases h;done) | skip
 all_goals first | (simp at h;done) | skip
 rename_i t' x y ok;cases ok<;>cases b<;>simp at h<;>subst h<;>exact⟨_,_,rfl⟩
theorem vM{op:Op}{t:TypeId}(h:dV op=some [6,t]):∃ x y z,op=.mapUpdate t x y z:=by
 unfold dV at h
 split at h<;>first | (cases h;done) | skip
 all_goals first | (cases h;exact⟨_,_,_,rfl⟩) | (simp at h)
theorem ye{op:Op}{t:TypeId}(h:dV op=some [22,t]):∃ x y,op=.mapEntry t x y:=by
 unfold dV at h
 split at h<;>first | (cases h;done) | skip
 all_goals first | (cases h;exact⟨_,_,rfl⟩) | (simp at h)
theorem tv{op:Op}{t:TypeId}(h:dV op=some [23,t]):∃ x y z,op=.entryStore t x y z:=by
 unfold dV at h
 split at h<;>first | (cases h;done) | skip
 all_goals first | (cases h;exact⟨_,_,_,rfl⟩) | (simp at h)
theorem C0{op:Op}{t u:TypeId}(h:dV op=some [12,t,u]):∃ x y,op=.call { callee:=.builtin .delete,args:=#[x,y],argTypes:=#[t,u] }:=by
 unfold dV at h
 split at h<;>first | (cases h;done) | skip
 all_goals first | (cases h;exact⟨_,_,rfl⟩) | (simp at h)
theorem LJ{op:Op}{t u:TypeId}(h:dV op=some [16,t,u]):∃ x y,op=.call { callee:=.builtin .min,args:=#[x,y],argTypes:=#[t,u] }:=by
 unfold dV at h
 split at h<;>first | (cases h;done) | skip
 all_goals first | (cases h;exact⟨_,_,rfl⟩) | (simp at h)
theorem LK{op:Op}{t u:TypeId}(h:dV op=some [17,t,u]):∃ x y,op=.call { callee:=.builtin .max,args:=#[x,y],argTypes:=#[t,u] }:=by
 unfold dV at h
 split at h<;>first | (cases h;done) | skip
 all_goals first | (cases h;exact⟨_,_,rfl⟩) | (simp at h)
theorem vN{op:Op}{t:TypeId}{f:Nat}(h:dV op=some [7,t,f]):∃ x,op=.fieldAddr t x f:=by
 unfold dV at h
 split at h<;>first | (cases h;done) | skip
 all_goals first | (cases h;exact⟨_,rfl⟩) | (simp at h)
theorem LL{ι:am}[bg]{x y z:Value}{l:List Value}(h:dL ι [x,y,z] l):∃ x' y' z',l=[x',y',z']/\ao ι x x'/\ao ι y y'/\ao ι z z':=by
 match l,h with
 | [],h=>exact absurd h.1 (by simp)
 | [_],h=>exact absurd h.1 (by simp)
 | [_,_],h=>exact absurd h.1 (by simp)
 | [x',y',z'],h=>exact⟨x',y',z',rfl,h.2 0 x x' rfl rfl,h.2 1 y y' rfl rfl,h.2 2 z z' rfl rfl⟩
 | _::_::_::_::_,h=>exact absurd h.1 (by simp)
variable(k:Kn){P:Program}{g:Nat}{d0 ng:Option Nat}{r:Value}
theorem aZ.range{t:TypeId}{x:Value}(h:letI:bg:=k.sig;∀ ι F w d x',Ask k g d0 ng ι F w d->ao ι x x'->ie P (Instr.range t x') ι d F w r ng):aZ k P ⟨[13,t],[x],none,g,d0,r,ng⟩:=by
 letI:bg:=k.sig;intro o hk ev ι F w d hv _ h1 h2 h3 h4;obtain⟨a,ho⟩:=Fq hk;rw[ho]at hv;obtain⟨x',e,hx⟩:=zV hv;simp[Op.operands]at e;subst e;obtain⟨v',w',r1,r2⟩:=h ι F w d _ ⟨h1,h2,h3,h4⟩ hx;refine⟨.value v',v',w',?_,.inl rfl,r2⟩;unfold execOp;rw[ho];simp only;rw[Sem.run_bind,r1];rfl
theorem aZ.next {x:Value}(h:letI:bg:=k.sig;∀ ι F w d x' ty,Ask k g d0 ng ι F w d->ao ι x x'->ie P (Instr.next x' false ty) ι d F w r ng):aZ k P ⟨[14,0],[x],none,g,d0,r,ng⟩:=by
 letI:bg:=k.sig;intro o hk ev ι F w d hv _ h1 h2 h3 h4;obtain⟨a,ho⟩:=I1 hk;rw[ho]at hv;obtain⟨x',e,hx⟩:=zV hv;simp[Op.operands]at e;subst e;obtain⟨v',w',r1,r2⟩:=h ι F w d _ o.type ⟨h1,h2,h3,h4⟩ hx;refine⟨.value v',v',w',?_,.inl rfl,r2⟩;unfold execOp;rw[ho];simp only;rw[Sem.run_bind,r1];rfl
theorem aZ.entry {x:Value}(h:letI:bg:=k.sig;∀ ι F w d x',Ask k g d0 ng ι F w d->ao ι x x'->ie P (Instr.entry x') ι d F w r ng):aZ k P ⟨[15],[x],none,g,d0,r,ng⟩:=by
 letI:bg:=k.sig;intro o hk ev ι F w d hv _ h1 h2 h3 h4;obtain⟨a,ho⟩:=Fu hk;rw[ho]at hv;obtain⟨x',e,hx⟩:=zV hv;simp[Op.operands]at e;subst e;obtain⟨v',w',r1,r2⟩:=h ι F w d _ ⟨h1,h2,h3,h4⟩ hx;refine⟨.value v',v',w',?_,.inl rfl,r2⟩;unfold execOp;rw[ho];simp only;rw[Sem.run_bind,r1];rfl
theorem aZ.fieldAddr{t:TypeId}{f:Nat}{x:Value}(h:letI:bg:=k.sig;∀ ι F w d x',Ask k g d0 ng ι F w d->ao ι x x'->ie P (Instr.fieldAt t x' f) ι d F w r ng):aZ k P ⟨[7,t,f],[x],none,g,d0,r,ng⟩:=by
 letI:bg:=k.sig;intro o hk ev ι F w d hv _ h1 h2 h3 h4;obtain⟨a,ho⟩:=vN hk;rw[ho]at hv;obtain⟨x',e,hx⟩:=zV hv;simp[Op.operands]at e;subst e;obtain⟨v',w',r1,r2⟩:=h ι F w d _ ⟨h1,h2,h3,h4⟩ hx;refine⟨.value v',v',w',?_,.inl rfl,r2⟩;unfold execOp;rw[ho];simp only;rw[Sem.run_bind,r1];rfl
theorem aZ.lookup{t:TypeId}{b:Bool}{n:Nat}(hn:n=cond b 1 0){x y:Value}(h:letI:bg:=k.sig;∀ ι F w d x' y',Ask k g d0 ng ι F w d->ao ι x x'->ao ι y y'->ie P (Instr.lookup t x' y' b) ι d F w r ng):aZ k P ⟨[5,t,n],[x,y],none,g,d0,r,ng⟩:=by
 letI:bg:=k.sig;intro o hk ev ι F w d hv _ h1 h2 h3 h4;obtain⟨a,b,ho⟩:=CZ hn hk;rw[ho]at hv;obtain⟨x',y',e,hx,hy⟩:=vz hv;simp[Op.operands]at e;obtain⟨rfl,rfl⟩:=e;obtain⟨v',w',r1,r2⟩:=h ι F w d _ _ ⟨h1,h2,h3,h4⟩ hx hy;refine⟨.value v',v',w',?_,.inl rfl,r2⟩;unfold execOp;rw[ho];simp only;rw[Sem.run_bind,r1];rfl
theorem aZ.mapUpdate{t:TypeId}{x y z:Value}(h:letI:bg:=k.sig;∀ ι F w d x' y' z',Ask k g d0 ng ι F w d->ao ι x x'->ao ι y y'->ao ι z z'->EY P (Instr.mapUpdate t x' y' z') ι d F w ng):aZ k P ⟨[6,t],[x,y,z],none,g,d0,undef,ng⟩:=by
 letI:bg:=k.sig;intro o hk ev ι F w d hv _ h1 h2 h3 h4;obtain⟨a,b,c,ho⟩:=vM hk;rw[ho]at hv;obtain⟨x',y',z',e,hx,hy,hz⟩:=LL hv;simp[Op.operands]at e;obtain⟨rfl,rfl,rfl⟩:=e;obtain⟨w',r1,r2⟩:=h ι F w d _ _ _ ⟨h1,h2,h3,h4⟩ hx hy hz;refine⟨.skip,undef,w',?_,.inr ⟨rfl,rfl⟩,r2⟩;unfold execOp;rw[ho];simp only;rw[Sem.run_bind,r1];rfl
theorem aZ.mapEntry{t:TypeId}{x y:Value}(h:letI:bg:=k.sig;∀ ι F w d x' y',Ask k g d0 ng ι F w d->ao ι x x'->ao ι y y'->ie P (Instr.mapEntry t x' y') ι d F w r ng):aZ k P ⟨[22,t],[x,y],none,g,d0,r,ng⟩:=by
 letI:bg:=k.sig;intro o hk ev ι F w d hv _ h1 h2 h3 h4;obtain⟨a,b,ho⟩:=ye hk;rw[ho]at hv;obtain⟨x',y',e,hx,hy⟩:=vz hv;simp[Op.operands]at e;obtain⟨rfl,rfl⟩:=e;obtain⟨v',w',r1,r2⟩:=h ι F w d _ _ ⟨h1,h2,h3,h4⟩ hx hy;refine⟨.value v',v',w',?_,.inl rfl,r2⟩;unfold execOp;rw[ho];simp only;rw[Sem.run_bind,r1];rfl
theorem aZ.entryStore{t:TypeId}{x y z:Value}(h:letI:bg:=k.sig;∀ ι F w d x' y' z',Ask k g d0 ng ι F w d->ao ι x x'->ao ι y y'->ao ι z z'->EY P (Instr.entryStore t x' y' z') ι d F w ng):aZ k P ⟨[23,t],[x,y,z],none,g,d0,undef,ng⟩:=by
 letI:bg:=k.sig;intro o hk ev ι F w d hv _ h1 h2 h3 h4;obtain⟨a,b,c,ho⟩:=tv hk;rw[ho]at hv;obtain⟨x',y',z',e,hx,hy,hz⟩:=LL hv;simp[Op.operands]at e;obtain⟨rfl,rfl,rfl⟩:=e;obtain⟨w',r1,r2⟩:=h ι F w d _ _ _ ⟨h1,h2,h3,h4⟩ hx hy hz;refine⟨.skip,undef,w',?_,.inr ⟨rfl,rfl⟩,r2⟩;unfold execOp;rw[ho];simp only;rw[Sem.run_bind,r1];rfl
theorem aZ.delete{t u:TypeId}{x y:Value}(h:letI:bg:=k.sig;∀ ι F w d x' y' ty,Ask k g d0 ng ι F w d->ao ι x x'->ao ι y y'->ie P (Builtin.delete_ #[t,u] ty #[x',y']) ι d F w r ng):aZ k P ⟨[12,t,u],[x,y],none,g,d0,r,ng⟩:=by
  letI:bg:=k.sig;intro o hk ev ι F w d hv _ h1 h2 h3 h4;obtain⟨a,b,ho⟩:=C0 hk;obtain⟨cs,he⟩:=fS (ev:=ev) ho rfl;rw[ho]at hv;obtain⟨x',y',e,hx,hy⟩:=vz hv;simp[Op.operands,Call.operands]at e;obtain⟨rfl,rfl⟩:=e;obtain⟨v',w',r1,r2⟩:=h ι F w d _ _ o.type ⟨h1,h2,h3,h4⟩ hx hy;refine⟨.value v',v',w',?_,.inl rfl,r2⟩;rw[he];have hb:builtin .delete #[t,u] o.type cs #[ev a,ev b]=(do pure (Next.value (← Builtin.delete_ #[t,u] o.type #[ev a,ev b]))):=rfl;simp only[List.map_toArray,List.map_cons,List.map_nil];rw[hb];rw[Sem.run_bind,r1];rfl
theorem aZ.min{t u:TypeId}{x y:Value}(h:letI:bg:=k.sig;∀ ι F w d x' y' ty,Ask k g d0 ng ι F w d->ao ι x x'->ao ι y y'->ie P (Builtin.min_ #[t,u] ty #[x',y']) ι d F w r ng):aZ k P ⟨[16,t,u],[x,y],none,g,d0,r,ng⟩:=by
  letI:bg:=k.sig;intro o hk ev ι F w d hv _ h1 h2 h3 h4;obtain⟨a,b,ho⟩:=LJ hk;obtain⟨cs,he⟩:=fS (ev:=ev) ho rfl;rw[ho]at hv;obtain⟨x',y',e,hx,hy⟩:=vz hv;simp[Op.operands,Call.operands]at e;obtain⟨rfl,rfl⟩:=e;obtain⟨v',w',r1,r2⟩:=h ι F w d _ _ o.type ⟨h1,h2,h3,h4⟩ hx hy;refine⟨.value v',v',w',?_,.inl rfl,r2⟩;rw[he];have hb:builtin .min #[t,u] o.type cs #[ev a,ev b]=(do pure (Next.value (← Builtin.min_ #[t,u] o.type #[ev a,ev b]))):=rfl;simp only[List.map_toArray,List.map_cons,List.map_nil];rw[hb];rw[Sem.run_bind,r1];rfl
theorem aZ.max{t u:TypeId}{x y:Value}(h:letI:bg:=k.sig;∀ ι F w d x' y' ty,Ask k g d0 ng ι F w d->ao ι x x'->ao ι y y'->ie P (Builtin.max_ #[t,u] ty #[x',y']) ι d F w r ng):aZ k P ⟨[17,t,u],[x,y],none,g,d0,r,ng⟩:=by
  letI:bg:=k.sig;intro o hk ev ι F w d hv _ h1 h2 h3 h4;obtain⟨a,b,ho⟩:=LK hk;obtain⟨cs,he⟩:=fS (ev:=ev) ho rfl;rw[ho]at hv;obtain⟨x',y',e,hx,hy⟩:=vz hv;simp[Op.operands,Call.operands]at e;obtain⟨rfl,rfl⟩:=e;obtain⟨v',w',r1,r2⟩:=h ι F w d _ _ o.type ⟨h1,h2,h3,h4⟩ hx hy;refine⟨.value v',v',w',?_,.inl rfl,r2⟩;rw[he];have hb:builtin .max #[t,u] o.type cs #[ev a,ev b]=(do pure (Next.value (← Builtin.max_ #[t,u] o.type #[ev a,ev b]))):=rfl;simp only[List.map_toArray,List.map_cons,List.map_nil];rw[hb];rw[Sem.run_bind,r1];rfl
end Go.Ev
namespace Go.Ev
open Go.RowKit Go.Maps Go.WideShapes
open Go.WideElems (Fit rd rg pl rd_key rd_val rg_of other_key)
section parts
variable{k:Kn}{P:Program}{g g':Nat}{d0:Option Nat}{r:Value}{l:List aG}{i:Nat}{a a':aG}{ι:am}{F:Nat->Prop}{w w':World}{d:Nat}
theorem eP{ng:Option Nat}(hg:k.gs[g]? = some (star l))(hi:l[i]? = some a)(q:Ask k g d0 ng ι F w d):∃ Fs f,jD l Fs ι F w/\Fs[i]? = some f/\a.p ι f w:=by
 obtain⟨b,q1,q2⟩:=q.st;rw[hg]at q1;cases q1;obtain⟨Fs,q2⟩:=q2;have hlt:i<Fs.length:=by rw[q2.len];exact(List.getElem?_eq_some_iff.1 hi).1
 exact⟨Fs,Fs[i],q2,List.getElem?_eq_getElem hlt,q2.holds i a _ hi (List.getElem?_eq_getElem hlt)⟩
theorem vO(hg':k.gs[g']? = some (star (l.set i a'))){Fs:List (Nat->Prop)}{f f':Nat->Prop}(hS:jD l Fs ι F w)(lt:∀ x,F x->x<w.heap.size)(hi:Fs[i]? = some f)(hd:ι d=none)(c:Nat){v':Value}(ha:a'.p (ι.upd d c) f' w')(ht:Turn f w w')
  (hs:∀ x,f' x->x<w'.heap.size/\(f x\/w.heap.size<=x)) (hv:letI:bg:=k.sig;ao (ι.upd d c) r v'):letI:bg:=k.sig;vi ι d F w r (some g') v' w':=by
 letI:bg:=k.sig;obtain⟨F',h1,h2,h3⟩:=hS.one lt hi (am.gZ (b:=c) hd) a' f' ha ht hs;exact⟨c,F',hv,⟨_,hg',h1⟩,h2,h3⟩
theorem iL(q:Ask k g d0 (some g') ι F w d):ι d=none:=by
 rcases q.fresh with h | h
 ·exact h
 ·cases h
end parts
inductive Lv where
 | st (v:Value)
 | dy (d:Nat)
def Lv.is(ι:am)(v:Value):Lv->Prop
 | .st v0=>v=v0
 | .dy d=>∃ c,ι d=some c/\dec c=v
theorem Lv.mono{ι κ:am}(h:jf ι κ){v:Value}{l:Lv}(hl:l.is ι v):l.is κ v:=by
 cases l with
 | st v0=>exact hl
 | dy d=>obtain⟨c,h1,h2⟩:=hl;exact⟨c,h _ _ h1,h2⟩
structure LM(P:Program)(t kT e:TypeId):Prop where
 ht:P.underlying t=some (.map kT e)
 hk:P.underlying kT=some (.int .i64)
 he:P.underlying e=some (.int .i64)
 hz:∀ w,(zeroValue e).run P w=.ok (.int .i64 0) w
def MD(i:Int):Prop:=(Lit.int .i64 i).wf=true
def Reads(D:DataW Unit)(f:Int->Option Int):Prop:=∀ i,MD i->Maps.has D (.int .i64 i)=(f i).isSome/\D.atKey (.int .i64 i) (.lit (.int .i64 0))=.lit (.int .i64 ((f i).getD 0))
def upd(f:Int->Option Int)(i:Int)(x:Option Int):Int->Option Int:=λj=>if j=i then x else f j
theorem Fv{i j:Int}(h:j≠i):(Lit.int .i64 j)≠(Lit.int .i64 i):=λe=>by cases e;exact h rfl
theorem Reads.put{D:DataW Unit}{f:Int->Option Int}(h:Reads D f)(hm:IsMap D){i x:Int} : Reads (D.put (.int .i64 i) (.lit (.int .i64 x))) (upd f i (some x)):=by
 intro j hj
 by_cases e:j=i
 ·subst e
  rw[has_put_same hm (by trivial),atKey_put_same hm (by trivial)];simp[upd]
 ·rw[has_put_other (Fv e),atKey_put_other (Fv e)]
  simpa[upd,e] using h j hj
section
variable(P:Program)(kT e:TypeId)
def Fw(b n:Nat)(f:Int->Option Int)(w:World):Prop:=∃ D:DataW Unit,w.ownsMap P kT (plainElem P e) b n D/\Reads D f
theorem Fw.keep{b n:Nat}{f:Int->Option Int}{w w':World}(h:Fw P kT e b n f w)(hk:w'.heap[b]? = w.heap[b]?):Fw P kT e b n f w':=by
 obtain⟨D,⟨es,clock,h1,h2⟩,h3⟩:=h;exact⟨D,⟨es,clock,by rw[hk];exact h1,h2⟩,h3⟩
def yf(b r n cnt:Nat)(f:Int->Option Int)(left:Int->Bool)(w:World):Prop :=
 ∃ (D:DataW Unit) (lf:Lit->Bool),w.ranges P kT (plainElem P e) b r n D lf cnt/\Reads D f/\(∀ i,MD i->lf (.int .i64 i)=left i)/\∀ i,MD i->left i=true->(f i).isSome=true
theorem yf.keep{b r n cnt:Nat}{f:Int->Option Int}{left:Int->Bool}{w w':World}(h:yf P kT e b r n cnt f left w)(hb:w'.heap[b]? = w.heap[b]?)(hr:w'.heap[r]? = w.heap[r]?):yf P kT e b r n cnt f left w':=by
 obtain⟨D,lf,⟨es,clock,since,seen,c0,h1,h2,h3,h4,h5,h6⟩,h7⟩:=h;exact⟨D,lf,⟨es,clock,since,seen,c0,by rw[hb];exact h1,h2,h3,h4,by rw[hr];exact h5,h6⟩,h7⟩
def LN(r:Nat):Value:=.pointer (some ⟨r,0,none⟩)
def Pw(b:Nat)(rv:Lv)(n cnt:Nat)(f:Int->Option Int)(left:Int->Bool):aG where
 p:=λι F w=>∃ r,rv.is ι (LN r)/\(∀ j,F j↔j=b\/j=r)/\yf P kT e b r n cnt f left w
 keep:=λι F w w' hk ⟨r,h0,h1,h2⟩=>⟨r,h0,h1,h2.keep P kT e (hk b ((h1 b).2 (.inl rfl))) (hk r ((h1 r).2 (.inr rfl)))⟩
 mono:=λι κ F w hle ⟨r,h0,h1⟩=>⟨r,Lv.mono hle h0,h1⟩
def yg(b r n cnt:Nat)(f:Int->Option Int)(left:Int->Bool)(i:Int)(w:World):Prop :=
 MD i/\(f i).isSome=true/\yf P kT e b r n cnt f left w/\∀ w2:World,w2.heap[b]? = w.heap[b]?->w2.heap[r]? = w.heap[r]?->(Instr.entry (LN r)).run P w2=.ok (.tuple #[.int .i64 i,.int .i64 ((f i).getD 0)]) w2
theorem yg.keep{b r n cnt:Nat}{f:Int->Option Int}{left:Int->Bool}{i:Int}{w w':World}(h:yg P kT e b r n cnt f left i w)(hb:w'.heap[b]? = w.heap[b]?)(hr:w'.heap[r]? = w.heap[r]?):yg P kT e b r n cnt f left i w':=by
 obtain⟨h0,h1,h2,h3⟩:=h;exact⟨h0,h1,h2.keep P kT e hb hr,λw2 k1 k2=>h3 w2 (k1.trans hb) (k2.trans hr)⟩
def LO(b r n cnt:Nat)(f:Int->Option Int)(left:Int->Bool)(i:Int):aG where
 p:=λι F w=>(∀ j,F j↔j=b\/j=r)/\yg P kT e b r n cnt f left i w
 keep:=λι F w w' hk ⟨h1,h2⟩=>⟨h1,h2.keep P kT e (hk b ((h1 b).2 (.inl rfl))) (hk r ((h1 r).2 (.inr rfl)))⟩
 mono:=λι κ F w hle h=>h
def Fx(left:Int->Bool)(i:Int):Int->Bool:=λj=>left j && !(decide (j=i))
def Nz(b r n cnt:Nat)(f:Int->Option Int)(left:Int->Bool):aG where
 p:=λι F w=>(∀ j,F j↔j=b\/j=r)/\∃ i cnt',cnt'<cnt/\left i=true/\yg P kT e b r n cnt' f (Fx left i) i w
 keep:=λι F w w' hk ⟨h1,i,c,h2,h3,h4⟩=>⟨h1,i,c,h2,h3,h4.keep P kT e (hk b ((h1 b).2 (.inl rfl))) (hk r ((h1 r).2 (.inr rfl)))⟩
 mono:=λι κ F w hle h=>h
end
section rows
variable{k:Kn}{P:Program}{g g':Nat}{d0:Option Nat}{l:List aG}{ci:Nat}{t kT e:TypeId}{b n sM sK sV:Nat}{f:Int->Option Int}{i x:Int}(M:LM P t kT e)
include M
end rows
end Go.Ev
namespace Go.Ev
open Go.RowKit
def fU(w0:World)(X:Nat->Prop):aG where
 p:=λ_ F w=>(∀ j,F j↔j<w0.heap.size/\¬ X j)/\∀ j,j<w0.heap.size->¬ X j->w.heap[j]? = w0.heap[j]?
 keep:=λι F w w' hk ⟨h1,h3⟩=>⟨h1,λj hj hx=>(hk j ((h1 j).2 ⟨hj,hx⟩)).trans (h3 j hj hx)⟩
 mono:=λ_ _ _ _ _ h=>h
abbrev Px(w0:World):aG:=fU w0 (λ_=>False)
def I2(X:Nat->Prop):Value->Prop
 | .slice (some ⟨b,_,_⟩) n _=>0<n->¬ X b
 | _=>True
theorem I3(v:Value):I2 (λ_=>False) v:=by
 unfold I2
 split
 ·exact λ_ h=>h
 ·trivial
def jd(sz:Nat)(v:Value)(n:Nat)(xs:List Value)(w0:World):Prop :=
 xs.length=n*sz/\((n=0/\∃ a c,v=.slice a 0 c)\/∃ b off c,v=.slice (some ⟨b,off,none⟩) n c/\(b<w0.heap.size/\n<=c)/\∀ j,j<n*sz->w0.cell? ⟨b,off+j,none⟩=xs[j]?)
def cY(v:Value)(m:Nat):Value :=
 match v with
 | .slice (some ⟨b,off,_⟩) _ _=>.pointer (some ⟨b,off+m,none⟩)
 | _=>.pointer none
theorem aJ(v:Value)(m:Nat):aV (cY v m)=true:=by
 unfold cY
 split<;>rfl
theorem jd.leaf{sz n:Nat}{v:Value}{xs:List Value}{w0:World}(h:jd sz v n xs w0):aV v=true:=by
 obtain⟨_,⟨_,a,c,rfl⟩ | ⟨b,off,c,rfl,_⟩⟩:=h<;>rfl
theorem Fy{w w0:World}{X:Nat->Prop}{b o:Nat}(hb:b<w0.heap.size)(hx:¬ X b)(h:∀ j,j<w0.heap.size->¬ X j->w.heap[j]? = w0.heap[j]?):w.cell? ⟨b,o,none⟩=w0.cell? ⟨b,o,none⟩:=by
 simp only[World.cell?,h b hb hx]
section rows
variable{k:Kn}{P:Program}{g:Nat}{l:List aG}{ci:Nat}{w0:World}{X:Nat->Prop}{t e:TypeId}{sL sI sP sQ sV n sz m:Nat}{v:Value}{xs:List Value}
theorem jw{ι:am}{m:Nat}{x':Value}(h:letI:bg:=k.sig;ao ι (sy m) x'):x'=k.val m:=by
 letI:bg:=k.sig;cases h with
 | sym n m' _ h=>exact h.symm
theorem oi{ι:am}{m:Nat}{x':Value}(h:k.val m=x'):letI:bg:=k.sig;ao ι (sy m) x':=by
 letI:bg:=k.sig;exact .sym m 0 x' h
def Bz(P:Program)(t:TypeId):Prop:=∀ b o x (w:World),w.cell? ⟨b,o,none⟩=some x->(Instr.loadAt t (.pointer (some ⟨b,o,none⟩))).run P w=.ok x w
end rows
def oj(w0:World)(X:Nat->Prop)(w:World):Prop:=∀ j,j<w0.heap.size->¬ X j->w.heap[j]? = w0.heap[j]?
theorem jd.old{sz n:Nat}{v:Value}{xs:List Value}{w0 w:World}{X:Nat->Prop}(h:jd sz v n xs w0)(ho:oj w0 X w)(hX:I2 X v:=by first | assumption | exact Go.Ev.I3 _):jd sz v n xs w:=by
 obtain⟨h1,h2 | ⟨b,off,c,e,⟨hb,hcap⟩,hc⟩⟩:=h
 ·exact⟨h1,.inl h2⟩
 ·subst e
  rcases Nat.eq_zero_or_pos n with h0 | h0
  ·subst h0
   exact⟨h1,.inl ⟨rfl,_,_,rfl⟩⟩
  have hX:=hX h0;have hlt:b<w.heap.size:=by
   have e1:=ho b hb hX;rw[Array.getElem?_eq_getElem hb]at e1;exact(Array.getElem?_eq_some_iff.1 e1).1
  exact⟨h1,.inr ⟨b,off,c,rfl,⟨hlt,hcap⟩,λj hj=>by rw[Fy hb hX ho];exact hc j hj⟩⟩
def DN(k:Kn)(x v:Value):Prop:=∀ ι x',(letI:bg:=k.sig;ao ι x x')->x'=v
theorem gS{k:Kn}{m:Nat}{v:Value}(h:k.val m=v):DN k (sy m) v:=λι x' hx=>by rw[jw hx,h]
theorem Fz{k:Kn}{kd:IntKind}{m:Int} : DN k (.int kd m) (.int kd m):=λι x' hx=>by
 letI:bg:=k.sig;cases hx with
 | int=>rfl
theorem om{k:Kn}{P:Program}{g:Nat}{t u:TypeId}{x y:Value}{sV:Nat}{kd:IntKind}{a b:Int}(hx:DN k x (.int kd a))(hy:DN k y (.int kd b))(hV:k.val sV=.int kd (min a b)):aZ k P ⟨[16,t,u],[x,y],none,g,none,sy sV,none⟩:=by
 refine aZ.min k ?_;letI:bg:=k.sig;intro ι F w d x' y' ty q h1 h2;rw[hx _ _ h1,hy _ _ h2];refine⟨_,w,?_,oi hV,Below.refl _ _⟩;simp[Builtin.min_,Builtin.min2]
 try (by_cases h:a<=b<;>simp[h,Int.min_def]<;>omega)
theorem I4{k:Kn}{P:Program}{g:Nat}{t u:TypeId}{x y:Value}{sV:Nat}{kd:IntKind}{a b:Int}(hx:DN k x (.int kd a))(hy:DN k y (.int kd b))(hV:k.val sV=.int kd (max a b)):aZ k P ⟨[17,t,u],[x,y],none,g,none,sy sV,none⟩:=by
 refine aZ.max k ?_;letI:bg:=k.sig;intro ι F w d x' y' ty q h1 h2;rw[hx _ _ h1,hy _ _ h2];refine⟨_,w,?_,oi hV,Below.refl _ _⟩;simp[Builtin.max_,Builtin.max2]
 try (by_cases h:a<=b<;>simp[h,Int.max_def]<;>omega)
def Flat(a:aG):Prop:=∀ ι κ F w,a.p ι F w->a.p κ F w
theorem pA{l:List aG}(h:∀ a ∈ l,Flat a):Flat (star l):=λι κ F w ⟨Fs,q⟩=>⟨Fs,q.len,λi a f h1 h2=>h a (List.mem_of_getElem? h1) ι κ f w (q.holds i a f h1 h2),q.apart,q.all⟩
structure Same(W w:World):Prop where
 os:w.os=W.os
 tape:w.tape=W.tape
 output:w.output=W.output
 size:W.heap.size<=w.heap.size
theorem Same.refl(W:World):Same W W:=⟨rfl,rfl,rfl,Nat.le_refl _⟩
theorem Same.trans{a b c:World}(h:Same a b)(k:Same b c):Same a c:=⟨k.os.trans h.os,k.tape.trans h.tape,k.output.trans h.output,Nat.le_trans h.size k.size⟩
theorem Turn.same{F:Nat->Prop}{w w':World}(h:Turn F w w'):Same w w':=⟨h.os,h.tape,h.output,h.size⟩
structure cG(l:List aG)(F:Nat->Prop)(w:World):Prop where
 st:(star l).p (λ_=>none) F w
 lt:∀ j,F j->j<w.heap.size
theorem cG.gr{k:Kn}{g:Nat}{l:List aG}{F:Nat->Prop}{w:World}(h:cG l F w)(hl:∀ a ∈ l,Flat a)(hg:k.gs[g]? = some (star l))(ι:am):letI:bg:=k.sig;bg.GR g ι F w:=⟨_,hg,pA hl _ _ F w h.st⟩
theorem Left.now{k:Kn}{g:Nat}{l:List aG}{rn:List (Nat×Nat)}{bl:List ic}{F:Nat->Prop}{w w1:World}{κ:am}(h:letI:bg:=k.sig;Left rn bl g F w κ w1)(hl:∀ a ∈ l,Flat a)(hg:k.gs[g]? = some (star l)):∃ F',cG l F' w1/\Same w w1:=by
 letI:bg:=k.sig;obtain⟨F',⟨a,q1,q2⟩,q3,q4⟩:=h.gh;rw[hg]at q1;cases q1;exact⟨F',⟨pA hl _ _ F' w1 q2,λj hj=>(q3 j hj).1⟩,h.turn.same⟩
theorem cG.part{l:List aG}{F:Nat->Prop}{w:World}(h:cG l F w){i:Nat}{a:aG}(hi:l[i]? = some a):∃ f,a.p (λ_=>none) f w:=by
 obtain⟨Fs,q⟩:=h.st;have hlt:i<Fs.length:=by rw[q.len];exact(List.getElem?_eq_some_iff.1 hi).1
 exact⟨_,q.holds i a _ hi (List.getElem?_eq_getElem hlt)⟩
theorem cG.below{l:List aG}{F:Nat->Prop}{w W:World}(h:cG l F w){i:Nat}(hi:l[i]? = some (Px W))(hs:Same W w):Below W.heap.size W w:=by
 obtain⟨f,h1,h3⟩:=h.part hi;exact⟨hs.os,hs.tape,hs.output,hs.size,λj hj=>h3 j hj (λh=>h)⟩
theorem kL(w:World):cG [] (λ_=>False) w :=
 ⟨⟨[],rfl,(λi a f h=>by cases h),(λi j f f' _ h=>by cases h),λx=>⟨λh=>h.elim,λ⟨i,f,h,_⟩=>by cases h⟩⟩,λj h=>h.elim⟩
theorem bP{a:aG}{l:List aG}{Fa F:Nat->Prop}{w:World}(ha:a.p (λ_=>none) Fa w)(hl:cG l F w)(hlt:∀ j,Fa j->j<w.heap.size)(hd:∀ j,Fa j->¬ F j):cG (a::l) (λj=>Fa j\/F j) w:=by
 obtain⟨⟨Fs,h1,h2,h3,h4⟩,h5⟩:=hl;refine⟨⟨Fa::Fs,by simp[h1],λi b f k1 k2=>?_,λi j f f' hij k1 k2 x hx hx'=>?_,λx=>⟨λh=>?_,λ⟨i,f,k1,k2⟩=>?_⟩⟩,λj hj=>hj.elim (hlt j) (h5 j)⟩
 ·cases i with
  | zero=>cases k1;cases k2;exact ha
  | succ i=>exact h2 i b f (by simpa using k1) (by simpa using k2)
 ·cases i with
  | zero =>
   cases j with
   | zero=>exact hij rfl
   | succ j =>
    cases k1;exact hd x hx ((h4 x).2 ⟨j,f',by simpa using k2,hx'⟩)
  | succ i =>
   cases j with
   | zero =>
    cases k2;exact hd x hx' ((h4 x).2 ⟨i,f,by simpa using k1,hx⟩)
   | succ j=>exact h3 i j f f' (λe=>hij (by rw[e])) (by simpa using k1) (by simpa using k2) x hx hx'
 ·rcases h with h | h
  ·exact⟨0,Fa,rfl,h⟩
  ·obtain⟨i,f,k1,k2⟩:=(h4 x).1 h
   exact⟨i+1,f,by simpa using k1,k2⟩
 ·cases i with
  | zero=>cases k1;exact .inl k2
  | succ i=>exact .inr ((h4 x).2 ⟨i,f,by simpa using k1,k2⟩)
theorem bI{a:aG}{l:List aG}{F:Nat->Prop}{w:World}(h:cG (a::l) F w):∃ Fa Fl,a.p (λ_=>none) Fa w/\cG l Fl w/\(∀ j,Fa j->¬ Fl j)/\∀ j,F j↔Fa j\/Fl j:=by
 obtain⟨⟨Fs,h1,h2,h3,h4⟩,h5⟩:=h
 match Fs,h1 with
 | Fa::Fs,h1 =>
  refine⟨Fa,λj=>∃ (i:Nat) (f:Nat->Prop),Fs[i]? = some f/\f j,h2 0 a Fa rfl rfl,⟨⟨Fs,by simpa using h1,λi b f k1 k2=>h2 (i+1) b f (by simpa using k1) (by simpa using k2),λi j f f' hij k1 k2=>h3 (i+1) (j+1) f f' (by omega) (by simpa using k1) (by simpa using k2),λx=>Iff.rfl⟩,λj ⟨i,f,k1,k2⟩=>h5 j ((h4 j).2 ⟨i+1,f,by simpa using k1,k2⟩)⟩,λj hj ⟨i,f,k1,k2⟩=>h3 0 (i+1) Fa f (by omega) rfl (by simpa using k1) j hj k2,λj=>⟨λhj=>?_,λhj=>?_⟩⟩
  ·obtain⟨i,f,k1,k2⟩:=(h4 j).1 hj
   cases i with
   | zero=>cases k1;exact .inl k2
   | succ i=>exact .inr ⟨i,f,by simpa using k1,k2⟩
  ·rcases hj with hj | ⟨i,f,k1,k2⟩
   ·exact(h4 j).2 ⟨0,Fa,rfl,hj⟩
   ·exact(h4 j).2 ⟨i+1,f,by simpa using k1,k2⟩
theorem cG.of{l:List aG}{F:Nat->Prop}{w:World}{κ:am}(hl:∀ a ∈ l,Flat a)(h:(star l).p κ F w)(hlt:∀ j,F j->j<w.heap.size):cG l F w:=⟨pA hl _ _ F w h,hlt⟩
theorem Ai{args:Array Value}{N:Nat}(h:args.size<=N):(args++Array.replicate (N-args.size) undef).size=N:=by
 simp;omega
theorem C1{args:Array Value}{N i:Nat}{v:Value}(h:args[i]? = some v):(args++Array.replicate (N-args.size) undef).getD i undef=v:=by
 have hi:=(Array.getElem?_eq_some_iff.1 h).1;rw[Array.getD_eq_getD_getElem?,Array.getElem?_append_left hi,h];rfl
end Go.Ev
