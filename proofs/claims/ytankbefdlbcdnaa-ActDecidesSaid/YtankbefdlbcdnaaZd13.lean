/- Part of a proof: see the last text. -/
import Derived.Test.YtankbefdlbcdnaaZd12
set_option linter.unusedSectionVars false
set_option linter.unusedSimpArgs false
set_option linter.unusedVariables false
namespace Go.Ev
open Go.RowKit
def Tm(l:List (Nat×Value))(A:Act):Prop:=∀ p ∈ l,A.tmps.getD p.1 undef=p.2
structure At(c:eO)(N:Nat)(tm:List (Nat×Value))(l:List aK)(A:Act)(w:World):Prop where
 sz:A.tmps.size=N
 df:A.defers=[]
 tm:Tm tm A
 hold:ay c l w
def dH(P:Program)(f:FuncId)(p:List Nat)(i k N:Nat)(c:eO)(tm:List (Nat×Value))(l:List aK)(ex:Exit){α:Type}(tm':α->List (Nat×Value))(l':α->List aK):Prop :=
 ∀ (A:Act) (w:World) (Q:Exit->Act->World->Prop),At c N tm l A w->(∀ x A1 w1,At c N (tm' x) (l' x) A1 w1->Exit.then (dF P (ia P f p (i+k)) Q) Q ex A1 w1)->dF P (ia P f p i) Q A w
def aI(P:Program)(f:FuncId)(p:List Nat)(i N:Nat)(c:eO)(tm:List (Nat×Value))(l:List aK){α:Type}(r:α->Value)(l':α->List aK):Prop :=
 ∀ (A:Act) (w:World) (R:Ending->World->Prop),At c N tm l A w->(∀ x w1,ay c (l' x) w1->R (.returned (r x)) w1)->dF P (ia P f p i) (bodyPostM Fence.wide 0 P (gH P f) R) A w
def fz[aL](κ:ag)(q:g_):aK:=bv ((κ q.1).getD 0) (q.2.1.map (dZ 3 κ)) q.2.2
def EH[aL](κ:ag)(p:Nat×Value):Nat×Value:=(p.1,dZ 3 κ p.2)
noncomputable def Cw:List Nat->Bool
 | []=>true
 | i::l=>!(xq i l)&&Cw l
theorem sW:∀ {l:List Nat},Cw l=true->l.Nodup
 | [],_=>List.nodup_nil
 | i::l,h=>by
  have h':(!(xq i l)&&Cw l)=true:=h;simp only[Bool.and_eq_true,Bool.not_eq_true']at h';exact List.nodup_cons.2 ⟨pB h'.1,sW h'.2⟩
noncomputable def qU(rn:List (Nat×Nat))(cH:List (Nat×Value))(bl:List g_)(gT:List (Nat×Value))(d9:List g_):Bool :=
 IC (rn.map Prod.fst) (bl.map Prod.fst)&&(Cw (rn.map Prod.fst)&&(Cw (d9.map Prod.fst)&&(cH.all (λp=>vt rn 3 p.2)&&(bl.all (λq=>q.2.1.all (vt rn 3))&&(gT.all (λp=>wb 3 p.2)&&d9.all (λq=>q.2.1.all (wb 3)))))))
theorem mg:∀ {rn:List (Nat×Nat)},(rn.map Prod.fst).Nodup->∀ {p:Nat×Nat},p ∈ rn->bh rn p.1=some p.2
 | [],_,p,h=>by cases h
 | q::rn,hn,p,h=>by
  rw[List.map_cons,List.nodup_cons]at hn;unfold bh;rw[List.find?_cons];rcases List.mem_cons.1 h with e | h
  ·subst e
   simp
  ·have hne:(q.1==p.1)=false:=by
    have:q.1≠p.1:=λe=>hn.1 (by rw[e];exact List.mem_map_of_mem h)
    simpa using this
   rw[hne];exact mg hn.2 h
theorem FJ{rn:List (Nat×Nat)}[aL]{bl:List g_}{gl:List aK}{F:Nat->Prop}{w:World}(xo:rn.map Prod.fst=bl.map Prod.fst)(hn:(rn.map Prod.fst).Nodup)(hk:∀ q ∈ bl,∀ v ∈ q.2.1,vt rn 3 v=true)(h:bu (bl.map (fz (bh rn))++gl) F w) :
  ∃ F',sJ rn bl F' w/\bu gl F' w/\∀ j,F j↔(∃ p ∈ rn,p.2=j)\/F' j:=by
 obtain⟨F1,F2,h1,h2,h3,h4⟩:=cC h;obtain⟨⟨Fs,q⟩,lt⟩:=h1;have hmem:∀ x ∈ bl,∃ b,(x.1,b) ∈ rn/\bh rn x.1=some b:=λx hx=>by
  have:x.1 ∈ rn.map Prod.fst:=by rw[xo];exact List.mem_map_of_mem hx
  obtain⟨p,hp,e⟩:=List.mem_map.1 this;exact⟨p.2,by rw[← e];exact hp,by rw[← e];exact mg hn hp⟩
 have hback:∀ p ∈ rn,∃ x ∈ bl,x.1=p.1:=λp hp=>by
  have:p.1 ∈ bl.map Prod.fst:=by rw[← xo];exact List.mem_map_of_mem hp
  obtain⟨x,hx,e⟩:=List.mem_map.1 this;exact⟨x,hx,e⟩
 have part:∀ (i:Nat) x,bl[i]? = some x->∃ f,Fs[i]? = some f/\(∀ j,f j↔j=(bh rn x.1).getD 0)/\w.heap[(bh rn x.1).getD 0]? = some (.cells (x.2.1.map (dZ 3 (bh rn))).toArray x.2.2 (0,0)):=by
  intro i x hx;have hl:(bl.map (fz (bh rn)))[i]? = some (fz (bh rn) x):=by rw[List.getElem?_map,hx];rfl
  have hlt:i<Fs.length:=by rw[q.len];exact(List.getElem?_eq_some_iff.1 hl).1
  have:=q.holds i _ _ hl (List.getElem?_eq_getElem hlt);exact⟨_,List.getElem?_eq_getElem hlt,this.1,this.2⟩
 have hF1:∀ j,F1 j↔∃ p ∈ rn,p.2=j:=by
  intro j;rw[q.all];constructor
  ·rintro⟨i,f,k1,k2⟩
   have hlt:i<bl.length:=by have:=(List.getElem?_eq_some_iff.1 k1).1;rw[q.len]at this;simpa using this
   obtain⟨f',e1,e2,e3⟩:=part i bl[i] (List.getElem?_eq_getElem hlt);rw[k1]at e1;cases e1;obtain⟨b,m1,m2⟩:=hmem bl[i] (by simp);rw[m2]at e2;exact⟨_,m1,((e2 j).1 k2).symm⟩
  ·rintro⟨p,hp,e⟩
   obtain⟨x,hx,ex⟩:=hback p hp;obtain⟨i,hi,ei⟩:=List.getElem_of_mem hx;obtain⟨f',e1,e2,e3⟩:=part i x (by rw[List.getElem?_eq_getElem hi,ei]);refine⟨i,f',e1,(e2 j).2 ?_⟩;rw[ex,mg hn hp];exact e.symm
 refine⟨F2,⟨λx hx=>?_,λp hp p' hp' e=>?_,λp hp hf=>h3 p.2 ((hF1 _).2 ⟨p,hp,rfl⟩) hf⟩,h2,λj=>by rw[h4 j,hF1 j]⟩
 ·obtain⟨i,hi,ei⟩:=List.getElem_of_mem hx
  obtain⟨f',e1,e2,e3⟩:=part i x (by rw[List.getElem?_eq_getElem hi,ei]);obtain⟨b,m1,m2⟩:=hmem x hx;rw[m2]at e3;refine⟨b,x.2.1.map (dZ 3 (bh rn)),m2,e3,by simp,λi v v' a1 a2=>?_⟩;rw[List.getElem?_map,a1]at a2;cases a2;exact vv 3 v (hk x hx v (List.mem_of_getElem? a1))
 ·obtain⟨x,hx,ex⟩:=hback p hp
  obtain⟨x',hx',ex'⟩:=hback p' hp';obtain⟨i,hi,ei⟩:=List.getElem_of_mem hx;obtain⟨i',hi',M2⟩:=List.getElem_of_mem hx';obtain⟨f,a1,a2,_⟩:=part i x (by rw[List.getElem?_eq_getElem hi,ei]);obtain⟨f',b1,b2,_⟩:=part i' x' (by rw[List.getElem?_eq_getElem hi',M2]);rw[ex,mg hn hp]at a2;rw[ex',mg hn hp']at b2
  by_cases hii:i=i'
  ·subst hii
   rw[← ex,← ex',← ei,← M2]
  ·exact(q.apart i i' f f' hii a1 b1 p.2 ((a2 _).2 rfl) ((b2 _).2 e)).elim
theorem vy[aL]{κ:ag}{w:World} : ∀ (bl:List g_),(bl.map Prod.fst).Nodup->(∀ q ∈ bl,∀ v ∈ q.2.1,wb 3 v=true)->(∀ q ∈ bl,∃ b c',κ q.1=some b/\w.heap[b]? = some (.cells c' q.2.2 (0,0))/\bk κ q.2.1.toArray c')->(∀ q ∈ bl,∀ q' ∈ bl,κ q.1=κ q'.1->q.1=q'.1)->
  bu (bl.map (fz κ)) (λj=>∃ q ∈ bl,κ q.1=some j) w
 | [],_,_,_,_=>dk (aX w) (λj=>⟨λh=>h.elim,λ⟨q,h,_⟩=>by cases h⟩)
 | q::bl,hn,hk,hc,hi=>by
  rw[List.map_cons,List.nodup_cons]at hn;obtain⟨b,c',e1,e2,e3⟩:=hc q (List.mem_cons_self ..);have ih:=vy bl hn.2 (λx hx=>hk x (List.mem_cons_of_mem _ hx)) (λx hx=>hc x (List.mem_cons_of_mem _ hx)) (λx hx y hy=>hi x (List.mem_cons_of_mem _ hx) y (List.mem_cons_of_mem _ hy));have ec:c'=(q.2.1.map (dZ 3 κ)).toArray:=by
   have:=pD (f:=q.2.1.toArray) (f':=c') (n:=3) e3.1 e3.2 (by rw[List.all_eq_true];exact λv hv=>hk q (List.mem_cons_self ..) v (by simpa using hv)) (λv v'=>pE 3);simpa using this
  subst ec;have eb:(κ q.1).getD 0=b:=by rw[e1];rfl
  refine dk (cf (a:=fz κ q) (Fa:=λj=>j=b) ⟨λj=>by rw[eb],by rw[eb];exact e2⟩ ih (λj hj=>by rw[hj];exact(Array.getElem?_eq_some_iff.1 e2).1) (λj hj ⟨x,hx,ex⟩=>?_)) (λj=>?_)
  ·rw[hj]at ex
   exact hn.1 (by rw[hi q (List.mem_cons_self ..) x (List.mem_cons_of_mem _ hx) (e1.trans ex.symm)];exact List.mem_map_of_mem hx)
  ·constructor
   ·rintro(h | ⟨x,hx,ex⟩)
    ·exact⟨q,List.mem_cons_self ..,by rw[h];exact e1⟩
    ·exact⟨x,List.mem_cons_of_mem _ hx,ex⟩
   ·rintro⟨x,hx,ex⟩
    rcases List.mem_cons.1 hx with e | hx
    ·subst e
     rw[e1]at ex;exact .inl (Option.some.inj ex).symm
    ·exact .inr ⟨x,hx,ex⟩
noncomputable def p9(gb:Nat->Value):Nat->Nat->List (Nat×Value)->List Value
 | 0,_,_=>[]
 | n+1,i,[]=>gb i::p9 gb n (i+1) []
 | n+1,i,p::l=>@Bool.rec (λ_=>List Value) (gb i::p9 gb n (i+1) (p::l)) (p.2::p9 gb n (i+1) l) (Nat.beq p.1 i)
theorem oD(gb:Nat->Value):∀ (n i:Nat) (l:List (Nat×Value)),(p9 gb n i l).length=n/\∀ (j:Nat) v,(p9 gb n i l)[j]? = some v->v=gb (i+j)\/(i+j,v) ∈ l
 | 0,i,l=>⟨rfl,λj v h=>by cases h⟩
 | n+1,i,[]=>by
  obtain⟨h1,h2⟩:=oD gb n (i+1) [];refine⟨by show(gb i::p9 gb n (i+1) []).length=_;rw[List.length_cons,h1],λj v h=>?_⟩
  match j with
  | 0=>cases h;exact .inl rfl
  | j+1 =>
   have:=h2 j v h;rw[show i+1+j=i+(j+1) by omega]at this;exact this
 | n+1,i,p::l=>by
  show(@Bool.rec (λ_=>List Value) (gb i::p9 gb n (i+1) (p::l)) (p.2::p9 gb n (i+1) l) (Nat.beq p.1 i)).length=_/\∀ (j:Nat) v,(@Bool.rec (λ_=>List Value) (gb i::p9 gb n (i+1) (p::l)) (p.2::p9 gb n (i+1) l) (Nat.beq p.1 i))[j]? = some v->_;cases hb:Nat.beq p.1 i with
  | true =>
   have e:=Nat.eq_of_beq_eq_true hb;obtain⟨h1,h2⟩:=oD gb n (i+1) l;refine⟨by show(p.2::p9 gb n (i+1) l).length=_;rw[List.length_cons,h1],λj v h=>?_⟩
   match j with
   | 0=>cases h;exact .inr (by rw[Nat.add_zero,← e];exact List.mem_cons_self ..)
   | j+1 =>
    have:=h2 j v h;rw[show i+1+j=i+(j+1) by omega]at this;exact this.imp id (List.mem_cons_of_mem _)
  | false =>
   obtain⟨h1,h2⟩:=oD gb n (i+1) (p::l);refine⟨by show(gb i::p9 gb n (i+1) (p::l)).length=_;rw[List.length_cons,h1],λj v h=>?_⟩
   match j with
   | 0=>cases h;exact .inl rfl
   | j+1 =>
    have:=h2 j v h;rw[show i+1+j=i+(j+1) by omega]at this;exact this
theorem FK[aL]{A:Act}{N:Nat}(hN:A.tmps.size=N){ι:ag}(live:List (Nat×Value))(hl:∀ p ∈ live,aw ι p.2 (A.tmps.getD p.1 undef)):∃ gb:Nat->Value,cx ι (p9 gb N 0 live) A.tmps.toList:=by
 have h:∀ i,∃ v:Value,∀ ι:ag,aw ι v (A.tmps.getD i undef):=λi=>sN _
 obtain⟨k1,k2⟩:=oD (λi=>Classical.choose (h i)) N 0 live;refine⟨λi=>Classical.choose (h i),by rw[k1];simp[hN],λi v v' h1 h2=>?_⟩;have e:v'=A.tmps.getD i undef:=by
  rw[Array.getElem?_toList]at h2;rw[Array.getD_eq_getD_getElem?,h2];rfl
 rcases k2 i v h1 with hv | hv
 ·rw[hv,e,Nat.zero_add]
  exact Classical.choose_spec (h i) ι
 ·rw[e]
  have:=hl _ hv;rw[Nat.zero_add]at this;exact this
theorem vz{rn:List (Nat×Nat)}{cH gT:List (Nat×Value)}{bl d9:List g_}(h:qU rn cH bl gT d9=true) :
  rn.map Prod.fst=bl.map Prod.fst/\(rn.map Prod.fst).Nodup/\(d9.map Prod.fst).Nodup/\(∀ p ∈ cH,vt rn 3 p.2=true)/\(∀ q ∈ bl,∀ v ∈ q.2.1,vt rn 3 v=true)/\(∀ p ∈ gT,wb 3 p.2=true)/\∀ q ∈ d9,∀ v ∈ q.2.1,wb 3 v=true:=by
 unfold qU at h;simp only[Bool.and_eq_true,List.all_eq_true]at h;obtain⟨h1,h2,h3,h4,h5,h6,h7⟩:=h;exact⟨xj h1,sW h2,sW h3,h4,h5,h6,h7⟩
theorem ze(k:Kn){c:eO}{N g:Nat}{rn:List (Nat×Nat)}{bl:List g_}{gl:List aK}{cH:List (Nat×Value)}(hg:k.gs[g]? = some (star (cQ c.W c.X::gl)))(xo:rn.map Prod.fst=bl.map Prod.fst)(hn:(rn.map Prod.fst).Nodup)(hk0:∀ p ∈ cH,vt rn 3 p.2=true)(hkb:∀ q ∈ bl,∀ v ∈ q.2.1,vt rn 3 v=true)
  {A:Act} {w:World} (h:letI:aL:=k.sig;At c N (cH.map (EH (bh rn))) (bl.map (fz (bh rn))++gl) A w):letI:aL:=k.sig;∃ F,sJ rn bl F w/\aL.GR g (bh rn) F w/\(∀ j,F j->j<w.heap.size)/\∃ gb:Nat->Value,cx (bh rn) (p9 gb N 0 cH) A.tmps.toList:=by
 letI:aL:=k.sig;obtain⟨sz,df,tm,hh⟩:=h;obtain⟨F,h1,h2,h3⟩:=hh.ex;obtain⟨F',b1,b2,b3⟩:=FJ xo hn hkb h1
 have ho:bu (cQ c.W c.X::gl) (λj=>(j<c.W.heap.size/\¬ c.X j)\/F' j) w:=cf ⟨λj=>Iff.rfl,λj hj hx=>h2.block j hj hx⟩ b2 (λj hj=>Nat.lt_of_lt_of_le hj.1 h2.size) (λj hj hf=>by
  rcases h3 j ((b3 j).2 (.inr hf)) with h | h
  ·exact hj.2 h
  ·omega)
 refine⟨_,⟨b1.there,b1.inj,λp hp hf=>?_⟩,⟨_,hg,(star _).mono (λ_=>none) _ _ w (λ_ _ e=>by cases e) ho.st⟩,ho.lt,FK sz cH (λp hp=>?_)⟩
 ·rcases hf with hf | hf
  ·rcases h3 p.2 ((b3 _).2 (.inl ⟨p,hp,rfl⟩)) with h | h
   ·exact hf.2 h
   ·omega
  ·exact b1.out p hp hf
 ·have e:=tm (EH (bh rn) p) (List.mem_map_of_mem hp)
  show aw _ p.2 (A.tmps.getD (EH (bh rn) p).1 undef);rw[e];exact vv 3 p.2 (hk0 p hp)
theorem vA(k:Kn){c:eO}{g':Nat}{rn:List (Nat×Nat)}{d9:List g_}{tT:List aK}(hg':k.gs[g']? = some (star (cQ c.W c.X::tT)))(hn1:(d9.map Prod.fst).Nodup)(hkb:∀ q ∈ d9,∀ v ∈ q.2.1,wb 3 v=true){F:Nat->Prop}{w w1:World}{κ:ag}(hc:Same c.W w)(L:letI:aL:=k.sig;Left rn d9 g' F w κ w1) :
  letI:aL:=k.sig;ay c (d9.map (fz κ)++tT.map (kM κ)) w1:=by
 letI:aL:=k.sig;obtain⟨F',⟨a,q1,q2⟩,q3,q4⟩:=L.gh;rw[hg']at q1;cases q1;obtain⟨Fo,Fg,⟨o1,o2⟩,n1,n2,n3⟩:=bT (ke q2 (λj hj=>(q3 j hj).1));have nb:=vy d9 hn1 hkb L.cls L.inj;have hnot:∀ j,¬ Fo j->c.X j\/c.W.heap.size<=j:=λj hj=>by
  rcases Nat.lt_or_ge j c.W.heap.size with h | h
  ·exact .inl (Classical.byContradiction λhx=>hj ((o1 j).2 ⟨h,hx⟩))
  ·exact .inr h
 have hs:=hc.trans L.turn.same;refine⟨⟨_,dB nb n1 (λj ⟨q,hq,e⟩ hf=>q4 q hq j e ((n3 j).2 (.inr hf))),⟨hs.os,hs.tape,hs.output,hs.size,λj hj hx=>o2 j hj hx⟩,λj hj=>hnot j (λhf=>?_)⟩⟩;rcases hj with ⟨q,hq,e⟩ | hj
 ·exact q4 q hq j e ((n3 j).2 (.inl hf))
 ·exact n2 j hf hj
def sX(rn:List (Nat×Nat))(κ:ag):ag:=λid=>match bh rn id with | some b=>some b | none=>κ id
theorem xu{rn:List (Nat×Nat)}{κ:ag}(h:∀ id b,bh rn id=some b->κ id=some b):sX rn κ=κ:=by
 funext id
 unfold sX;cases hr:bh rn id with
 | none=>rfl
 | some b=>exact(h id b hr).symm
theorem Ns{P:Program}(hP:P.check=.ok ())(hm:P.follows .mixedOrders=true)(k:Kn)(cE:@dV k.sig P){n m N i kk:Nat}{f:FuncId}{p:List Nat}{c:eO}(rn:List (Nat×Nat))(bl d9:List g_)(g g':Nat)(gl tT:List aK)(hg:k.gs[g]? = some (star (cQ c.W c.X::gl)))(hg':k.gs[g']? = some (star (cQ c.W c.X::tT)))(cH gT:List (Nat×Value))(ex:Exit)(hk:qU rn cH bl gT d9=true)
  (run:∀ gb:Nat->Value,letI:aL:=k.sig;dL P (λB=>iu B f p (λ_ c=>Nat.beq (p9 gb N 0 cH).length N&&(Nat.ble N 4094&&(qw m rn bl&&vf ex gT d9 g' (jl (p9 gb N 0 cH) 0 .leaf (λt=>fK B n N kk ((flat c).drop i) t (jF (dc bl g) m)))))))=true) :
  letI:aL:=k.sig;dH P f p i kk N c (cH.map (EH (bh rn))) (bl.map (fz (bh rn))++gl) ex (λκ:ag=>gT.map (EH (sX rn κ))) (λκ:ag=>d9.map (fz (sX rn κ))++tT.map (kM (sX rn κ))):=by
 letI:aL:=k.sig;intro A w Q hA hQ;obtain⟨k1,k2,k3,k4,k5,k6,k7⟩:=vz hk;obtain⟨F,b1,b2,b3,gb,b4⟩:=ze k hg k1 k2 k4 k5 hA
 refine FB hP cE hm (run gb) b1 b2 b3 b4 hA.df (λκ A1 w1 sz df lv L=>hQ κ A1 w1 (by
  show At c N (gT.map (EH (sX rn κ))) (d9.map (fz (sX rn κ))++tT.map (kM (sX rn κ))) A1 w1;rw[xu L.old]
  exact⟨sz,df,λq hq=>by
   obtain⟨p0,hp0,rfl⟩:=List.mem_map.1 hq
   exact pE 3 (lv p0 hp0) (k6 p0 hp0),vA k hg' k3 k7 hA.hold.same L⟩))
theorem K4{P:Program}(hP:P.check=.ok ())(hm:P.follows .mixedOrders=true)(k:Kn)(cE:@dV k.sig P){n m N i kk:Nat}{f:FuncId}{p:List Nat}{c:eO}(rn:List (Nat×Nat))(bl d9:List g_)(g g':Nat)(gl tT:List aK)(hg:k.gs[g]? = some (star (cQ c.W c.X::gl)))(hg':k.gs[g']? = some (star (cQ c.W c.X::tT)))(cH:List (Nat×Value))(r:Value)(hk:qU rn cH bl [(0,r)] d9=true)
  (run:∀ gb:Nat->Value,letI:aL:=k.sig;dL P (λB=>iu B f p (λfn c=>Nat.beq (p9 gb N 0 cH).length N&&(Nat.beq fn.ntmps N&&(Nat.ble N 4094&&(qw m rn bl&&((d9.all (λq=>Nat.beq (q.1%4) 0)&&isNil ((flat c).drop (i+kk)))&&qS r d9 (some g') (jl (p9 gb N 0 cH) 0 .leaf (λt=>sx B.P fn (fK B n N kk ((flat c).drop i) t (jF (dc bl g) m))))))))))=true) :
  letI:aL:=k.sig;aI P f p i N c (cH.map (EH (bh rn))) (bl.map (fz (bh rn))++gl) (λκ:ag=>dZ 3 (sX rn κ) r) (λκ:ag=>d9.map (fz (sX rn κ))++tT.map (kM (sX rn κ))):=by
 letI:aL:=k.sig;intro A w R hA hQ;obtain⟨k1,k2,k3,k4,k5,k6,k7⟩:=vz hk;obtain⟨F,b1,b2,b3,gb,b4⟩:=ze k hg k1 k2 k4 k5 hA;refine FC hP cE hm (run gb) b1 b2 b3 b4 hA.df (λκ v' w1 hv L=>?_);rw[pE 3 hv (k6 _ (List.mem_singleton.2 rfl)),← congrArg (λκ=>dZ 3 κ r) (xu L.old)]
 exact hQ κ w1 (by
  show ay c (d9.map (fz (sX rn κ))++tT.map (kM (sX rn κ))) w1;rw[xu L.old]
  exact vA k hg' k3 k7 hA.hold.same L)
theorem bx{P:Program}{f:FuncId}{N:Nat}{args:Array Value}{l:List aK}{F:Nat->Prop}{w:World}{R:Ending->World->Prop}{tm:List (Nat×Value)}(hN:dL P (λB=>iu B f [] (λfn _=>Nat.beq fn.ntmps N))=true)(hn:bu l F w)(ha:args.size<=N)(ht:∀ p ∈ tm,args[p.1]? = some p.2)
  (h:∀ A,At ⟨w,F⟩ N tm l A w->dF P (ia P f [] 0) (bodyPostM Fence.wide 0 P (gH P f) R) A w):Calls P f args w R :=
 xn hN (h _ ⟨xp ha,rfl,λp hp=>AC (ht p hp),ay.start hn⟩)
theorem At.ret{P:Program}{f:FuncId}{i N:Nat}{v:Value}{c:eO}{tm:List (Nat×Value)}{l:List aK}{A:Act}{w:World}(h:At c N tm l A w)(hr:dL P (λB=>iu B f [] (λfn _=>kc fn.results.toList [i]))=true)(hv:(i,v) ∈ tm){R:Ending->World->Prop}(hR:ay c l w->R (.returned v) w):bodyPostM Fence.wide 0 P (gH P f) R .ret A w :=
 Co hr h.df (by rw[show A.tmps.getD i undef=v from h.tm _ hv];exact hR h.hold)
theorem At.to{N:Nat}{c:eO}{tm tm':List (Nat×Value)}{l l':List aK}{A:Act}{w:World}(h:At c N tm l A w)(ht:∀ p ∈ tm',p ∈ tm)(hl:ay c l w->ay c l' w):At c N tm' l' A w:=⟨h.sz,h.df,λp hp=>h.tm p (ht p hp),hl h.hold⟩
theorem eD{P:Program}{f:FuncId}{p:List Nat}{i:Nat}{Q:Exit->Act->World->Prop}{β:Type}(hl:dL P (λB=>iu B f p (λ_ c=>xm ((flat c).drop i)))=true)(I:β->Act->World->Prop)(μ:β->Nat){x:β}{A:Act}{w:World}(h0:I x A w)
  (step:∀ x A w,I x A w->dF P (ia P f (p++[2*i]) 0) (Exit.then (λA w=>∃ y,I y A w/\μ y<μ x) (Exit.then (dF P (ia P f p (i+1)) Q) Q)) A w):dF P (ia P f p i) Q A w:=by
 refine Fz hl ?_;have key:∀ n x A w,μ x<=n->I x A w->Code.roundsIn Fence.wide 0 P (place P f (p++[2*i])) (Exit.then (dF P (ia P f p (i+1)) Q) Q) (n+1) A w:=by
  intro n
  induction n with
  | zero =>
   intro x A w hx h;rw[roundsIn_succ];refine wpIn_mono (jG (step x A w h)) (λe a w h=>?_);cases e with
   | normal=>obtain⟨y,_,h2⟩:=h;omega
   | _=>exact h
  | succ n ih =>
   intro x A w hx h;rw[roundsIn_succ];refine wpIn_mono (jG (step x A w h)) (λe a w h=>?_);cases e with
   | normal=>obtain⟨y,h1,h2⟩:=h;exact ih y a w (by omega) h1
   | _=>exact h
 exact wpIn_loop_rounds _ (key (μ x) x A w (Nat.le_refl _) h0)
def Cx(w:World):List aK->List aK->Prop
 | [],[]=>True
 | a::l,b::m=>(∀ f,a.p (λ_=>none) f w->b.p (λ_=>none) f w)/\Cx w l m
 | _,_=>False
theorem vB:∀ {l m:List aK} {F:Nat->Prop} {w:World},Cx w l m->bu l F w->bu m F w
 | [],[],_,_,_,h=>h
 | a::l,b::m,F,w,⟨h1,h2⟩,h=>by
  obtain⟨Fa,Fl,k1,k2,k3,k4⟩:=bT h;exact dk (cf (h1 Fa k1) (vB h2 k2) (λj hj=>h.lt j ((k4 j).2 (.inl hj))) k3) (λj=>(k4 j).symm)
 | [],_::_,_,_,h,_=>h.elim
 | _::_,[],_,_,h,_=>h.elim
theorem ay.conv{c:eO}{l m:List aK}{w:World}(h:ay c l w)(hi:Cx w l m):ay c m w:=by
 obtain⟨F,h1,h2,h3⟩:=h.ex;exact⟨⟨F,vB hi h1,h2,h3⟩⟩
theorem dH.conv{P:Program}{f:FuncId}{p:List Nat}{i k N:Nat}{c:eO}{tm:List (Nat×Value)}{l:List aK}{ex:Exit}{α:Type}{tm':α->List (Nat×Value)}{l' l'':α->List aK}(h:dH P f p i k N c tm l ex tm' l')(hi:∀ x w,Cx w (l' x) (l'' x)):dH P f p i k N c tm l ex tm' l'' :=
 λA w Q hA hQ=>h A w Q hA (λx A1 w1 h1=>hQ x A1 w1 ⟨h1.sz,h1.df,h1.tm,h1.hold.conv (hi x w1)⟩)
theorem aI.conv{P:Program}{f:FuncId}{p:List Nat}{i N:Nat}{c:eO}{tm:List (Nat×Value)}{l:List aK}{α:Type}{r:α->Value}{l' l'':α->List aK}(h:aI P f p i N c tm l r l')(hi:∀ x w,Cx w (l' x) (l'' x)):aI P f p i N c tm l r l'' :=
 λA w R hA hR=>h A w R hA (λx w1 h1=>hR x w1 (h1.conv (hi x w1)))
theorem bN{κ:ag}{d:Nat}{a:Value->aK}{f:Nat->Prop}{w:World}(ha:∀ v,Flat (a v))(h:(kM κ (ce d a)).p (λ_=>none) f w):(a (dec ((κ d).getD 0))).p (λ_=>none) f w:=by
 obtain⟨c,h1,h2⟩:=h;rw[h1];exact ha _ _ _ _ _ h2
def jm:List aK->Prop
 | []=>True
 | a::l=>Flat a/\jm l
theorem nj:∀ {l:List aK},jm l->∀ a ∈ l,Flat a
 | [],_,a,h=>by cases h
 | b::l,⟨h1,h2⟩,a,h=>by
  rcases List.mem_cons.1 h with rfl | h
  ·exact h1
  ·exact nj h2 a h
theorem ay.frame{m r:List aK}{F G:Nat->Prop}{w w':World}(h:ay ⟨w,F⟩ m w')(hr:bu r G w)(hd:∀ j,F j->¬ G j):ay ⟨w,λj=>F j\/G j⟩ (m++r) w':=by
 obtain⟨F',h1,h2,h3⟩:=h.ex;have hr':=ft hr (λj hj=>h2.block j (hr.lt j hj) (λhf=>hd j hf hj)) h2.size;refine⟨⟨_,dB h1 hr' (λj hj hg=>?_),⟨h2.os,h2.tape,h2.output,h2.size,λj hj hn=>h2.block j hj (λhf=>hn (.inl hf))⟩,λj hj=>hj.elim (λhj=>(h3 j hj).imp .inl id) (λhj=>.inl (.inr hj))⟩⟩;rcases h3 j hj with h | h
 ·exact hd j h hg
 ·have h0:w.heap.size<=j:=h
  have:=hr.lt j hg;omega
theorem oE{l m:List aK}{κ:ag}{F:Nat->Prop}{w:World}(h:bu l F w)(hl:m.length=l.length)(hm:∀ (i:Nat) a b f,l[i]? = some a->m[i]? = some b->a.p (λ_=>none) f w->b.p κ f w):(star m).p κ F w:=by
 obtain⟨⟨Fs,q⟩,lt⟩:=h;refine⟨Fs,by rw[q.len,hl],λi b f h1 h2=>?_,q.apart,q.all⟩;have hi:i<l.length:=by rw[← hl];exact(List.getElem?_eq_some_iff.1 h1).1
 exact hm i l[i] b f (List.getElem?_eq_getElem hi) h1 (q.holds i _ f (List.getElem?_eq_getElem hi) h2)
theorem mr(l:List aK)(idx:List Nat)(ι:ag):sel (l.map (kM ι)) idx=(sel l idx).map (kM ι):=by
 unfold sel;rw[List.map_map];refine List.map_congr_left (λi _=>?_);simp only[Function.comp,List.getD_eq_getElem?_getD,List.getElem?_map];cases l[i]? <;> rfl
theorem Cy{k:Kn}{P:Program}{c:eO}{f:FuncId}{abs args:List Value}{g g':Nat}{gl lp H0:List aK}{d0:Option Nat}{r:Value}(idx rest:List Nat)(hg:k.gs[g]? = some (star (cQ c.W c.X::gl)))(hg':k.gs[g']? = some (star (cQ c.W c.X::(H0++sel gl rest))))(hsel:jo gl.length (idx++rest)=true)(hp:sel gl idx=lp)(hf:jm lp)
  (ha:∀ ι l',(letI:aL:=k.sig;cx ι abs l')->l'=args)
  (con:∀ (w:World) (F:Nat->Prop),eC c.W c.X w->bu lp F w->(∀ j,F j->c.X j\/c.W.heap.size<=j)->Calls P f args.toArray w λe w'=>∃ (v:Value) (cd:Nat) (lv:List aK),e=.returned v/\ay ⟨w,F⟩ lv w'/\H0.length=lv.length/\
   ∀ (ι:ag) (d:Nat),(∀ y,d0=some y->y=d)->ι d=none->(letI:aL:=k.sig;aw (ι.upd d cd) r v)/\∀ (i:Nat) a b ff,lv[i]? = some a->H0[i]? = some b->a.p (λ_=>none) ff w'->b.p (ι.upd d cd) ff w'):dn k P ⟨f,abs,g,d0,r,some g'⟩:=by
 letI:aL:=k.sig;intro ι args' F w d hl h1 h2 h3 h4;have e:=ha ι _ hl;have ea:args'=args.toArray:=by rw[← e]
 subst ea;obtain⟨b,q1,q2⟩:=h1;rw[hg]at q1;cases q1;have hd:ι d=none:=h3.elim id (λh=>by cases h);obtain⟨Fo,Fg,⟨o1,o2⟩,n1,n2,n3⟩:=bT (l:=gl.map (kM ι)) (ke q2 h2);obtain⟨F',s1,s2⟩:=kf n1 (idx++rest) (by rw[List.length_map];exact hsel);have hsp:sel (gl.map (kM ι)) (idx++rest)=lp.map (kM ι)++(sel gl rest).map (kM ι):=by
  rw[mr,← hp,← List.map_append];unfold sel;rw[List.map_append]
 rw[hsp]at s1;obtain⟨F1,F2,p1,p2,p3,p4⟩:=cC s1
 have pl:bu lp F1 w:=mf p1 (by simp) (λi a b ff e1 e2 h=>by
  rw[List.getElem?_map,e2]at e1;cases e1
  exact nj hf b (List.mem_of_getElem? e2) ι _ ff w h)
 have hFg:∀ j,Fg j->c.X j\/c.W.heap.size<=j:=λj hj=>by
  rcases Nat.lt_or_ge j c.W.heap.size with h | h
  ·exact .inl (Classical.byContradiction λhx=>n2 j ((o1 j).2 ⟨h,hx⟩) hj)
  ·exact .inr h
 refine(con w F1 o2 pl (λj hj=>hFg j (s2 j ((p4 j).2 (.inl hj))))).mono ?_;rintro e' w' ⟨v,cd,lv,rfl,hh,hlen,hrel⟩;obtain⟨G,g1,g2,g3⟩:=hh.ex;obtain⟨r1,r2⟩:=hrel ι d h4 hd;have jL:∀ j,Fo j->¬ F1 j:=λj ho hf1=>n2 j ho (s2 j ((p4 j).2 (.inl hf1)))
 have kr:bu ((sel gl rest).map (kM ι)) F2 w':=ft p2 (λj hj=>g2.block j (p2.lt j hj) (λh=>p3 j h hj)) g2.size;have xv:∀ j,Fo j->j<w.heap.size:=λj hj=>h2 j ((n3 j).2 (.inl hj))
 have xw:∀ j,G j->¬ F2 j:=λj hj hf2=>by
  rcases g3 j hj with h | h
  ·exact p3 j h hf2
  ·have h0:w.heap.size<=j:=h
   have:=p2.lt j hf2;omega
 have all:=cf (a:=cQ c.W c.X) (Fa:=Fo) ⟨o1,λj hj hx=>(g2.block j (xv j ((o1 j).2 ⟨hj,hx⟩)) (jL j ((o1 j).2 ⟨hj,hx⟩))).trans (o2 j hj hx)⟩ (dB g1 kr xw) (λj hj=>Nat.lt_of_lt_of_le (xv j hj) g2.size) (λj hj hx=>by
  rcases hx with hx | hx
  ·rcases g3 j hx with h | h
   ·exact jL j hj h
   ·have h0:w.heap.size<=j:=h
    have:=xv j hj;omega
  ·exact n2 j hj (s2 j ((p4 j).2 (.inr hx))))
 refine⟨v,rfl,cd,_,r1,⟨_,hg',oE all (by simp[hlen]) (λi a b ff e1 e2 h=>?_)⟩,⟨g2.os,g2.tape,g2.output,g2.size,λj hj hn=>g2.block j hj (λhf=>hn ((n3 j).2 (.inr (s2 j ((p4 j).2 (.inl hf))))))⟩,λj hj=>⟨all.lt j hj,?_⟩⟩
 ·match i with
  | 0=>cases e1;cases e2;exact h
  | i+1 =>
   rw[List.getElem?_cons_succ]at e1 e2;rcases Nat.lt_or_ge i lv.length with hi | hi
   ·rw[List.getElem?_append_left hi]at e1
    rw[List.getElem?_append_left (by rw[hlen];exact hi)]at e2;exact r2 i a b ff e1 e2 h
   ·rw[List.getElem?_append_right hi,List.getElem?_map]at e1
    rw[List.getElem?_append_right (by rw[hlen];exact hi),hlen]at e2;rw[e2]at e1;cases e1;exact b.mono ι _ ff w' (ag.dT (b:=cd) hd) h
 ·rcases hj with hj | hj | hj
  ·exact .inl ((n3 j).2 (.inl hj))
  ·rcases g3 j hj with h | h
   ·exact .inl ((n3 j).2 (.inr (s2 j ((p4 j).2 (.inl h)))))
   ·exact .inr h
  ·exact .inl ((n3 j).2 (.inr (s2 j ((p4 j).2 (.inr hj)))))
theorem H1{k:Kn}{P:Program}{c:eO}{f:FuncId}{abs args:List Value}{g g':Nat}{gl lp lq:List aK}{r rv:Value}(idx rest:List Nat)(hg:k.gs[g]? = some (star (cQ c.W c.X::gl)))(hg':k.gs[g']? = some (star (cQ c.W c.X::(lq++sel gl rest))))(hsel:jo gl.length (idx++rest)=true)(hp:sel gl idx=lp)(hf:jm lp)
  (ha:∀ ι l',(letI:aL:=k.sig;cx ι abs l')->l'=args) (hr:∀ ι,(letI:aL:=k.sig;aw ι r rv))
  (con:∀ (w:World) (F:Nat->Prop),eC c.W c.X w->bu lp F w->(∀ j,F j->c.X j\/c.W.heap.size<=j)->Calls P f args.toArray w λe w'=>e=.returned rv/\ay ⟨w,F⟩ lq w'):dn k P ⟨f,abs,g,none,r,some g'⟩:=by
 letI:aL:=k.sig;refine Cy idx rest hg hg' hsel hp hf ha (λw F h1 h2 h3=>(con w F h1 h2 h3).mono ?_);rintro e w' ⟨rfl,hh⟩;refine⟨rv,0,lq,rfl,hh,rfl,λι d _ hd=>⟨hr _,λi a b ff e1 e2 h=>?_⟩⟩;rw[e1]at e2;cases e2;exact a.mono _ _ ff w' (λ_ _ e=>by cases e) h
theorem Cz{k:Kn}{P:Program}{c:eO}{f:FuncId}{abs args:List Value}{g g' d1:Nat}{gl lp H0:List aK}{r:Value}{ret:Value->Value}{lq:Value->List aK}(idx rest:List Nat)(hg:k.gs[g]? = some (star (cQ c.W c.X::gl)))(hg':k.gs[g']? = some (star (cQ c.W c.X::(H0++sel gl rest))))(hsel:jo gl.length (idx++rest)=true)(hp:sel gl idx=lp)(hf:jm lp)
  (ha:∀ ι l',(letI:aL:=k.sig;cx ι abs l')->l'=args) (hr:∀ (ι:ag) cd,ι d1=some cd->(letI:aL:=k.sig;aw ι r (ret (dec cd)))) (hq:∀ (ι:ag) cd w',ι d1=some cd->H0.length=(lq (dec cd)).length/\∀ (i:Nat) a b ff,(lq (dec cd))[i]? = some a->H0[i]? = some b->a.p (λ_=>none) ff w'->b.p ι ff w')
  (con:∀ (w:World) (F:Nat->Prop),eC c.W c.X w->bu lp F w->(∀ j,F j->c.X j\/c.W.heap.size<=j)->Calls P f args.toArray w λe w'=>∃ v cd,dec cd=v/\e=.returned (ret v)/\ay ⟨w,F⟩ (lq v) w'):dn k P ⟨f,abs,g,some d1,r,some g'⟩:=by
 letI:aL:=k.sig;refine Cy idx rest hg hg' hsel hp hf ha (λw F h1 h2 h3=>(con w F h1 h2 h3).mono ?_);rintro e w' ⟨v,cd,rfl,rfl,hh⟩;have up:∀ (ι:ag),(ι.upd d1 cd) d1=some cd:=λι=>by simp[ag.upd]
 refine⟨_,cd,lq (dec cd),rfl,hh,(hq _ cd w' (up (λ_=>none))).1,λι d hd0 hd=>?_⟩;obtain rfl:=hd0 d1 rfl;exact⟨hr _ cd (up ι),(hq _ cd w' (up ι)).2⟩
def aO(e:TypeId)(sz:Nat)(v:Value)(n:Nat)(xs:List Value):aK where
 p:=λ_ F w=>dG e sz v n xs F w
 keep:=λ_ F w w' hk h=>h.keep hk
 mono:=λ_ _ _ _ _ h=>h
section rows
variable{k:Kn}{P:Program}{g g':Nat}{l:List aK}{ci:Nat}{t e:TypeId}{sL sI sP sQ sV n sz m:Nat}{v:Value}{xs:List Value}{i:TypeInfo}
theorem de(hg:k.gs[g]? = some (star l))(hi:l[ci]? = some (aO e sz v n xs))(ht:P.underlying t=some (.slice e))(hsz:i.size=sz)(hL:k.val sL=v)(hV:k.val sV=.int .i64 (n:Int)):aD k P ⟨[10,t],[sy sL],none,g,none,sy sV,none⟩:=by
 subst hsz;refine aD.len k ?_;letI:aL:=k.sig;intro ι F w d x' ty q hx;obtain⟨Fs,ff,hS,hf,h1⟩:=a_ hg hi q;rw[bH hx,hL];exact⟨_,w,dG.len h1 ht ty,eB hV,Below.refl _ _⟩
theorem kh{sz n m:Nat}{v:Value}{xs:List Value}{F:Nat->Prop}{w:World}(h:dG e sz v n xs F w)(hm:m<n*sz):∃ b off c,v=.slice (some ⟨b,off,none⟩) n c/\au v m=.pointer (some ⟨b,off+m,none⟩)/\F b/\w.cell? ⟨b,off+m,none⟩=xs[m]?/\w.frozen? ⟨b,off+m,none⟩=false:=by
 obtain⟨h1,⟨_,rfl,hF⟩ | ⟨b,off,c,arr,rfl,hF,hb0,hx,hsz,hnc⟩⟩:=h
 ·simp at hm
 ·exact⟨b,off,c,rfl,rfl,(hF b).2 rfl,by rw[← hx m hm];simp[World.cell?,hb0],by simp[World.frozen?,hb0]⟩
theorem bZ{kd:IntKind}{j:Nat}(hg:k.gs[g]? = some (star l))(hi:l[ci]? = some (aO e sz v n xs))(ht:P.underlying t=some (.slice e))(cZ:P.info? e=some i)(hsz:i.size=sz)(hL:k.val sL=v)(hI:k.val sI=.int kd (j:Int))(hj:j<n)(hP:k.val sP=au v (j*sz)):aD k P ⟨[3,t],[sy sL,sy sI],none,g,none,sy sP,none⟩:=by
 subst hsz;refine aD.index k ?_;letI:aL:=k.sig;intro ι F w d x' y' q hx hy;obtain⟨Fs,ff,hS,hf,h1⟩:=a_ hg hi q;rw[bH hx,bH hy,hL,hI];obtain⟨b,off,c,e1,e2,_⟩:=dG.at (kd:=kd) h1 ht cZ hj;exact⟨_,w,e2,eB (by rw[hP,e1];rfl),Below.refl _ _⟩
theorem af{f fo:Nat}(hg:k.gs[g]? = some (star l))(hi:l[ci]? = some (aO e sz v n xs))(hm:m<n*sz)(hF:∀ b o w,(Instr.fieldAt t (.pointer (some ⟨b,o,none⟩)) f).run P w=.ok (.pointer (some ⟨b,o+fo,none⟩)) w)(hP:k.val sP=au v m)(hQ:k.val sQ=au v (m+fo)):aD k P ⟨[7,t,f],[sy sP],none,g,none,sy sQ,none⟩:=by
 refine aD.fieldAddr k ?_;letI:aL:=k.sig;intro ι F w d x' q hx;obtain⟨Fs,ff,hS,hf,h1⟩:=a_ hg hi q;rw[bH hx,hP];obtain⟨b,off,c,rfl,_,_⟩:=kh h1 hm;exact⟨_,w,hF b (off+m) w,eB (by rw[hQ];show Value.pointer (some ⟨b,off+(m+fo),none⟩)=_;rw[Nat.add_assoc]),Below.refl _ _⟩
theorem ah{x r:Value}(hg:k.gs[g]? = some (star l))(hi:l[ci]? = some (aO e sz v n xs))(hL:gS P t)(hm:xs[m]? = some x)(hn:m<n*sz)(hP:k.val sP=au v m)(hV:∀ ι,(letI:aL:=k.sig;aw ι r x)):aD k P ⟨[1,t],[sy sP],none,g,none,r,none⟩:=by
 refine aD.load k ?_;letI:aL:=k.sig;intro ι F w d x' q hx;obtain⟨Fs,ff,hS,hf,h1⟩:=a_ hg hi q;rw[bH hx,hP];obtain⟨b,off,c,_,e2,_,e3,_⟩:=kh h1 hn;rw[e2];exact⟨x,w,hL b (off+m) x w (by rw[e3,hm]),hV _,Below.refl _ _⟩
def mt(P:Program)(t:TypeId):Prop:=∀ b o x x0 (w:World),w.cell? ⟨b,o,none⟩=some x0->w.frozen? ⟨b,o,none⟩=false->x.oneCell'=true->(Instr.storeAt t (.pointer (some ⟨b,o,none⟩)) x).run P w=.ok () (w.setCell ⟨b,o,none⟩ x)
theorem iy{b o:Nat}{x:Value}{w:World}{F:Nat->Prop}(h:F b):Turn F w (w.setCell ⟨b,o,none⟩ x):=by
 have hs:=@du cP (base:=λ_=>False) (b:=b) (λh=>h) [x] o w;exact⟨hs.os,hs.tape,hs.output,by have:=@setCells_size cP b [x] o w;exact Nat.le_of_eq this.symm,λj hj hn=>@eo cP b [x] o w j (λ(e:j=b)=>hn (e▸h))⟩
theorem bD{x r:Value}(hg:k.gs[g]? = some (star l))(hi:l[ci]? = some (aO e sz v n xs))(hg':k.gs[g']? = some (star (l.set ci (aO e sz v n (xs.set m x)))))(hL:mt P t)(hn:m<n*sz)(hP:k.val sP=au v m)(hV:∀ ι y,(letI:aL:=k.sig;aw ι r y)->y=x)(hc:x.oneCell'=true):aD k P ⟨[2,t],[sy sP,r],none,g,none,undef,some g'⟩:=by
 refine aD.store k ?_;letI:aL:=k.sig;intro ι F w d x' y' q hx hy;obtain⟨Fs,ff,hS,hf,h1⟩:=a_ hg hi q;rw[bH hx,hP,hV _ _ hy];obtain⟨b,off,c,e1,e2,e0,e3,e4⟩:=kh h1 hn;rw[e2];have hlt:m<xs.length:=by rw[h1.1];exact hn
 rw[List.getElem?_eq_getElem hlt]at e3;have hset:=dG.set (b:=b) (off:=off) (c:=c) h1 e1 hn x;exact⟨_,hL b (off+m) x _ w e3 e4 hc,dS hg' hS q.lt hf (bU q) 0 hset (iy e0) (λj hj=>⟨Nat.lt_of_lt_of_le (h1.lt j hj) (iy (x:=x) (o:=off+m) e0).size,.inl hj⟩) (cB _)⟩
end rows
section
variable{P:Program}{kT e:TypeId}{b r n cnt d:Nat}{f:Int->Option Int}{left:Int->Bool}{i:Int}{c:eO}{l:List aK}{w:World}{κ:ag}
theorem ay.next(h:ay c (Jp P kT e b r n cnt f left::l) w):∃ i c',c'<cnt/\left i=true/\nZ i/\(f i).isSome=true/\ay c (HY P kT e b r n c' f (Cs left i) i::l) w:=by
 obtain⟨⟨i,c'⟩,⟨h1,h2,h3,h4⟩,hh⟩:=h.vq (b:=λx:Int×Nat=>HY P kT e b r n x.2 f (Cs left x.1) x.1) (p:=λx=>x.2<cnt/\left x.1=true/\nZ x.1/\(f x.1).isSome=true) (λF ⟨h1,i,c',h2,h3,h4⟩=>⟨(i,c'),⟨h2,h3,h4.1,h4.2.1⟩,h1,h4⟩);exact⟨i,c',h1,h2,h3,h4,hh⟩
theorem ay.cur(h:ay c (HY P kT e b r n cnt f left i::l) w):ay c (K2 P kT e b (.st (HX r)) n cnt f left::l) w :=
 h.head (λF ⟨h1,h2⟩=>⟨r,rfl,h1,h2.2.2.1⟩)
end
section
variable{k:Kn}{P:Program}{g g':Nat}{l:List aK}{ci:Nat}{t u e:TypeId}{sL sP sQ sV n sz m:Nat}{v:Value}{xs:List Value}{i:TypeInfo}{z:Value}
theorem sY{ι:ag}{c c':List Value}(h:letI:aL:=k.sig;cx ι c c')(ho:c.all oneCell=true):∀ u ∈ c',u.oneCell'=true:=by
 letI:aL:=k.sig;intro u hu;rw[List.all_eq_true]at ho;obtain⟨i,hi⟩:=List.getElem?_of_mem hu;have hlt:i<c.length:=by
  rw[h.1];exact(List.getElem?_eq_some_iff.1 hi).1
 exact one_one ((h.2 i _ _ (List.getElem?_eq_getElem hlt) hi).one (ho _ (List.getElem_mem hlt)))
theorem iA{d1 e':Nat}{c cs:List Value}(hg:k.gs[g]? = some (star l))(hi:l[ci]? = some (aO e sz v n xs))(hg':k.gs[g']? = some (star (l.set ci (ce d1 (λv'=>aO e sz v' (n+m) (xs++cs))))))(ht:P.underlying t=some (.slice e))(hu:P.underlying u=some (.slice e'))(cZ:P.info? e=some i)(hsz:i.size=sz)(h0:0<sz)(hz:i.zero=some z)(hzs:z.cells.size=i.size)
  (hb:(n+m)*i.bytes<=140737488355328) (hnm:n+m<=1000000000) (hL:k.val sL=v) (hm:c.length=m*sz) (hc:∀ ι c',(letI:aL:=k.sig;cx ι c c')->c'=cs):aD k P ⟨[11,t,u],[sy sL],some (sz,1,c),g,some d1,.complex .f32 d1 0,some g'⟩:=by
 subst hsz;refine aD.append k ?_;letI:aL:=k.sig;intro ι F w d x' y' c' m' ty q hx hcr hcm ho hr hl;obtain⟨Fs,ff,hS,hf,h1⟩:=a_ hg hi q;have hmm:m'=m:=Nat.eq_of_mul_eq_mul_right h0 (by rw[← hcm,hm]);subst hmm;obtain rfl:=q.name d1 rfl;rw[bH hx,hL];have hs:Src P i.size u y' m' c' w:=⟨.inl ⟨_,hu⟩,hl,hr w rfl,hr w.drew rfl,by rw[← hcr.1];exact hm,sY hcr ho⟩;obtain⟨v2,w2,F2,r1,r2,r3,r4⟩:=dG.append (ty:=ty) h1 ht cZ hz hzs hs hb hnm;rw[hc _ _ hcr]at r2;obtain⟨cc,hcc⟩:=r2.code;have hup:(ι.upd d1 cc) d1=some cc:=by simp[ag.upd]
 exact⟨v2,w2,r1,dS hg' hS q.lt hf (bU q) cc ⟨cc,hup,by rw[hcc];exact r2⟩ r3 r4 (.dyn d1 cc v2 hup hcc)⟩
theorem CA{w0:World}{X:Nat->Prop}{f:FuncId}{abs args:List Value}{r rv:Value}(hg:k.gs[g]? = some (star l))(hi:l[ci]? = some (cQ w0 X))(hc:∀ w,eC w0 X w->Calls P f args.toArray w λe w'=>e=.returned rv/\Below w.heap.size w w')(hr:∀ ι,(letI:aL:=k.sig;aw ι r rv))
  (ha:∀ ι l',(letI:aL:=k.sig;cx ι abs l')->l'=args):dn k P ⟨f,abs,g,none,r,none⟩:=by
 letI:aL:=k.sig;intro ι args' F w d hl h1 h2 h3 h4;have e:=ha ι _ hl;obtain⟨b,q1,q2⟩:=h1;rw[hg]at q1;cases q1;obtain⟨Fs,q2⟩:=q2;have hlt:ci<Fs.length:=by rw[q2.len];exact(List.getElem?_eq_some_iff.1 hi).1
 obtain⟨_,o3⟩:=q2.holds ci _ _ hi (List.getElem?_eq_getElem hlt);have ea:args'=args.toArray:=by rw[← e]
 rw[ea];refine(hc w o3).mono ?_;rintro e w' ⟨rfl,hb⟩;exact⟨_,rfl,hr ι,hb⟩
theorem pF:∀ ι l',(letI:aL:=k.sig;cx ι [] l')->l'=[]:=by
 letI:aL:=k.sig;intro ι l' h;exact List.eq_nil_of_length_eq_zero h.1.symm
theorem cN{x v:Value}{abs args:List Value}(hx:oC k x v)(h:∀ ι l',(letI:aL:=k.sig;cx ι abs l')->l'=args):∀ ι l',(letI:aL:=k.sig;cx ι (x::abs) l')->l'=v::args:=by
 letI:aL:=k.sig;intro ι l' hl
 match l',hl with
 | [],hl=>exact absurd hl.1 (by simp)
 | y::l',hl =>
  rw[hx ι y (hl.2 0 x y rfl rfl),h ι l' ⟨by simpa using hl.1,λi a b e1 e2=>hl.2 (i+1) a b (by simpa using e1) (by simpa using e2)⟩]
theorem isBool{k:Kn}{b:Bool} : oC k (.bool b) (.bool b):=λι x' hx=>by
 letI:aL:=k.sig;cases hx with
 | bool=>rfl
theorem isAgg{k:Kn}{abs cs:List Value}(h:∀ ι l',(letI:aL:=k.sig;cx ι abs l')->l'=cs):oC k (.agg abs.toArray) (.agg cs.toArray):=λι x' hx=>by
 letI:aL:=k.sig;cases hx with
 | agg f f' hf hh =>
  have:=h ι f'.toList ⟨by simpa using hf,λi v v' e1 e2=>hh i v v' (by simpa using e1) (by simpa using e2)⟩;rw[← this]
theorem H2{k:Kn} : oC k (.pointer none) (.pointer none):=λι x' hx=>by
 letI:aL:=k.sig;cases hx with
 | lM=>rfl
theorem nl{k:Kn} : oC k (.slice none 0 0) (.slice none 0 0):=λι x' hx=>by
 letI:aL:=k.sig;cases hx with
 | cz=>rfl
variable{b:Nat}{cs:List Value}{T:TypeId}
theorem ai(hP:k.val sP=.pointer (some ⟨b,m,none⟩)):aD k P ⟨[9],[sy sP],none,g,none,sy sP,none⟩:=by
 letI:aL:=k.sig;intro o hk ev ι F w d hv _ h1 h2 h3 h4;obtain⟨a,ho⟩:=vm hk;rw[ho]at hv;obtain⟨x',e,hx⟩:=sG hv;simp[Op.operands]at e;subst e;refine⟨.value (ev a),ev a,w,?_,.inl rfl,hx,Below.refl _ _⟩;have ea:ev a=.pointer (some ⟨b,m,none⟩):=by rw[bH hx,hP]
 simp[execOp,ho,ea]
end
theorem dG.ro{e:TypeId}{sz n:Nat}{v:Value}{xs:List Value}{F:Nat->Prop}{w:World}(h:dG e sz v n xs F w):c7 sz v n xs w:=by
 obtain⟨h1,⟨he,h2,_⟩ | ⟨b,off,c,arr,rfl,hF,hb0,hx,hsz,hnc⟩⟩:=h
 ·obtain⟨a,rfl⟩:=he.base
  exact⟨h1,.inl ⟨h2,_,_,rfl⟩⟩
 ·refine⟨h1,.inr ⟨b,off,c,rfl,⟨(Array.getElem?_eq_some_iff.1 hb0).1,hnc⟩,λj hj=>?_⟩⟩
  rw[← hx j hj];simp[World.cell?,hb0]
theorem dG.off{e:TypeId}{sz n:Nat}{v:Value}{xs:List Value}{F X:Nat->Prop}{w:World}(h:dG e sz v n xs F w)(hd:∀ j,F j->¬ X j):fL X v:=by
 obtain⟨h1,⟨he,h2,_⟩ | ⟨b,off,c,arr,rfl,hF,hb0,hx,hsz,hnc⟩⟩:=h
 ·rcases he with rfl | ⟨b,off,rfl⟩
  ·trivial
  ·exact λh0=>absurd h0 (Nat.lt_irrefl 0)
 ·exact λ_=>hd b ((hF b).2 rfl)
theorem c7.H3{sz n:Nat}{v:Value}{xs:List Value}{w0:World}{X Y:Nat->Prop}(h:c7 sz v n xs w0)(hX:fL X v)(hY:∀ j,j<w0.heap.size->¬ X j->¬ Y j):fL Y v:=by
 obtain⟨h1,⟨rfl,a,c,rfl⟩ | ⟨b,off,c,rfl,⟨hb,_⟩,_⟩⟩:=h
 ·cases a with
  | none=>trivial
  | some a=>exact λh0=>absurd h0 (Nat.lt_irrefl 0)
 ·exact λh0=>hY b hb (hX h0)
def jM(P:Program)(kT e:TypeId)(v:Value)(n:Nat)(f:Int->Option Int):aK where
 p:=λ_ F w=>∃ b,v=.map (some b)/\(∀ j,F j↔j=b)/\vn P kT e b n f w
 keep:=λι F w w' hk ⟨b,h0,h1,h2⟩=>⟨b,h0,h1,h2.keep P kT e (hk b ((h1 b).2 rfl))⟩
 mono:=λ_ _ _ _ _ h=>h
theorem ay.jM{P:Program}{kT e:TypeId}{v:Value}{n:Nat}{f:Int->Option Int}{c:eO}{l:List aK}{w:World}(h:ay c (jM P kT e v n f::l) w):∃ b,v=.map (some b)/\ay c (mapA P kT e b n f::l) w :=
 h.vq (λF ⟨b,h0,h1,h2⟩=>⟨b,h0,h1,h2⟩)
theorem ay.pG{e:TypeId}{sz:Nat}{c:eO}{l:List aK}{w:World}(h:ay c l w):ay c (aO e sz (.slice none 0 0) 0 []::l) w:=by
 obtain⟨F,h1,h2,h3⟩:=h.ex;refine⟨⟨_,cf (a:=aO e sz (.slice none 0 0) 0 []) (dG.nil e sz w) h1 (λj hj=>hj.elim) (λj hj=>hj.elim),h2,λj hj=>hj.elim (λh=>h.elim) (h3 j)⟩⟩
theorem pH{op:Op}{t:TypeId}(h:cy op=some [18,t]):op=.makeMap t none:=by
 unfold cy at h
 split at h<;>first | (cases h;done) | skip
 all_goals first | (cases h;rfl) | (simp at h)
section
variable{k:Kn}{P:Program}{g g':Nat}{l:List aK}{t kT e:TypeId}
theorem grow_end{r:Value}{ι:ag}{F f':Nat->Prop}{w w':World}{d:Nat}{a':aK}(hg':k.gs[g']? = some (star (l++[a'])))(hS:(star l).p ι F w)(lt:∀ x,F x->x<w.heap.size)(hd:ι d=none)(c:Nat){v':Value}(ha:a'.p (ι.upd d c) f' w')(hb:Below w.heap.size w w')(hs:∀ x,f' x->x<w'.heap.size/\w.heap.size<=x)(hv:letI:aL:=k.sig;aw (ι.upd d c) r v'):letI:aL:=k.sig;si ι d F w r (some g') v' w':=by
 letI:aL:=k.sig;obtain⟨Fs,q⟩:=hS;refine⟨c,λj=>F j\/f' j,hv,⟨_,hg',Fs++[f'],by simp[q.len],λi a f h1 h2=>?_,λi j f f2 hij h1 h2 x hx hx'=>?_,λx=>⟨λh=>?_,λ⟨i,f,h1,h2⟩=>?_⟩⟩,Turn.below hb,λj hj=>?_⟩
 ·rcases Nat.lt_or_ge i l.length with hi | hi
  ·rw[List.getElem?_append_left hi]at h1
   rw[List.getElem?_append_left (by rw[q.len];exact hi)]at h2;refine a.mono ι _ f w' (ag.dT (b:=c) hd) (a.keep ι f w w' (λx hx=>hb.block x (lt x ((q.all x).2 ⟨i,f,h2,hx⟩))) (q.holds i a f h1 h2))
  ·rw[List.getElem?_append_right hi]at h1
   rw[List.getElem?_append_right (by rw[q.len];exact hi),q.len]at h2;cases hk:i-l.length with
   | zero=>rw[hk]at h1 h2;cases h1;cases h2;exact ha
   | succ m=>rw[hk]at h1;cases h1
 ·rcases Nat.lt_or_ge i Fs.length with hi | hi
  ·rw[List.getElem?_append_left hi]at h1
   rcases Nat.lt_or_ge j Fs.length with hj | hj
   ·rw[List.getElem?_append_left hj]at h2
    exact q.apart i j f f2 hij h1 h2 x hx hx'
   ·rw[List.getElem?_append_right hj]at h2
    cases hk:j-Fs.length with
    | zero =>
     rw[hk]at h2;cases h2;have h3:=lt x ((q.all x).2 ⟨i,f,h1,hx⟩);have h4:=(hs x hx').2;omega
    | succ m=>rw[hk]at h2;cases h2
  ·rw[List.getElem?_append_right hi]at h1
   cases hk:i-Fs.length with
   | succ m=>rw[hk]at h1;cases h1
   | zero =>
    rw[hk]at h1;cases h1;rcases Nat.lt_or_ge j Fs.length with hj | hj
    ·rw[List.getElem?_append_left hj]at h2
     have h3:=lt x ((q.all x).2 ⟨j,f2,h2,hx'⟩);have h4:=(hs x hx).2;omega
    ·rw[List.getElem?_append_right hj]at h2
     cases hk':j-Fs.length with
     | zero=>omega
     | succ m=>rw[hk']at h2;cases h2
 ·rcases h with h | h
  ·obtain⟨i,f,h1,h2⟩:=(q.all x).1 h
   exact⟨i,f,by rw[List.getElem?_append_left (List.getElem?_eq_some_iff.1 h1).1];exact h1,h2⟩
  ·exact⟨Fs.length,f',by simp,h⟩
 ·rcases Nat.lt_or_ge i Fs.length with hi | hi
  ·rw[List.getElem?_append_left hi]at h1
   exact .inl ((q.all x).2 ⟨i,f,h1,h2⟩)
  ·rw[List.getElem?_append_right hi]at h1
   cases hk:i-Fs.length with
   | zero=>rw[hk]at h1;cases h1;exact .inr h2
   | succ m=>rw[hk]at h1;cases h1
 ·rcases hj with hj | hj
  ·exact⟨Nat.lt_of_lt_of_le (lt j hj) hb.size,.inl hj⟩
  ·exact⟨(hs j hj).1,.inr (hs j hj).2⟩
theorem sZ{d1:Nat}(hg:k.gs[g]? = some (star l))(hg':k.gs[g']? = some (star (l++[ce d1 (λv=>jM P kT e v 0 (λ_=>none))]))):aD k P ⟨[18,t],[],none,g,some d1,.complex .f32 d1 0,some g'⟩:=by
 letI:aL:=k.sig;intro o hk ev ι F w d hv _ h1 h2 h3 h4;have ho:=pH hk;obtain⟨b,q1,q2⟩:=h1;rw[hg]at q1;cases q1;obtain rfl:=h4 d1 rfl;have hd:ι d1=none:=h3.elim id (λh=>by cases h);refine⟨.value (.map (some w.heap.size)),.map (some w.heap.size),w.alloc (.map #[] 0),?_,.inl rfl,?_⟩
 ·simp[execOp,ho,Instr.makeMap,newObj]
  rfl
 ·have hup:(ι.upd d1 (fb 2 w.heap.size)) d1=some (fb 2 w.heap.size):=by simp[ag.upd]
  refine grow_end hg' q2 h2 hd (fb 2 w.heap.size) (f':=λj=>j=w.heap.size) ⟨_,hup,w.heap.size,j5 _,λj=>Iff.rfl,.map [],World.ownsMap_made w P kT _,λi hi=>?_⟩ ((Below.refl _ _).alloc (Nat.le_refl _) _) (λx hx=>⟨by rw[hx];simp,by rw[hx];exact Nat.le_refl _⟩) (.dyn d1 _ _ hup (j5 _));exact⟨rfl,rfl⟩
end
theorem FL{k:Kn}{P:Program}{c:eO}{f:FuncId}{abs args:List Value}{g g' d1:Nat}{gl lp:List aK}{r:Value}{ret:Value->Value}(fs:List (Value->aK))(idx rest:List Nat)(hg:k.gs[g]? = some (star (cQ c.W c.X::gl)))(hg':k.gs[g']? = some (star (cQ c.W c.X::(fs.map (ce d1)++sel gl rest))))(hsel:jo gl.length (idx++rest)=true)(hp:sel gl idx=lp)(hf:jm lp)
  (ha:∀ ι l',(letI:aL:=k.sig;cx ι abs l')->l'=args) (hr:∀ (ι:ag) cd,ι d1=some cd->(letI:aL:=k.sig;aw ι r (ret (dec cd))))
  (con:∀ (w:World) (F:Nat->Prop),eC c.W c.X w->bu lp F w->(∀ j,F j->c.X j\/c.W.heap.size<=j)->Calls P f args.toArray w λe w'=>∃ v cd,dec cd=v/\e=.returned (ret v)/\ay ⟨w,F⟩ (fs.map (λf=>f v)) w'):dn k P ⟨f,abs,g,some d1,r,some g'⟩:=by
 refine Cz (lq:=λv=>fs.map (λf=>f v)) idx rest hg hg' hsel hp hf ha hr (λι cd w' hi=>⟨by simp,λi a b ff h1 h2 h=>?_⟩) con;rw[List.getElem?_map]at h1 h2;cases hfi:fs[i]? with
 | none=>rw[hfi]at h1;cases h1
 | some q =>
  rw[hfi]at h1 h2;cases h1;cases h2;exact⟨cd,hi,(q (dec cd)).mono _ _ ff w' (λ_ _ e=>by cases e) h⟩
def cutV(sz:Nat)(v:Value)(lo hi:Nat):Value :=
 match v with
 | .slice none _ c=>.slice none (hi-lo) (c-lo)
 | .slice (some a) _ c=>.slice (some (if c=lo then a else a.add (lo*sz))) (hi-lo) (c-lo)
 | v=>v
theorem iB{sz lo hi:Nat}{v:Value}(h:aR v=true):aR (cutV sz v lo hi)=true:=by
 unfold cutV
 split
 ·rfl
 ·rfl
 ·exact h
theorem c7.cut{sz n lo hi:Nat}{v:Value}{xs:List Value}{w0:World}(h:c7 sz v n xs w0)(h1:lo<=hi)(h2:hi<=n):c7 sz (cutV sz v lo hi) (hi-lo) ((xs.drop (lo*sz)).take ((hi-lo)*sz)) w0:=by
 obtain⟨hl,hv⟩:=h;have e1:=Nat.mul_le_mul_right sz h1;have e2:=Nat.mul_le_mul_right sz h2;have e3:(hi-lo)*sz=hi*sz-lo*sz:=Nat.sub_mul ..;have hlen:((xs.drop (lo*sz)).take ((hi-lo)*sz)).length=(hi-lo)*sz:=by
  rw[List.length_take,List.length_drop,hl];omega
 refine⟨hlen,?_⟩;rcases hv with ⟨rfl,a,c,rfl⟩ | ⟨b,off,c,rfl,⟨hb,hc⟩,hx⟩
 ·obtain rfl:hi=0:=by omega
  obtain rfl:lo=0:=by omega
  refine .inl ⟨rfl,?_⟩;cases a with
  | none=>exact⟨_,_,rfl⟩
  | some a=>exact⟨_,_,rfl⟩
 ·by_cases e0:hi-lo=0
  ·refine .inl ⟨e0,?_⟩
   unfold cutV;simp only[e0];exact⟨_,_,rfl⟩
  ·have hne:¬ c=lo:=by omega
   refine .inr ⟨b,off+lo*sz,c-lo,?_,⟨hb,by omega⟩,λj hj=>?_⟩
   ·unfold cutV
    simp only[if_neg hne,dY]
   ·rw[Nat.add_assoc,hx _ (by omega),List.getElem?_take,if_pos hj,List.getElem?_drop]
theorem qy{op:Op}{t:TypeId}(h:cy op=some [4,t,1,1,0]):∃ x lo hi,op=.slice t x (some lo) (some hi) none:=by
 unfold cy at h
 split at h<;>first | (cases h;done) | skip
 all_goals first | (simp at h;done) | skip
 rename_i t' x lo hi mx;cases lo<;>cases hi<;>cases mx<;>simp at h
 subst h;exact⟨_,_,_,rfl⟩
section cuts
variable{k:Kn}{P:Program}{g:Nat}{t e:TypeId}{sL sA sB sV n sz lo hi:Nat}{v:Value}{xs:List Value}{w0:World}{i:TypeInfo}{kd kd':IntKind}
theorem zf{CB hiv:Option Value}(hlo:CB=none/\lo=0\/CB=some (.int kd (lo:Int)))(hhi:hiv=some (.int kd' (hi:Int)))(hs:c7 sz v n xs w0)(ht:P.underlying t=some (.slice e))(cZ:P.info? e=some i)(hsz:i.size=sz)(h1:lo<=hi)(h2:hi<=n)(w:World) :
  (Instr.sliceAt t v CB hiv none).run P w=.ok (cutV sz v lo hi) w:=by
 subst hsz;subst hhi;have hbd:∀ c:Nat,n<=c->(Instr.sliceBounds true n c CB (some (.int kd' (hi:Int))) none).run P w=.ok (lo,hi,c) w:=by
  intro c hc;have e1:(hi:Int)<=(c:Int):=by omega
  have e2:(lo:Int)<=(hi:Int):=by omega
  rcases hlo with ⟨rfl,rfl⟩ | rfl
  ·simp[Instr.sliceBounds,run_sliceBound,e1]
  ·simp[Instr.sliceBounds,run_sliceBound,e1,e2]
 have hs':(Instr.sliceAt t v CB (some (.int kd' (hi:Int))) none).run P w=(Instr.slice t v CB (some (.int kd' (hi:Int))) none).run P w:=by
  simp[Instr.sliceAt,run_underlying ht]
 rw[hs'];obtain⟨hl,⟨rfl,a,c,rfl⟩ | ⟨b,off,c,rfl,⟨hb,hc⟩,hx⟩⟩:=hs
 ·obtain rfl:hi=0:=by omega
  obtain rfl:lo=0:=by omega
  cases a with
  | none =>
   simp only[Instr.slice,Sem.run_bind,run_underlying ht,Result.andThen];rw[hbd c (Nat.zero_le _)];simp[sizeOf,typeInfo,cZ,cutV]
  | some a =>
   simp only[Instr.slice,Sem.run_bind,run_underlying ht,Result.andThen];rw[hbd c (Nat.zero_le _)]
   by_cases e0:c=0<;>simp[sizeOf,typeInfo,cZ,cutV,e0]
 ·simp only[Instr.slice,Sem.run_bind,run_underlying ht,Result.andThen]
  rw[hbd c hc]
  by_cases e0:c=lo<;>simp[sizeOf,typeInfo,cZ,cutV,e0]
theorem aD.AE{k:Kn}{d0 ng:Option Nat}{r x y z:Value}(h:letI:aL:=k.sig;∀ ι F w d x' y' z',Ask k g d0 ng ι F w d->aw ι x x'->aw ι y y'->aw ι z z'->eA P (Instr.sliceAt t x' (some y') (some z') none) ι d F w r ng):aD k P ⟨[4,t,1,1,0],[x,y,z],none,g,d0,r,ng⟩:=by
 letI:aL:=k.sig;intro o hk ev ι F w d hv _ h1 h2 h3 h4;obtain⟨a,b,c,ho⟩:=qy hk;rw[ho]at hv;obtain⟨x',y',z',e,hx,hy,hz⟩:=HV hv;simp[Op.operands]at e;obtain⟨rfl,rfl,rfl⟩:=e;obtain⟨v',w',r1,r2⟩:=h ι F w d _ _ _ ⟨h1,h2,h3,h4⟩ hx hy hz;refine⟨.value v',v',w',?_,.inl rfl,r2⟩;unfold execOp;rw[ho];simp only[Option.map_some,Option.map_none];rw[Sem.run_bind,r1];rfl
theorem FM(hs:c7 sz v n xs w0)(ht:P.underlying t=some (.slice e))(cZ:P.info? e=some i)(hsz:i.size=sz)(hL:k.val sL=v)(hA:k.val sA=.int kd (lo:Int))(hB:k.val sB=.int kd' (hi:Int))(h1:lo<=hi)(h2:hi<=n)(hV:k.val sV=cutV sz v lo hi):aD k P ⟨[4,t,1,1,0],[sy sL,sy sA,sy sB],none,g,none,sy sV,none⟩:=by
 refine aD.AE ?_;letI:aL:=k.sig;intro ι F w d x' y' z' q hx hy hz;rw[bH hx,bH hy,bH hz,hL,hA,hB];exact⟨_,w,zf (.inr rfl) rfl hs ht cZ hsz h1 h2 w,eB hV,Below.refl _ _⟩
end cuts
theorem CD{k:Kn}{ι:ag}{a b a' b':Value}(h:letI:aL:=k.sig;aw ι a a')(h':letI:aL:=k.sig;aw ι b b'):letI:aL:=k.sig;aw ι (.tuple #[a,b]) (.tuple #[a',b']):=by
 letI:aL:=k.sig;refine .tuple _ _ rfl (λi v v' h1 h2=>?_)
 match i with
 | 0=>cases h1;cases h2;exact h
 | 1=>cases h1;cases h2;exact h'
 | i+2=>simp at h1
def CF(l:List aK):aK where
 p:=λ_ F w=>bu l F w
 keep:=λ_ F w w' hk h=>⟨(star l).keep _ F w w' hk h.st,λj hj=>by
  have h1:=hk j hj;rw[Array.getElem?_eq_getElem (h.lt j hj)]at h1
  exact(Array.getElem?_eq_some_iff.1 h1).1⟩
 mono:=λ_ _ _ _ _ h=>h
def Jt{β:Type}(q:β->Prop)(a:β->aK):aK where
 p:=λι F w=>∃ x,q x/\(a x).p ι F w
 keep:=λι F w w' hk ⟨x,h1,h2⟩=>⟨x,h1,(a x).keep ι F w w' hk h2⟩
 mono:=λι κ F w hle ⟨x,h1,h2⟩=>⟨x,h1,(a x).mono ι κ F w hle h2⟩
theorem CG{l m:List aK}{F:Nat->Prop}{w:World}(h:bu (CF l::m) F w):bu (l++m) F w:=by
 obtain⟨Fa,Fl,k1,k2,k3,k4⟩:=bT h;exact dk (dB k1 k2 k3) (λj=>(k4 j).symm)
theorem CH{l m:List aK}{F:Nat->Prop}{w:World}(h:bu (l++m) F w):bu (CF l::m) F w:=by
 obtain⟨F1,F2,h1,h2,h3,h4⟩:=cC h;exact dk (cf (a:=CF l) h1 h2 (λj hj=>h1.lt j hj) h3) (λj=>(h4 j).symm)
theorem H4{β:Type}{q:β->Prop}{a:β->aK}{m:List aK}{F:Nat->Prop}{w:World}(h:bu (Jt q a::m) F w):∃ x,q x/\bu (a x::m) F w:=by
 obtain⟨Fa,Fl,⟨x,hx,k1⟩,k2,k3,k4⟩:=bT h;exact⟨x,hx,dk (cf k1 k2 (λj hj=>h.lt j ((k4 j).2 (.inl hj))) k3) (λj=>(k4 j).symm)⟩
section
variable{c:eO}{l m:List aK}{w:World}
theorem ay.open(h:ay c (CF l::m) w):ay c (l++m) w:=by
 obtain⟨F,h1,h2,h3⟩:=h.ex;exact⟨⟨F,CG h1,h2,h3⟩⟩
theorem ay.shut(h:ay c (l++m) w):ay c (CF l::m) w:=by
 obtain⟨F,h1,h2,h3⟩:=h.ex;exact⟨⟨F,CH h1,h2,h3⟩⟩
theorem ay.Ju{β:Type}{q:β->Prop}{a:β->aK}(h:ay c (Jt q a::m) w):∃ x,q x/\ay c (a x::m) w:=by
 obtain⟨F,h1,h2,h3⟩:=h.ex;obtain⟨x,hx,k⟩:=H4 h1;exact⟨x,hx,⟨⟨F,k,h2,h3⟩⟩⟩
theorem ay.Jv{β:Type}{q:β->Prop}{a:β->aK}(x:β)(hx:q x)(h:ay c (a x::m) w):ay c (Jt q a::m) w:=h.head (λF hF=>⟨x,hx,hF⟩)
end
theorem ay.step{c:eO}{l m r:List aK}{w w':World}(h:ay c (l++r) w)(k:∀ F,bu l F w->(∀ j,F j->c.X j\/c.W.heap.size<=j)->ay ⟨w,F⟩ m w'):ay c (m++r) w':=by
 obtain⟨F,h1,h2,h3⟩:=h.ex;obtain⟨F1,F2,k1,k2,k3,k4⟩:=cC h1;have:=(k F1 k1 (λj hj=>h3 j ((k4 j).2 (.inl hj)))).frame k2 k3;exact this.into (l:=l) h2 (λj hj=>h3 j ((k4 j).2 hj))
section
variable{k:Kn}{P:Program}{g g':Nat}{l:List aK}{ci:Nat}{t u e:TypeId}{sL sS sV n sz m:Nat}{v:Value}{xs:List Value}{i:TypeInfo}{z:Value}
theorem aD.zg{d0 ng:Option Nat}{r x y:Value}(h:letI:aL:=k.sig;∀ ι F w d x' y' ty,Ask k g d0 ng ι F w d->aw ι x x'->aw ι y y'->eA P (Builtin.append_ #[t,u] ty #[x',y']) ι d F w r ng):aD k P ⟨[11,t,u],[x,y],none,g,d0,r,ng⟩:=by
  letI:aL:=k.sig;intro o hk ev ι F w d hv _ h1 h2 h3 h4;obtain⟨a,b,ho⟩:=qT hk;obtain⟨cs,he⟩:=dE (ev:=ev) ho rfl;rw[ho]at hv;obtain⟨x',y',e,hx,hy⟩:=m_ hv;simp[Op.operands,Call.operands]at e;obtain⟨rfl,rfl⟩:=e;obtain⟨v',w',r1,r2⟩:=h ι F w d _ _ o.type ⟨h1,h2,h3,h4⟩ hx hy;refine⟨.value v',v',w',?_,.inl rfl,r2⟩;rw[he];have hb:builtin .append #[t,u] o.type cs #[ev a,ev b]=(do pure (Next.value (← Builtin.append_ #[t,u] o.type #[ev a,ev b]))):=rfl;simp only[List.map_toArray,List.map_cons,List.map_nil];rw[hb];rw[Sem.run_bind,r1];rfl
theorem c7.src{e':Nat}{w:World}(h:c7 sz v m xs w)(hu:P.underlying u=some (.slice e'))(h1:∀ x ∈ xs,x.oneCell'=true):Src P sz u v m xs w:=by
 obtain⟨hl,⟨rfl,a,c,rfl⟩ | ⟨b,off,c,rfl,⟨hb,hc⟩,hx⟩⟩:=h
 ·have:xs=[]:=List.eq_nil_of_length_eq_zero (by rw[hl];simp)
  subst this;cases a with
  | none=>exact Src.ofNil w hu c
  | some a=>exact Src.ofSlice w hu a 0 c [] (by simp) (λj x h=>by simp at h) (λx h=>by cases h)
 ·refine Src.ofSlice w hu ⟨b,off,none⟩ m c xs hl (λj x hj=>?_) h1
  rw[dY,hx j (by rw[← hl];exact(List.getElem?_eq_some_iff.1 hj).1),hj]
theorem Jw{d0 ng:Option Nat}(hg:k.gs[g]? = some (star l))(hi:l[ci]? = some (aO e sz v m xs)):∀ ι F w d,Ask k g d0 ng ι F w d->c7 sz v m xs w:=by
 intro ι F w d q;obtain⟨Fs,ff,hS,hf,h1⟩:=a_ hg hi q;exact dG.ro h1
theorem qV{d0 ng:Option Nat}{w0:World}{X:Nat->Prop}(hg:k.gs[g]? = some (star l))(hi:l[ci]? = some (cQ w0 X))(hs:c7 sz v m xs w0)(hX:fL X v):∀ ι F w d,Ask k g d0 ng ι F w d->c7 sz v m xs w:=by
 intro ι F w d q;obtain⟨Fs,ff,hS,hf,h1,h3⟩:=a_ hg hi q;exact hs.old h3 hX
theorem mA{d1 e':Nat}{x vx:Value}(hg:k.gs[g]? = some (star l))(hg':k.gs[g']? = some (star (l++[ce d1 (λv'=>aO e sz v' m xs)])))(hx:oC k x vx)(hE:FD vx)(hS:k.val sS=v)(rd:∀ ι F w d,Ask k g (some d1) (some g') ι F w d->c7 sz v m xs w)(ht:P.underlying t=some (.slice e))(hu:P.underlying u=some (.slice e'))(cZ:P.info? e=some i)(hsz:i.size=sz)(hz:i.zero=some z)(hzs:z.cells.size=i.size)
  (hb:m*i.bytes<=140737488355328) (hm:m<=1000000000) (h1:∀ x ∈ xs,x.oneCell'=true):aD k P ⟨[11,t,u],[x,sy sS],none,g,some d1,.complex .f32 d1 0,some g'⟩:=by
 subst hsz;refine aD.zg ?_;letI:aL:=k.sig;intro ι F w d x' y' ty q H5 EZ;have hsr:=rd ι F w d q;obtain rfl:=q.name d1 rfl;obtain⟨b,q1,q2⟩:=q.st;rw[hg]at q1;cases q1;rw[hx _ _ H5,bH EZ,hS];have h0:dG e i.size vx 0 [] (λ_=>False) w:=⟨by simp,.inl ⟨hE,rfl,λ_ h=>h⟩⟩;obtain⟨v2,w2,F2,r1,r2,r3,r4⟩:=dG.append (ty:=ty) h0 ht cZ hz hzs (hsr.src hu h1) (by rw[Nat.zero_add];exact hb) (by omega);rw[Nat.zero_add,List.nil_append]at r2;obtain⟨cc,hcc⟩:=r2.code;have hup:(ι.upd d1 cc) d1=some cc:=by simp[ag.upd]
 refine⟨v2,w2,r1,grow_end hg' q2 q.lt (bU q) cc ⟨cc,hup,by rw[hcc];exact r2⟩ ⟨r3.os,r3.tape,r3.output,r3.size,λj hj=>r3.block j hj (λh=>h)⟩ (λj hj=>⟨(r4 j hj).1,(r4 j hj).2.elim (λh=>h.elim) id⟩) (.dyn d1 cc v2 hup hcc)⟩
theorem gy{kd:IntKind}{zs:List Int} : ∀ x ∈ zs.map (Value.int kd),x.oneCell'=true:=by
 intro x hx;obtain⟨z,_,rfl⟩:=List.mem_map.1 hx;rfl
theorem qW{k:Kn}{ι:ag}{d:Nat}{x':Value}(h:letI:aL:=k.sig;aw ι (.complex .f32 d 0) x'):∃ c,ι d=some c/\dec c=x':=by
 letI:aL:=k.sig;cases h with
 | dyn id c _ h h'=>exact⟨c,h,h'⟩
theorem zh{d1:Nat}(hg:k.gs[g]? = some (star l))(hi:l[ci]? = some (ce d1 (λv=>aO e sz v n xs)))(ht:P.underlying t=some (.slice e))(hsz:i.size=sz)(hV:k.val sV=.int .i64 (n:Int)):aD k P ⟨[10,t],[.complex .f32 d1 0],none,g,none,sy sV,none⟩:=by
 subst hsz;refine aD.len k ?_;letI:aL:=k.sig;intro ι F w d x' ty q hx;obtain⟨Fs,ff,hS,hf,c,h0,h1⟩:=a_ hg hi q;obtain⟨c',e0,e1⟩:=qW hx;rw[h0]at e0;cases e0;rw[← e1];exact⟨_,w,dG.len h1 ht ty,eB hV,Below.refl _ _⟩
theorem az{d1 d2 e':Nat}{c cs:List Value}(hg:k.gs[g]? = some (star l))(hi:l[ci]? = some (ce d2 (λv=>aO e sz v n xs)))(hg':k.gs[g']? = some (star (l.set ci (ce d1 (λv'=>aO e sz v' (n+m) (xs++cs))))))(ht:P.underlying t=some (.slice e))(hu:P.underlying u=some (.slice e'))(cZ:P.info? e=some i)(hsz:i.size=sz)(h0:0<sz)(hz:i.zero=some z)(hzs:z.cells.size=i.size)
  (hb:(n+m)*i.bytes<=140737488355328) (hnm:n+m<=1000000000) (hm:c.length=m*sz) (hc:∀ ι c',(letI:aL:=k.sig;cx ι c c')->c'=cs):aD k P ⟨[11,t,u],[.complex .f32 d2 0],some (sz,1,c),g,some d1,.complex .f32 d1 0,some g'⟩:=by
 subst hsz;refine aD.append k ?_;letI:aL:=k.sig;intro ι F w d x' y' c' m' ty q hx hcr hcm ho hr hl;obtain⟨Fs,ff,hS,hf,cd,h0',h1⟩:=a_ hg hi q;obtain⟨c2,e0,e1⟩:=qW hx;rw[h0']at e0;cases e0;rw[← e1];have hmm:m'=m:=Nat.eq_of_mul_eq_mul_right h0 (by rw[← hcm,hm]);subst hmm;obtain rfl:=q.name d1 rfl;have hs:Src P i.size u y' m' c' w:=⟨.inl ⟨_,hu⟩,hl,hr w rfl,hr w.drew rfl,by rw[← hcr.1];exact hm,sY hcr ho⟩;obtain⟨v2,w2,F2,r1,r2,r3,r4⟩:=dG.append (ty:=ty) h1 ht cZ hz hzs hs hb hnm;rw[hc _ _ hcr]at r2;obtain⟨cc,hcc⟩:=r2.code;have hup:(ι.upd d1 cc) d1=some cc:=by simp[ag.upd]
 exact⟨v2,w2,r1,dS hg' hS q.lt hf (bU q) cc ⟨cc,hup,by rw[hcc];exact r2⟩ r3 r4 (.dyn d1 cc v2 hup hcc)⟩
end
end Go.Ev
