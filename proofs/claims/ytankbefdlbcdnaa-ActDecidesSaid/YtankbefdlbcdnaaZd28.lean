/- Part of a proof: see the last text. -/
import Derived.Test.YtankbefdlbcdnaaZd27
set_option linter.unusedSimpArgs false
set_option linter.unusedVariables false
namespace Go.Ev
open Go.RowKit
theorem rh.off{B X:Nat->Prop}{v:Value}(h:rh B v)(hd:∀ j,B j->¬ X j):fL X v:=by
 unfold fL
 split
 ·exact λh0=>hd _ (h h0)
 ·trivial
noncomputable def isIf(t:Nat):List Code->Bool
 | .cond (.tmp i) _ _::_=>Nat.beq i t
 | _=>false
theorem Ir{P:Program}{f:FuncId}{p:List Nat}{i t:Nat}(h:dL P (λB=>iu B f p (λ_ c=>isIf t ((flat c).drop i)))=true){Q:Exit->Act->World->Prop}{a:Act}{w:World}(ht:a.tmps.getD t undef=.bool true)
  (hw:dF P (ia P f (p++[2*i]) 0) (Exit.then (dF P (ia P f p (i+1)) Q) Q) a w):dF P (ia P f p i) Q a w:=by
 obtain⟨B,_,_,_,_,h⟩:=fX h;have h':isIf t (ia P f p i)=true:=h;cases hs:ia P f p i with
 | nil=>rw[hs]at h';cases h'
 | cons c l =>
  rw[hs]at h';obtain⟨e1,e2⟩:=py hs;cases c with
  | cond o x y =>
   cases o with
   | tmp k =>
    have hk:=Nat.eq_of_beq_eq_true (show Nat.beq k t=true from h');subst hk;rw[e2];have:ia P f (p++[2*i]) 0=flat x:=by
     show(flat (place P f (p++[2*i]))).drop 0=_;rw[e1];rfl
    rw[this]at hw;exact wpIn_cond_true ht (jG hw)
   | _=>cases h'
  | _=>cases h'
section
variable{k:Kn}{P:Program}{g:Nat}{l:List aK}{ci:Nat}{t e:TypeId}{sL sI sP sV n sz m:Nat}{v x r:Value}{xs:List Value}{i:TypeInfo}{a:aK}
theorem vY{kd:IntKind}{j:Nat}(hg:k.gs[g]? = some (star l))(hi:l[ci]? = some a)(ha:∀ ι F w,a.p ι F w->c7 sz v n xs w)(ht:P.underlying t=some (.slice e))(cZ:P.info? e=some i)(hsz:i.size=sz)(hL:k.val sL=v)(hI:k.val sI=.int kd (j:Int))(hj:j<n)(hP:k.val sP=au v (j*sz)):aD k P ⟨[3,t],[sy sL,sy sI],none,g,none,sy sP,none⟩:=by
 refine aD.index k ?_;letI:aL:=k.sig;intro ι F w d x' y' q hx hy;obtain⟨Fs,ff,hS,hf,h1⟩:=a_ hg hi q;obtain⟨h2,⟨rfl,_⟩ | ⟨b,off,c,rfl,⟨hb,_⟩,hc⟩⟩:=ha _ _ _ h1
 ·omega
 ·rw[bH hx,bH hy,hL,hI]
  refine⟨.pointer (some ⟨b,off+j*sz,none⟩),w,?_,eB hP,Below.refl _ _⟩;have hc:(0:Int)<=(j:Int)/\(j:Int)<(n:Int):=⟨by omega,by omega⟩;simp[Instr.indexAt,run_underlying ht,hc,sizeOf,typeInfo,cZ,hsz,dY,asIntOf];intro h;omega
theorem zN(hg:k.gs[g]? = some (star l))(hi:l[ci]? = some a)(ha:∀ ι F w,a.p ι F w->c7 sz v n xs w)(hL:gS P t)(hm:xs[m]? = some x)(hP:k.val sP=au v m)(hV:∀ ι,(letI:aL:=k.sig;aw ι r x)):aD k P ⟨[1,t],[sy sP],none,g,none,r,none⟩:=by
 refine aD.load k ?_;letI:aL:=k.sig;intro ι F w d x' q hx;obtain⟨Fs,ff,hS,hf,h1⟩:=a_ hg hi q;obtain⟨h2,⟨rfl,_⟩ | ⟨b,off,c,rfl,⟨hb,_⟩,hc⟩⟩:=ha _ _ _ h1
 ·have:=(List.getElem?_eq_some_iff.1 hm).1
  simp[h2]at this
 ·have hlt:=(List.getElem?_eq_some_iff.1 hm).1
  rw[h2]at hlt;rw[bH hx,hP];exact⟨x,w,hL b (off+m) x w (by rw[hc m hlt,hm]),hV _,Below.refl _ _⟩
end
end Go.Ev
namespace Go.Proofs.Ytankbefdlbcdnaa
open Go.Ev Go.Proofs.Try
open Go.RowKit
open Go.Ev (iz iN pz)
attribute [local irreducible] dF
section
variable{w w':World}{B F:Nat->Prop}{vs vb vr vS:Value}{t:Tab}{s:Sem}{bt bs:Nat}{ca mo:Int}
theorem iJ.keep(h:iJ w B vs vb vr vS t s)(hk:∀ j,B j->w'.heap[j]? = w.heap[j]?):iJ w' B vs vb vr vS t s:=by
 obtain⟨h1,h2,h3,⟨lv,h4,h5⟩,h6,h7,h8,h9⟩:=h;exact⟨h1.keep hk,h2.keep hk,h3.keep hk,⟨lv,h4.keep hk,λk hk'=>(h5 k hk').keep hk⟩,h6,h7,h8,h9⟩
def cJ(vs vb vr vS:Value)(t:Tab)(s:Sem):aK where
 p:=λ_ F w=>iJ w F vs vb vr vS t s
 keep:=λ_ F w w' hk h=>h.keep hk
 mono:=λ_ _ _ _ _ h=>h
theorem oQ{F:Nat->Prop}(h:bu [cJ vs vb vr vS t s] F w):iJ w F vs vb vr vS t s:=by
 obtain⟨Fa,h1,h2⟩:=ko h;obtain⟨k1,k2,k3,⟨lv,k4,k5⟩,k6,k7,k8,k9⟩:=(h1:iJ w Fa vs vb vr vS t s);exact⟨k1.mono h2,k2.mono h2,k3.mono h2,⟨lv,k4.mono h2,λk hk=>(k5 k hk).mono h2⟩,k6,k7,k8,k9⟩
theorem En{a b c d:Value}{t':Tab}{s':Sem}(hlt:∀ j,F j->j<w.heap.size)(h:ay ⟨w,λ_=>False⟩ [iI w F a b c t',iL w F d s'] w')(hd:vO d):ay ⟨w,F⟩ [cJ a b c d t' s'] w':=by
 obtain⟨G,n1,tr,hG⟩:=h.ex;have ho:eC w (λ_=>False) w':=h.old;obtain⟨F1,F2,p1,p2,p3,p4⟩:=cC (l:=[iI w F a b c t']) (m:=[iL w F d s']) n1;obtain⟨Fa,q1,e1⟩:=ko p1;obtain⟨Fb,q2,e2⟩:=ko p2;obtain⟨k1,k2,k3,c1,c2,c3⟩:=q1;obtain⟨lv,k4,k5⟩:=q2;have ga:∀ j,Fa j->F j\/G j:=λj hj=>.inr ((p4 j).2 (.inl (e1 j hj)))
 have gb:∀ j,Fb j->F j\/G j:=λj hj=>.inr ((p4 j).2 (.inr (e2 j hj)))
 have R:iJ w' (λj=>F j\/G j) a b c d t' s':=⟨k1.one ho ga (λ_ h=>.inl h),k2.one ho ga (λ_ h=>.inl h),k3.one ho ga (λ_ h=>.inl h),⟨lv,k4.one ho gb (λ_ h=>.inl h),λk hk=>(k5 k hk).one ho gb (λ_ h=>.inl h)⟩,c1,c2,c3,hd⟩;exact⟨⟨_,dk (cf (a:=cJ a b c d t' s') (Fa:=λj=>F j\/G j) R (aX w') (λj hj=>hj.elim (λh=>Nat.lt_of_lt_of_le (hlt j h) tr.size) (λh=>n1.lt j h)) (λj _ h=>h)) (λj=>Iff.rfl),⟨tr.os,tr.tape,tr.output,tr.size,λj hj _=>tr.block j hj (λh=>h)⟩,λj hj=>hj.elim (λh=>h.elim .inl (λh=>(hG j h).elim (λh=>h.elim) .inr)) (λh=>h.elim)⟩⟩
theorem mM(O:t.Ok)(Os:s.Ok)(h:bu [aE bt t,aQ bs s,cJ vs vb vr vS t s] F w) :
  Calls prog 25 #[nD bt bs ca mo,AX vs vb vr vS ca mo] w λe w'=>e=.returned (.bool true)/\ay ⟨w,F⟩ [aE bt t,aQ bs s,cJ vs vb vr vS t s] w':=by
 obtain⟨F1,F2,p1,p2,p3,p4⟩:=cC (l:=[aE bt t,aQ bs s]) (m:=[cJ vs vb vr vS t s]) h;have R:=oQ p2;obtain⟨lv,sm⟩:=R.sm;have off:∀ {v:Value},rh F2 v->fL F1 v:=λhv=>hv.off (λj hj h1=>p3 j h1 hj)
 let q:(k:Nat)->k<=4->Bd:=λk hk=>⟨w,F1,bt,bs,t,s,O,Os,ca,mo,vs,vb,vr,vS,lv,R.tb,sm.1.1,λk hk=>(sm.2 k hk).1,off R.s1.2,off R.b1.2,off R.r1.2,off sm.1.2,λk hk=>off (sm.2 k hk).2,k,hk⟩
 have hnn:=Os.n1;have key:Calls prog 25 #[nD bt bs ca mo,AX vs vb vr vS ca mo] w λe w'=>e=.returned (.bool true)/\ay ⟨w,F1⟩ [aE bt t,aQ bs s] w':=by
  refine bx (N:=53) (tm:=[(0,nD bt bs ca mo),(1,AX vs vb vr vS ca mo)]) (by kernel_rfl) p1 (by simp) (by simp) (λA hA=>?_);refine Pn (q 0 (by decide)) A w _ hA ?_;intro κ A1 w1 g1;dsimp only at g1;generalize (κ 400).getD 0=b4 at g1;generalize (κ 404).getD 0=b8 at g1;refine cY (id:=0) (by kernel_rfl) ?_;refine eD (by kernel_rfl) (λ(k:Nat) A w'=>Ev.At ⟨w,F1⟩ 53 [(2,pz b4),(3,pz b8),(5,iN k)] [bv b4 [pz bt,pz bs,iz ca,iz mo] 31,bv b8 [vs,vb,vr,vS,iz ca,iz mo] 60,aE bt t,aQ bs s] A w'/\k<=s.nn) (λk=>s.nn-k) (x:=0) ⟨g1.to (λq hq=>hq) (λhh=>by first | exact hh | exact hh.sel [0,1,3,2]),Nat.zero_le _⟩ ?_;clear g1 hA A A1 w1;rintro k A w1 ⟨g1,hk⟩
  by_cases hlt:k<s.nn
  ·refine Po (q k (by omega)) b4 b8 hlt A w1 _ g1 ?_
   intro κ2 A2 w2 g2;exact db (by kernel_rfl) ⟨k+1,⟨g2.to (λq hq=>hq) (λhh=>by first | exact hh.sel [0,1,4,3] | exact hh.sel [0,1,2,3] | exact hh.sel [0,1,3,2]),by omega⟩,by omega⟩
  ·refine Pp (q k (by omega)) b4 b8 hlt A w1 _ g1 ?_
   intro κ2 A2 w2 g2;refine Pq (q 0 (by decide)) A2 w2 _ (g2.to (λq hq=>by cases hq) (λhh=>hh.sel [2,3])) ?_;intro κ3 w3 g3;exact⟨rfl,g3⟩
 refine key.mono (λe w' ⟨he,hh⟩=>⟨he,?_⟩);exact(hh.frame p2 p3).into (l:=[]) ⟨rfl,rfl,rfl,Nat.le_refl _,λ_ _ _=>rfl⟩ (λj hj=>.inl ((p4 j).2 hj))
theorem Gz{kd k:Nat}{g:Int}(ht:t.Ok)(hs:s.Ok)(hkd:kd<8)(hk4:k<4)
  (hw:∀ j b:Nat,t.gs[j]? = some (2,b)->∀ i,i<4->(j:Int) ∉ s.ln i) (hl:∀ i,i<4->∀ x ∈ s.ln i,∃ b,t.gs[x.toNat]? = some (3,b)) (h:bu [cJ vs vb vr vS t s] F w) :
  Calls prog 24 #[AX vs vb vr vS ca mo,iN kd,iN k,iz g] w λe w'=>∃ u cd,Ev.dec cd=u/\e=.returned (.tuple #[AX (aq 0 u) (aq 1 u) (aq 3 u) (aq 4 u) ca mo,.agg #[iz (d8 t s ca mo kd k g).nx,iz (d8 t s ca mo kd k g).x],iz (d8 t s ca mo kd k g).e])/\ay ⟨w,F⟩ [cJ (aq 0 u) (aq 1 u) (aq 3 u) (aq 4 u) (d8 t s ca mo kd k g).t (d8 t s ca mo kd k g).s] w':=by
 refine(D1 (oQ h) ht hs hkd hk4 hw hl (aX w)).mono ?_;rintro e w' ⟨u,cd,h1,h2,h3,h4⟩;exact⟨u,cd,h1,h2,En h.lt h3 h4⟩
theorem Eo{a b c:Value}{t':Tab}(R:iJ w F vs vb vr vS t s)(hlt:∀ j,F j->j<w.heap.size)(h:ay ⟨w,λ_=>False⟩ [iI w F a b c t'] w'):ay ⟨w,F⟩ [cJ a b c vS t' s] w' :=
 En hlt ((h.free (R.rs' _)).sel [1,0]) R.cS
theorem zO{g:Int}{nx:Nat}(O:t.Ok)(hn:nx<5)(h:bu [cJ vs vb vr vS t s] F w) :
  Calls prog 23 #[.agg #[vs,vb,vr],iz g,iN nx] w λe w'=>∃ u cd,Ev.dec cd=u/\e=.returned (.tuple #[.agg #[aq 0 u,aq 1 u,aq 3 u],aq 4 u])/\ay ⟨w,F⟩ [cJ (aq 0 u) (aq 1 u) (aq 3 u) vS (t.eK g nx) s] w':=by
 have R:=oQ h;have fin:∀ {n:Int} {w1:World} {a b c:Value} {t':Tab},ay ⟨w,F⟩ [cJ a b c vS t' s] w1->vO a->vO b->vO c->∃ u cd,Ev.dec cd=u/\Ending.returned (.tuple #[.agg #[a,b,c],iz n])=.returned (.tuple #[.agg #[aq 0 u,aq 1 u,aq 3 u],aq 4 u])/\ay ⟨w,F⟩ [cJ (aq 0 u) (aq 1 u) (aq 3 u) vS t' s] w1:=by
  rintro n w1 a b c t' hh ⟨c1,h1⟩ ⟨c2,h2⟩ ⟨c3,h3⟩;obtain⟨c4,h4⟩:=ry n;refine⟨_,_,iM (fb c1 (fb c2 (fb c3 c4))),?_,?_⟩
  ·rw[gI,gJ,yr,yu,h1,h2,h3,h4]
  ·rw[gI,gJ,yr,h1,h2,h3]
   exact hh
 have same:∀ {n:Int} {w1:World},Below w.heap.size w w1->∃ u cd,Ev.dec cd=u/\Ending.returned (.tuple #[.agg #[vs,vb,vr],iz n])=.returned (.tuple #[.agg #[aq 0 u,aq 1 u,aq 3 u],aq 4 u])/\ay ⟨w,F⟩ [cJ (aq 0 u) (aq 1 u) (aq 3 u) vS t s] w1:=λhb =>
  fin ⟨⟨F,ft h (λj hj=>hb.block j (h.lt j hj)) hb.size,⟨hb.os,hb.tape,hb.output,hb.size,λj hj _=>hb.block j hj⟩,λj hj=>.inl hj⟩⟩ R.cs R.cb R.cr
 by_cases h0:0<=g
 ·obtain⟨j,rfl⟩:∃ j:Nat,g=(j:Int):=⟨g.toNat,by omega⟩
  have e0:t.eK (j:Int) nx=(match t.gs[j]? with
   | some (a,_)=>if hO a nx then t.set j nx else t
   | none=>t):=if_pos h0
  cases hj:t.gs[j]? with
  | none =>
   rw[e0,hj];exact(rr R.tb O hn (.inr (by have:=List.getElem?_eq_none_iff.1 hj;omega))).mono (λe w1 ⟨he,hb⟩=>by rw[he];exact same hb)
  | some p =>
   obtain⟨a,b⟩:=p;have e1:t.eK (j:Int) nx=if hO a nx then t.set j nx else t:=by rw[e0,hj]
   rw[e1];cases hm:hO a nx with
   | true =>
    rw[if_pos rfl];refine(gf R.tb O hn hj hm w F (aX w)).mono ?_;rintro e w1 ⟨u,cd,h1,h2,h3⟩;obtain⟨f,hf⟩:=h3.first
    rw[h2];exact fin (Eo R h.lt h3) hf.2.2.2.1 hf.2.2.2.2.1 hf.2.2.2.2.2
   | false =>
    rw[if_neg (by decide)];exact(DY R.tb O hn hj hm).mono (λe w1 ⟨he,hb⟩=>by rw[he];exact same hb)
 ·have e0:t.eK g nx=t:=if_neg h0
  rw[e0];exact(rr R.tb O hn (.inl (by omega))).mono (λe w1 ⟨he,hb⟩=>by rw[he];exact same hb)
theorem A8{n:Nat}(hn:1<=n/\n<=12)(h:bu [cJ vs vb vr vS (bW n) s] F w) :
  Calls prog 22 #[.agg #[vs,vb,vr]] w λe w'=>∃ u cd,Ev.dec cd=u/\e=.returned (.tuple #[.agg #[aq 0 u,aq 1 u,aq 2 u],iz 0,iz 0])/\ay ⟨w,F⟩ [cJ (aq 0 u) (aq 1 u) (aq 2 u) vS ((bW n).make 0) s] w':=by
 have R:=oQ h;refine(pY R.tb (zM hn.2) (j:=0) (a:=0) (b:=0) ?_ ?_ w F (aX w)).mono ?_
 ·show(pT n n)[(pT n n).length-1]? = some 0
  have e:(pT n n).length=n:=by simp[pT]
  rw[e];unfold pT;rw[List.getElem?_map,List.getElem?_range (by omega)];show some (n-1-(n-1))=some 0;rw[Nat.sub_self]
 ·simp[bW,List.getElem?_replicate]
  omega
 ·rintro e w1 ⟨u,cd,h1,h2,h3⟩
  exact⟨u,cd,h1,h2,Eo R h.lt h3⟩
theorem Ep{c:eO}{l:List aK}{a b d e:Value}{W:World}(ho:eC W (λ_=>False) w)(h:ay c (iI W (λ_=>False) a b d t::iL W (λ_=>False) e s::l) w)(hd:vO e):ay c (cJ a b d e t s::l) w:=by
 refine ay.fold (l:=[iI W (λ_=>False) a b d t,iL W (λ_=>False) e s]) h (λG hG=>?_);obtain⟨F1,F2,p1,p2,p3,p4⟩:=cC (l:=[iI W (λ_=>False) a b d t]) (m:=[iL W (λ_=>False) e s]) hG;obtain⟨Fa,q1,e1⟩:=ko p1;obtain⟨Fb,q2,e2⟩:=ko p2;obtain⟨k1,k2,k3,c1,c2,c3⟩:=q1;obtain⟨lv,k4,k5⟩:=q2;have ga:∀ j,Fa j->G j:=λj hj=>(p4 j).2 (.inl (e1 j hj))
 have gb:∀ j,Fb j->G j:=λj hj=>(p4 j).2 (.inr (e2 j hj))
 have no:∀ j,False->G j:=λ_ h=>h.elim
 exact⟨k1.one ho ga no,k2.one ho ga no,k3.one ho ga no,⟨lv,k4.one ho gb no,λk hk=>(k5 k hk).one ho gb no⟩,c1,c2,c3,hd⟩
theorem vZ{n:Nat}(hn:1<=n/\n<=12)(h:bu [aE bt (bW n)] F w) :
  Calls prog 9 #[pz bt] w λe w'=>e=.returned (.tuple #[iz 0,iz 0])/\ay ⟨w,F⟩ [aE bt ((bW n).make 0)] w':=by
 obtain⟨G,k1,k2,k3⟩:=((ay.start h).head (b:=mH (pz bt) (bW n)) (λG h=>⟨bt,rfl,h⟩)).ex;refine(yj hn k1).mono (λe w' ⟨he,hh⟩=>⟨he,?_⟩);have h2:ay ⟨w,F⟩ [mH (pz bt) ((bW n).make 0)] w':=ay.into (l:=[]) hh k2 k3;obtain⟨b,e1,h3⟩:=pS h2;cases e1;exact h3
theorem tN{g:Int}(ht:t.Ok)(hs:s.Ok)(hr:t.runs g=none)(h:bu [aE bt t,aQ bs s] F w) :
  Calls prog 26 #[nD bt bs ca mo,iz g] w λe w'=>e=.returned (iz 2)/\ay ⟨w,F⟩ [aE bt t,aQ bs s] w':=by
 have:=vW (ca:=ca) (mo:=mo) (g:=g) ht hs h;unfold zI Tab.drop at this;rw[hr]at this;exact this
theorem Eq{j:Nat}(ht:t.Ok)(hs:s.Ok)(hr:t.runs (j:Int)=some j)(h:bu [aE bt t,aQ bs s] F w) :
  Calls prog 26 #[nD bt bs ca mo,iN j] w λe w'=>e=.returned (iz 0)/\ay ⟨w,F⟩ [aE bt (t.set j 1),aQ bs s] w':=by
 have:=vW (ca:=ca) (mo:=mo) (g:=(j:Int)) ht hs h;unfold zI Tab.drop at this;rw[hr]at this;exact this
end
end Go.Proofs.Ytankbefdlbcdnaa
namespace Go.Proofs.Ytankbefdlbcdnaa
open Go.Ev Go.Proofs.Try
section
variable{K n m:Nat}{t:Tab}{s:Sem}
theorem Inv.Er(h:Inv K n m t s){ca mo:Int}{kd k:Nat}{g:Int} : Inv K n (m+1) (d8 t s ca mo kd k g).t (d8 t s ca mo kd k g).s:=by
 by_cases hk:k<K
 ·exact h.dec hk
 have h1:=h.mono (Nat.le_succ m);have hnn:s.nn<=k:=by have:=h.nn.1;omega
 unfold d8;cases hr:t.runs g with
 | none=>exact h1
 | some j =>
  obtain⟨rfl,b,hj⟩:=Tab.e8 hr;show Inv K n (m+1) (dC t s ca mo kd k j).t (dC t s ca mo kd k j).s;unfold dC
  split
  ·exact h1
  ·exact h1
  ·exact h1.set hj (by decide) (by decide) (by decide) (by decide)
  ·split
   ·rename_i x hx
    exact h.make hx
   ·exact h1
  ·exact h1.set hj (by decide) (by decide) (by decide) (by decide)
  ·rw[if_pos hnn]
   exact h1
  ·rw[if_pos hnn]
   exact h1
  ·split
   ·exact h1
   ·exact h1.set hj (by decide) (by decide) (by decide) (by decide)
theorem Inv.drop(h:Inv K n m t s){j b:Nat}(hj:t.gs[j]? = some (2,b)):Inv K n m (t.set j 1) s:=h.set hj (by decide) (by decide) (by decide) (by decide)
theorem Inv.Iu{K c:Nat}(hn:n<=12)(hc:c<=2)(h0:0<n)(hK:K<=4):Inv K n 1 ((bW n).make 0) (cl K c):=by
 have h:=Inv.start (n:=n) (c:=c) hn hc h0
 exact { h with
  nn:=⟨rfl,hK⟩
  ct:=λk _=>by show(if k<K then c else 0)<=2+1;split<;>omega
  wt:=h.wt
  rng:=h.rng
  nd:=h.nd
  vj:=h.vj
  nw:=h.nw }
theorem Es{j b:Nat}(hj:t.gs[j]? = some (2,b)):t.eK (j:Int) 1=t.set j 1:=by
 have e0:t.eK (j:Int) 1=(match t.gs[j]? with
  | some (a,_)=>if hO a 1 then t.set j 1 else t
  | none=>t):=if_pos (by omega)
 rw[e0,hj];rfl
theorem GD{j b:Nat}(hj:t.gs[j]? = some (2,b)):t.runs (j:Int)=some j:=by
 have e0:t.runs (j:Int)=(match t.gs[j]? with
  | some (2,_)=>some j
  | _=>none):=if_pos (by omega)
 rw[e0,hj];rfl
end
end Go.Proofs.Ytankbefdlbcdnaa
namespace Go.Proofs.Ytankbefdlbcdnaa
open Go.Ev Go.Proofs.Try
open Go.RowKit
open Go.Ev (sy iz uz wz iN uN wN pz dv fc fn ak vk vd kn pc cc cr cm cd fr)
set_option maxRecDepth 8000
attribute [local irreducible] dF
structure LQ where
 W0:World
 F0:Nat->Prop
 lv:Value
 ls:List cK
 hl:c7 3 lv ls.length (ls.flatMap cK.cells) W0
 hX:fL F0 lv
 z0:Nat
 z1:Nat
 z2:Nat
 ca:Int
 mo:Int
 n:Nat
 K:Nat
 c:Nat
 hn:n=1+z0%12/\K=1+z1%4/\c=z2%3
 bt:Nat
 bs:Nat
 vs:Value
 vb:Value
 vr:Value
 vS:Value
 v6:aR vs=true
 v7:aR vb=true
 v8:aR vr=true
 v9:aR vS=true
 t:Tab
 s:Sem
 ht:t.Ok
 hs:s.Ok
 b14:Nat
 b17:Nat
 b18:Nat
 i:Nat
 m:Nat
 mv:cK
 j:Nat
 a:Nat
 ab:Nat
 h:z0<256/\z1<256/\z2<256/\i<=80/\m<=200
theorem LQ.z(q:LQ):(1<=q.n/\q.n<=12)/\(1<=q.K/\q.K<=4)/\q.z0<256/\q.z1<256/\q.z2<256/\q.i<=80/\q.m<=200/\q.mv.b<256:=by
 have h:=q.h;have h1:=q.hn;have h2:=q.mv.hb;omega
def LQ.o(q:LQ):Out:=d8 q.t q.s q.ca q.mo (q.mv.b%8) (q.mv.b / 8%4) q.mv.g
theorem Inv.facts{K n m:Nat}{t:Tab}{s:Sem}(hI:Inv K n m t s):(∀ j b:Nat,t.gs[j]? = some (2,b)->∀ i,i<4->(j:Int) ∉ s.ln i)/\(∀ i,i<4->∀ x ∈ s.ln i,∃ b,t.gs[x.toNat]? = some (3,b)):=by
 refine⟨λj b hj i hi hm=>absurd ((hI.wt j 2 b hj).2 ⟨i,hi,hm⟩) (by decide),λi hi x hx=>?_⟩;have hr:=hI.rng i hi x hx;have hl:x.toNat<t.gs.length:=by rw[hI.len];omega
 have h1:=List.getElem?_eq_getElem hl;have h2:=(hI.wt x.toNat _ _ h1).2 ⟨i,hi,by rw[show((x.toNat:Nat):Int)=x by omega];exact hx⟩;exact⟨(t.gs[x.toNat]).2,by rw[h1,← h2];rfl⟩
theorem LQ.dec(q:LQ)(hI:Inv q.K q.n q.m q.t q.s){w:World}{F:Nat->Prop}(h:bu [aE q.bt q.t,aQ q.bs q.s] F w) :
  Calls prog 12 #[nD q.bt q.bs q.ca q.mo,Gf (q.mv.b%8) (q.mv.b / 8%4),iz q.mv.g] w λe w'=>e=.returned (xK q.o.nx q.o.x q.o.e)/\ay ⟨w,F⟩ [aE q.bt q.o.t,aQ q.bs q.o.s] w' :=
 yd q.ht q.hs (by omega) (by omega) hI.facts.1 hI.facts.2 h
theorem LQ.MG(q:LQ)(hI:Inv q.K q.n q.m q.t q.s){w:World}{F:Nat->Prop}(h:bu [cJ q.vs q.vb q.vr q.vS q.t q.s] F w) :
  Calls prog 24 #[AX q.vs q.vb q.vr q.vS q.ca q.mo,iN (q.mv.b%8),iN (q.mv.b / 8%4),iz q.mv.g] w λe w'=>∃ u cd,Ev.dec cd=u/\e=.returned (.tuple #[AX (aq 0 u) (aq 1 u) (aq 3 u) (aq 4 u) q.ca q.mo,.agg #[iz q.o.nx,iz q.o.x],iz q.o.e])/\ay ⟨w,F⟩ [cJ (aq 0 u) (aq 1 u) (aq 3 u) (aq 4 u) q.o.t q.o.s] w' :=
 Gz q.ht q.hs (by omega) (by omega) hI.facts.1 hI.facts.2 h
theorem LQ.JZ(q:LQ)(hI:Inv q.K q.n q.m q.t q.s):q.o.t.Ok/\q.o.s.Ok:=by
 have z:=q.z;have h2:Inv q.K q.n (q.m+1) q.o.t q.o.s:=hI.Er;exact⟨h2.tok (by omega) (by omega),h2.Il (by omega) (by omega)⟩
abbrev Hg(q:LQ):List (Nat×Value):=[(0,(.int .u8 ((q.z0:Nat):Int))),(1,(.int .u8 ((q.z1:Nat):Int))),(2,(.int .u8 ((q.z2:Nat):Int))),(3,iz q.ca),(4,iz q.mo),(5,(q.lv))]
abbrev zP(q:LQ):aK:=ce 403 (λv=>mG v (cl q.K q.c))
abbrev Hh(q:LQ):aK:=ce 415 (λv=>iI q.W0 (λ_=>False) (aq 0 v) (aq 1 v) (aq 2 v) (bW q.n))
abbrev yk(q:LQ):aK:=cJ q.vs q.vb q.vr q.vS (bW q.n) (cl q.K q.c)
abbrev eM(q:LQ):aK:=bv q.b17 [pz q.bt,pz q.bs,iz q.ca,iz q.mo] 31
abbrev jX(q:LQ):aK:=bv q.b18 [q.vs,q.vb,q.vr,q.vS,iz q.ca,iz q.mo] 60
abbrev nJ:List g_:=[(4,[sy 7,sy 8,sy 9,sy 10],31),(8,[sy 1,sy 2,sy 3,sy 4,sy 9,sy 10],60)]
abbrev tO:List (Nat×Value):=[(5,sy 0),(13,sy 5),(17,.pointer (some ⟨4,0,none⟩)),(18,.pointer (some ⟨8,0,none⟩)),(21,sy 6)]
abbrev nK(q:LQ):aK:=cJ q.vs q.vb q.vr q.vS q.t q.s
abbrev pZ(q:LQ):List aK:=[aE q.bt q.t,aQ q.bs q.s,nK q]
abbrev gF(q:LQ):List (Nat×Value):=[(5,(q.lv)),(13,iN q.n),(17,pz q.b17),(18,pz q.b18),(21,iN q.i)]
abbrev jY(q:LQ):List aK:=[eM q,jX q,aE q.bt q.t,aQ q.bs q.s,nK q]
abbrev Et:List g_:=[(4,[sy 10,sy 11,sy 12,sy 13],31),(8,[sy 1,sy 2,sy 3,sy 4,sy 12,sy 13],60)]
abbrev yl:List (Nat×Value):=[(5,sy 0),(13,sy 8),(17,.pointer (some ⟨4,0,none⟩)),(18,.pointer (some ⟨8,0,none⟩)),(21,sy 9)]
abbrev Eu:List (Nat×Value):=[(5,sy 0),(13,sy 8),(17,.pointer (some ⟨4,0,none⟩)),(18,.pointer (some ⟨8,0,none⟩)),(21,sy 9),(22,.pointer (some ⟨400,0,none⟩))]
abbrev tP:List g_:=[(4,[sy 11,sy 12,sy 13,sy 14],31),(8,[sy 2,sy 3,sy 4,sy 5,sy 13,sy 14],60)]
abbrev ym:List (Nat×Value):=[(5,sy 0),(13,sy 8),(17,.pointer (some ⟨4,0,none⟩)),(18,.pointer (some ⟨8,0,none⟩)),(21,sy 9),(22,sy 1)]
abbrev eN(q:LQ):aK:=aO 35 1 (ap q.b14 3) 3 q.mv.cells
abbrev e9(q:LQ):List aK:=[aE q.bt q.t,aQ q.bs q.s,nK q,eN q]
abbrev jZ(q:LQ):List (Nat×Value):=[(5,(q.lv)),(13,iN q.n),(17,pz q.b17),(18,pz q.b18),(21,iN q.i),(22,(au (ap q.b14 3) 0))]
abbrev fO(q:LQ):List aK:=[eM q,jX q,aE q.bt q.t,aQ q.bs q.s,nK q,eN q]
abbrev Ew:List g_:=[(4,[sy 11,sy 12,sy 13,sy 14],31),(8,[sy 2,sy 3,sy 4,sy 5,sy 13,sy 14],60),(12,[sy 15,sy 16],45),(16,[sy 17,sy 18],65)]
abbrev tQ(q:LQ):aK:=cJ q.vs q.vb q.vr q.vS q.o.t q.o.s
abbrev Ex(q:LQ):List aK:=[aE q.bt q.o.t,aQ q.bs q.o.s,tQ q,eN q]
abbrev yn:List (Nat×Value):=[(5,sy 0),(13,sy 7),(17,.pointer (some ⟨4,0,none⟩)),(18,.pointer (some ⟨8,0,none⟩)),(21,sy 8),(22,sy 1)]
abbrev tR:List g_:=[(4,[sy 9,sy 10,sy 11,sy 12],31),(8,[sy 2,sy 3,sy 4,sy 5,sy 11,sy 12],60)]
abbrev Ey:List (Nat×Value):=[(5,sy 0),(13,sy 6),(17,.pointer (some ⟨4,0,none⟩)),(18,.pointer (some ⟨8,0,none⟩)),(21,sy 7),(22,sy 1)]
abbrev nL:List g_:=[(4,[sy 10,sy 11,sy 12,sy 13],31),(8,[sy 2,sy 3,sy 4,sy 5,sy 12,sy 13],60)]
abbrev yo:List (Nat×Value):=[(5,sy 0),(13,sy 7),(17,.pointer (some ⟨4,0,none⟩)),(18,.pointer (some ⟨8,0,none⟩)),(21,sy 8)]
abbrev Ez(q:LQ):List (Nat×Value):=[(5,(q.lv)),(13,iN q.n),(17,pz q.b17),(18,pz q.b18),(21,iN q.i),(22,(au (ap q.b14 3) 0)),(29,.bool true)]
abbrev tS(q:LQ):aK:=cJ q.vs q.vb q.vr q.vS (q.t.set q.j 1) q.s
abbrev EA(q:LQ):List aK:=[aE q.bt (q.t.set q.j 1),aQ q.bs q.s,tS q,eN q]
theorem Pr(q:LQ)(hll:80<q.ls.length):aI prog 5 [] 0 238 ⟨q.W0,q.F0⟩ (Hg q) [] (λκ:ag=>(.bool true)) (λκ:ag=>[]):=(br (c:=⟨q.W0,q.F0⟩) 40 (kn [q.lv,.int .u8 ((q.z0:Nat):Int),.int .u8 ((q.z1:Nat):Int),.int .u8 ((q.z2:Nat):Int),iz (q.ca),iz (q.mo),iN (q.ls.length)] (fc q.hl.leaf fr) [(.gtr,sy 6,iz 80,.bool true)] [] [] (fc (λ_ _ _=>bJ (by have z:=q.z;first|(simp;done)|(simp;omega))) fn) fn fn q.W0 q.F0 [[]] [⟨[10,22],[sy 0],none,0,none,sy 6,none⟩] [⟨6,[],0,none,.bool true,none⟩]) (fc (bf (ci:=0) rfl rfl q.hl underlying22 rfl rfl) fn) (fc (pc rfl (λw hb=>qZ w)) fn) rfl [] [] [] 0 rfl rfl [(0,sy 1),(1,sy 2),(2,sy 3),(3,sy 4),(4,sy 5),(5,sy 0)] (.bool true))
theorem Ps(q:LQ)(hll:q.ls.length<=80):dH prog 5 [] 0 7 238 ⟨q.W0,q.F0⟩ (Hg q) [] .normal (λκ:ag=>[(5,(q.lv)),(13,iN q.n),(16,iz 0),(17,(pz ((κ 408).getD 0))),(18,(pz ((κ 420).getD 0)))]) (λκ:ag=>[bv ((κ 408).getD 0) [dv κ 407,dv κ 403,iz q.ca,iz q.mo] 31,bv ((κ 420).getD 0) [(aq 0 (dv κ 415)),(aq 1 (dv κ 415)),(aq 2 (dv κ 415)),dv κ 419,iz q.ca,iz q.mo] 60,iL q.W0 (λ_=>False) (dv κ 419) (cl q.K q.c),iI q.W0 (λ_=>False) (aq 0 (dv κ 415)) (aq 1 (dv κ 415)) (aq 2 (dv κ 415)) (bW q.n),mH (dv κ 407) (bW q.n),mG (dv κ 403) (cl q.K q.c)]):=by have z:=q.z;exact(tr (c:=⟨q.W0,q.F0⟩) (kn [q.lv,.int .u8 ((q.z0%12:Nat):Int),iN (q.z0%12),.int .u8 ((q.z0:Nat):Int),iN (q.n),.int .u8 ((q.z1%4:Nat):Int),iN (q.z1%4),.int .u8 ((q.z1:Nat):Int),iN (q.K),.int .u8 ((q.z2%3:Nat):Int),iN (q.c),.int .u8 ((q.z2:Nat):Int),iz (q.ca),iz (q.mo),iN (q.ls.length)] (fc q.hl.leaf fr) [(.gtr,sy 14,iz 80,.bool false),(.rem,sy 3,.int .u8 12,sy 1),(.add,iz 1,sy 2,sy 4),(.rem,sy 7,.int .u8 4,sy 5),(.add,iz 1,sy 6,sy 8),(.rem,sy 11,.int .u8 3,sy 9)] [] [(.i64,sy 1,sy 2),(.i64,sy 5,sy 6),(.i64,sy 9,sy 10)] (fc (λ_ _ _=>bJ (by first|(simp;done)|(simp;omega))) (fc (λ_ _ _=>g9 (by decide) rfl) (fc (λ_ _ _=>bM (by have z2:=q.hn;rw[aM (by omega) (by omega)];omega)) (fc (λ_ _ _=>g9 (by decide) rfl) (fc (λ_ _ _=>bM (by have z2:=q.hn;rw[aM (by omega) (by omega)];omega)) (fc (λ_ _ _=>g9 (by decide) rfl) fn)))))) fn (fc (y6 rfl rfl (by have z2:=q.hn;rw[aM (by omega) (by omega)])) (fc (y6 rfl rfl (by have z2:=q.hn;rw[aM (by omega) (by omega)])) (fc (y6 rfl rfl (by have z2:=q.hn;rw[aM (by omega) (by omega)];omega)) fn))) q.W0 q.F0 [[],[zP q],[ce 407 (λv=>mH v (bW q.n)),zP q],[Hh q,ce 407 (λv=>mH v (bW q.n)),zP q],[ce 419 (λv=>iL q.W0 (λ_=>False) v (cl q.K q.c)),Hh q,ce 407 (λv=>mH v (bW q.n)),zP q]] [⟨[10,22],[sy 0],none,0,none,sy 14,none⟩] [⟨7,[sy 8,sy 10],0,some 403,.tuple #[.complex .f32 403 0,iz 0],some 1⟩,⟨8,[sy 4],1,some 407,.complex .f32 407 0,some 2⟩,⟨20,[sy 4],2,some 415,.agg #[.complex .f32 415 2,.complex .f32 415 3,.complex .f32 415 4],some 3⟩,⟨21,[sy 8,sy 10],3,some 419,.complex .f32 419 0,some 4⟩]) (fc (bf (ci:=0) rfl rfl q.hl underlying22 rfl rfl) fn) (fc (by exact cd rfl [λv=>mG v (cl q.K q.c)] [] [] (λw F ho hn hF=>D6 (by omega) (by have z2:=q.hn;omega) hn)) (fc (cd rfl [λv=>mH v (bW q.n)] [] [0] (λw F ho hn hF=>Gg (by omega) hn)) (fc (cd rfl [λv=>iI q.W0 (λ_=>False) (aq 0 v) (aq 1 v) (aq 2 v) (bW q.n)] [] [0,1] (λw F ho hn hF=>D8 q.W0 _ (by omega) hn)) (fc (by exact cd rfl [λv=>iL q.W0 (λ_=>False) v (cl q.K q.c)] [] [0,1,2] (λw F ho hn hF=>D7 q.W0 _ (by omega) (by have z2:=q.hn;omega) hn)) fn)))) rfl [] [] [(408,[.complex .f32 407 0,.complex .f32 403 0,sy 12,sy 13],31),(420,[.complex .f32 415 2,.complex .f32 415 3,.complex .f32 415 4,.complex .f32 419 0,sy 12,sy 13],60)] 4 rfl rfl [(0,sy 3),(1,sy 7),(2,sy 11),(3,sy 12),(4,sy 13),(5,sy 0)] [(5,sy 0),(13,sy 4),(16,iz 0),(17,.pointer (some ⟨408,0,none⟩)),(18,.pointer (some ⟨420,0,none⟩))] .normal).conv (λκ w=>⟨(λ_ h=>h),(λ_ h=>h),(λ_ h=>bN (a:=λv=>iL q.W0 (λ_=>False) v (cl q.K q.c)) (λ_ _ _ _ _ h=>h) h),(λ_ h=>bN (a:=λv=>iI q.W0 (λ_=>False) (aq 0 v) (aq 1 v) (aq 2 v) (bW q.n)) (λ_ _ _ _ _ h=>h) h),(λ_ h=>bN (a:=λv=>mH v (bW q.n)) (λ_ _ _ _ _ h=>h) h),(λ_ h=>bN (a:=λv=>mG v (cl q.K q.c)) (λ_ _ _ _ _ h=>h) h),trivial⟩)
theorem Pt(q:LQ):dH prog 5 [] 7 5 238 ⟨q.W0,q.F0⟩ [(5,(q.lv)),(13,iN q.n),(16,iz 0),(17,pz q.b17),(18,pz q.b18)] [eM q,jX q,aE q.bt (bW q.n),aQ q.bs (cl q.K q.c),yk q] .normal (λκ:ag=>[(5,(q.lv)),(13,iN q.n),(17,pz q.b17),(18,pz q.b18),(21,iz 0)]) (λκ:ag=>[eM q,bv q.b18 [(aq 0 (dv κ 407)),(aq 1 (dv κ 407)),(aq 2 (dv κ 407)),q.vS,iz q.ca,iz q.mo] 60,cJ (aq 0 (dv κ 407)) (aq 1 (dv κ 407)) (aq 2 (dv κ 407)) q.vS ((bW q.n).make 0) (cl q.K q.c),aE q.bt ((bW q.n).make 0),aQ q.bs (cl q.K q.c)]):=by have z:=q.z;exact(tr (c:=⟨q.W0,q.F0⟩) (kn [q.lv,q.vs,q.vb,q.vr,q.vS,iN (q.n),pz q.bt,pz q.bs,iz (q.ca),iz (q.mo)] (fc q.hl.leaf (fc q.v6 (fc q.v7 (fc q.v8 (fc q.v9 fr))))) [] [] [] fn fn fn q.W0 q.F0 [[aE q.bt (bW q.n),aQ q.bs (cl q.K q.c),yk q],[aE q.bt ((bW q.n).make 0),aQ q.bs (cl q.K q.c),yk q],[ce 407 (λv=>cJ (aq 0 v) (aq 1 v) (aq 2 v) q.vS ((bW q.n).make 0) (cl q.K q.c)),aE q.bt ((bW q.n).make 0),aQ q.bs (cl q.K q.c)]] [] [⟨9,[sy 6],0,none,.tuple #[iz 0,iz 0],some 1⟩,⟨22,[.agg #[sy 1,sy 2,sy 3]],1,some 407,.tuple #[.agg #[.complex .f32 407 2,.complex .f32 407 3,.complex .f32 407 4],iz 0,iz 0],some 2⟩]) fn (fc (cc rfl [aE q.bt ((bW q.n).make 0)] [0] [1,2] (λw F ho hn hF=>vZ (by omega) hn)) (fc (cd rfl [λv=>cJ (aq 0 v) (aq 1 v) (aq 2 v) q.vS ((bW q.n).make 0) (cl q.K q.c)] [2] [0,1] (λw F ho hn hF=>A8 (by omega) hn)) fn)) rfl [(4,q.b17),(8,q.b18)] [(4,[sy 6,sy 7,sy 8,sy 9],31),(8,[sy 1,sy 2,sy 3,sy 4,sy 8,sy 9],60)] [(4,[sy 6,sy 7,sy 8,sy 9],31),(8,[.complex .f32 407 2,.complex .f32 407 3,.complex .f32 407 4,sy 4,sy 8,sy 9],60)] 2 rfl rfl [(5,sy 0),(13,sy 5),(16,iz 0),(17,.pointer (some ⟨4,0,none⟩)),(18,.pointer (some ⟨8,0,none⟩))] [(5,sy 0),(13,sy 5),(17,.pointer (some ⟨4,0,none⟩)),(18,.pointer (some ⟨8,0,none⟩)),(21,iz 0)] .normal).conv (λκ w=>⟨(λ_ h=>h),(λ_ h=>h),(λ_ h=>bN (a:=λv=>cJ (aq 0 v) (aq 1 v) (aq 2 v) q.vS ((bW q.n).make 0) (cl q.K q.c)) (λ_ _ _ _ _ h=>h) h),(λ_ h=>h),(λ_ h=>h),trivial⟩)
theorem Pu(q:LQ)(hi:q.i<q.ls.length):dH prog 5 [24,0] 0 2 238 ⟨q.W0,q.F0⟩ (gF q) (jY q) .normal (λκ:ag=>(gF q)) (λκ:ag=>(jY q)):=(tr (c:=⟨q.W0,q.F0⟩) (kn [q.lv,q.vs,q.vb,q.vr,q.vS,iN (q.n),iN (q.i),pz q.bt,pz q.bs,iz (q.ca),iz (q.mo),iN (q.ls.length)] (fc q.hl.leaf (fc q.v6 (fc q.v7 (fc q.v8 (fc q.v9 fr))))) [(.lss,sy 6,sy 11,.bool true)] [] [] (fc (λ_ _ _=>ax (by have z:=q.z;first|(simp;done)|(simp;omega))) fn) fn fn q.W0 q.F0 [pZ q] [⟨[10,22],[sy 0],none,0,none,sy 11,none⟩] []) (fc (bf (ci:=0) rfl rfl q.hl underlying22 rfl rfl) fn) fn rfl [(4,q.b17),(8,q.b18)] nJ nJ 0 rfl rfl tO tO .normal)
theorem Pv(q:LQ)(hi:¬ q.i<q.ls.length):dH prog 5 [24,0] 0 2 238 ⟨q.W0,q.F0⟩ (gF q) (jY q) (.exit 0) (λκ:ag=>[(17,pz q.b17)]) (λκ:ag=>(jY q)):=(tr (c:=⟨q.W0,q.F0⟩) (kn [q.lv,q.vs,q.vb,q.vr,q.vS,iN (q.n),iN (q.i),pz q.bt,pz q.bs,iz (q.ca),iz (q.mo),iN (q.ls.length)] (fc q.hl.leaf (fc q.v6 (fc q.v7 (fc q.v8 (fc q.v9 fr))))) [(.lss,sy 6,sy 11,.bool false)] [] [] (fc (λ_ _ _=>ax (by have z:=q.z;first|(simp;done)|(simp;omega))) fn) fn fn q.W0 q.F0 [pZ q] [⟨[10,22],[sy 0],none,0,none,sy 11,none⟩] []) (fc (bf (ci:=0) rfl rfl q.hl underlying22 rfl rfl) fn) fn rfl [(4,q.b17),(8,q.b18)] nJ nJ 0 rfl rfl tO [(17,.pointer (some ⟨4,0,none⟩))] (.exit 0))
theorem Pw(q:LQ):dH prog 5 [24,0] 3 1 238 ⟨q.W0,q.F0⟩ (gF q) (jY q) .normal (λκ:ag=>[(5,(q.lv)),(13,iN q.n),(17,pz q.b17),(18,pz q.b18),(21,(iN ((q.i)+1)))]) (λκ:ag=>(jY q)):=(tr (c:=⟨q.W0,q.F0⟩) (kn [q.lv,q.vs,q.vb,q.vr,q.vS,iN (q.n),iN (q.i),pz q.bt,pz q.bs,iz (q.ca),iz (q.mo),iN ((q.i)+1)] (fc q.hl.leaf (fc q.v6 (fc q.v7 (fc q.v8 (fc q.v9 fr))))) [(.add,sy 6,iz 1,sy 11)] [] [] (fc (λ_ _ _=>bM (by have z:=q.z;rw[aM (by omega) (by omega)];omega)) fn) fn fn q.W0 q.F0 [pZ q] [] []) fn fn rfl [(4,q.b17),(8,q.b18)] nJ nJ 0 rfl rfl tO [(5,sy 0),(13,sy 5),(17,.pointer (some ⟨4,0,none⟩)),(18,.pointer (some ⟨8,0,none⟩)),(21,sy 11)] .normal)
theorem MH(q:LQ)(hm:q.ls[q.i]? = some q.mv)(hgo:q.mv.go=true)(hi:q.i<q.ls.length):dH prog 5 [24,0,4] 0 3 238 ⟨q.W0,q.F0⟩ (gF q) (jY q) .normal (λκ:ag=>[(5,(q.lv)),(13,iN q.n),(17,pz q.b17),(18,pz q.b18),(21,iN q.i),(22,(pz ((κ 400).getD 0)))]) (λκ:ag=>[eM q,bv q.b18 [(aq 0 (dv κ 411)),(aq 1 (dv κ 411)),(aq 3 (dv κ 411)),q.vS,iz q.ca,iz q.mo] 60,bv ((κ 400).getD 0) [iz q.mv.g,(.int .u8 ((q.mv.b:Nat):Int)),.bool true] 35,cJ (aq 0 (dv κ 411)) (aq 1 (dv κ 411)) (aq 3 (dv κ 411)) q.vS (q.t.eK q.mv.g 2) q.s,aE q.bt (q.t.eK q.mv.g 2),aQ q.bs q.s]):=by have z:=q.z;exact(tr (c:=⟨q.W0,q.F0⟩) (kn [q.lv,q.vs,q.vb,q.vr,q.vS,au (q.lv) ((q.i)*3),iz (q.mv.g),.int .u8 ((q.mv.b:Nat):Int),iN (q.n),iN (q.i),pz q.bt,pz q.bs,iz (q.ca),iz (q.mo)] (fc q.hl.leaf (fc q.v6 (fc q.v7 (fc q.v8 (fc q.v9 (fc (ae _ _) fr)))))) [] [] [] fn fn fn q.W0 q.F0 [pZ q,[aE q.bt (q.t.eK q.mv.g 2),aQ q.bs q.s,nK q],[ce 411 (λv=>cJ (aq 0 v) (aq 1 v) (aq 3 v) q.vS (q.t.eK q.mv.g 2) q.s),aE q.bt (q.t.eK q.mv.g 2),aQ q.bs q.s]] [⟨[3,22],[sy 0,sy 9],none,0,none,sy 5,none⟩,⟨[1,35],[sy 5],none,0,none,.agg #[sy 6,sy 7,.bool true],none⟩] [⟨10,[sy 10,sy 6,iz 2],0,some 407,.complex .f32 407 0,some 1⟩,⟨23,[.agg #[sy 1,sy 2,sy 3],sy 6,iz 2],1,some 411,.tuple #[.agg #[.complex .f32 411 2,.complex .f32 411 3,.complex .f32 411 5],.complex .f32 411 6],some 2⟩]) (fc (by obtain⟨i,i1,i2,i3,i4⟩:=El;exact bj (ci:=0) (j:=(q.i)) rfl rfl q.hl underlying22 i1 i2 rfl rfl (by omega) rfl) (fc (by exact Cu (ci:=0) (j:=(q.i)) rfl rfl q.hl Em (by omega) (Hf hm hgo) rfl (λι=>(iw (vk (by kernel_rfl) (by kernel_rfl)) (iw (vk (by kernel_rfl) (by kernel_rfl)) (iw (vk (by kernel_rfl) (by kernel_rfl)) zb)))) q.hX) fn)) (fc (cm rfl [] [aE q.bt (q.t.eK q.mv.g 2)] [0] [1,2] (λw F ho hn hF=>Gy q.ht (by decide) hn)) (fc (cd rfl [λv=>cJ (aq 0 v) (aq 1 v) (aq 3 v) q.vS (q.t.eK q.mv.g 2) q.s] [2] [0,1] (λw F ho hn hF=>zO q.ht (by decide) hn)) fn)) rfl [(4,q.b17),(8,q.b18)] Et [(4,[sy 10,sy 11,sy 12,sy 13],31),(8,[.complex .f32 411 2,.complex .f32 411 3,.complex .f32 411 5,sy 4,sy 12,sy 13],60),(400,[sy 6,sy 7,.bool true],35)] 2 rfl rfl yl Eu .normal).conv (λκ w=>⟨(λ_ h=>h),(λ_ h=>h),(λ_ h=>h),(λ_ h=>bN (a:=λv=>cJ (aq 0 v) (aq 1 v) (aq 3 v) q.vS (q.t.eK q.mv.g 2) q.s) (λ_ _ _ _ _ h=>h) h),(λ_ h=>h),(λ_ h=>h),trivial⟩)
theorem MI(q:LQ)(hm:q.ls[q.i]? = some q.mv)(hgo:q.mv.go=false)(hi:q.i<q.ls.length):dH prog 5 [24,0,4] 0 3 238 ⟨q.W0,q.F0⟩ (gF q) (jY q) .normal (λκ:ag=>[(5,(q.lv)),(13,iN q.n),(17,pz q.b17),(18,pz q.b18),(21,iN q.i),(22,(pz ((κ 400).getD 0)))]) (λκ:ag=>[eM q,jX q,bv ((κ 400).getD 0) [iz q.mv.g,(.int .u8 ((q.mv.b:Nat):Int)),.bool false] 35,aE q.bt q.t,aQ q.bs q.s,nK q]):=by have z:=q.z;exact(tr (c:=⟨q.W0,q.F0⟩) (kn [q.lv,q.vs,q.vb,q.vr,q.vS,au (q.lv) ((q.i)*3),iz (q.mv.g),.int .u8 ((q.mv.b:Nat):Int),iN (q.n),iN (q.i),pz q.bt,pz q.bs,iz (q.ca),iz (q.mo)] (fc q.hl.leaf (fc q.v6 (fc q.v7 (fc q.v8 (fc q.v9 (fc (ae _ _) fr)))))) [] [] [] fn fn fn q.W0 q.F0 [pZ q] [⟨[3,22],[sy 0,sy 9],none,0,none,sy 5,none⟩,⟨[1,35],[sy 5],none,0,none,.agg #[sy 6,sy 7,.bool false],none⟩] []) (fc (by obtain⟨i,i1,i2,i3,i4⟩:=El;exact bj (ci:=0) (j:=(q.i)) rfl rfl q.hl underlying22 i1 i2 rfl rfl (by omega) rfl) (fc (by exact Cu (ci:=0) (j:=(q.i)) rfl rfl q.hl Em (by omega) (Hf hm hgo) rfl (λι=>(iw (vk (by kernel_rfl) (by kernel_rfl)) (iw (vk (by kernel_rfl) (by kernel_rfl)) (iw (vk (by kernel_rfl) (by kernel_rfl)) zb)))) q.hX) fn)) fn rfl [(4,q.b17),(8,q.b18)] Et [(4,[sy 10,sy 11,sy 12,sy 13],31),(8,[sy 1,sy 2,sy 3,sy 4,sy 12,sy 13],60),(400,[sy 6,sy 7,.bool false],35)] 0 rfl rfl yl Eu .normal)
theorem Px(q:LQ)(hI:Inv q.K q.n q.m q.t q.s):dH prog 5 [24,0,4] 3 3 238 ⟨q.W0,q.F0⟩ (jZ q) (fO q) .normal (λκ:ag=>[(5,(q.lv)),(13,iN q.n),(17,pz q.b17),(18,pz q.b18),(21,iN q.i),(22,(au (ap q.b14 3) 0)),(23,(pz ((κ 400).getD 0))),(25,(pz ((κ 412).getD 0))),(26,iz q.o.e)]) (λκ:ag=>[eM q,bv q.b18 [(aq 0 (dv κ 407)),(aq 1 (dv κ 407)),(aq 3 (dv κ 407)),(aq 4 (dv κ 407)),iz q.ca,iz q.mo] 60,bv ((κ 400).getD 0) [iN (q.mv.b%8),iN (q.mv.b / 8%4)] 45,bv ((κ 408).getD 0) [(aq 0 (dv κ 407)),(aq 1 (dv κ 407)),(aq 3 (dv κ 407)),(aq 4 (dv κ 407)),iz q.ca,iz q.mo] 60,bv ((κ 412).getD 0) [iz q.o.nx,iz q.o.x] 65,cJ (aq 0 (dv κ 407)) (aq 1 (dv κ 407)) (aq 3 (dv κ 407)) (aq 4 (dv κ 407)) q.o.t q.o.s,aE q.bt q.t,aQ q.bs q.s,eN q]):=by have z:=q.z;exact(tr (c:=⟨q.W0,q.F0⟩) (kn [q.lv,au (ap q.b14 3) 0,q.vs,q.vb,q.vr,q.vS,au (ap q.b14 3) (0+1),au (ap q.b14 3) (0+0),iN (q.n),iN (q.i),ap q.b14 3,pz q.bt,pz q.bs,iz (q.ca),iz (q.mo),.int .u8 ((q.mv.b:Nat):Int),iN (q.mv.b%8),iN (q.mv.b / 8%4),iz (q.mv.g),iz (q.o.nx),iz (q.o.x),iz (q.o.e)] (fc q.hl.leaf (fc (ae _ _) (fc q.v6 (fc q.v7 (fc q.v8 (fc q.v9 (fc (ae _ _) (fc (ae _ _) fr)))))))) [] [] [] fn fn fn q.W0 q.F0 [e9 q,[ce 407 (λv=>cJ (aq 0 v) (aq 1 v) (aq 3 v) (aq 4 v) q.o.t q.o.s),aE q.bt q.t,aQ q.bs q.s,eN q]] [⟨[7,35,1],[sy 1],none,0,none,sy 6,none⟩,⟨[1,5],[sy 6],none,0,none,sy 15,none⟩,⟨[7,35,0],[sy 1],none,0,none,sy 7,none⟩,⟨[1,3],[sy 7],none,0,none,sy 18,none⟩] [⟨13,[sy 15],0,none,.agg #[sy 16,sy 17],none⟩,⟨24,[.agg #[sy 2,sy 3,sy 4,sy 5,sy 13,sy 14],sy 16,sy 17,sy 18],0,some 407,.tuple #[.agg #[.complex .f32 407 2,.complex .f32 407 3,.complex .f32 407 5,.complex .f32 407 6,sy 13,sy 14],.agg #[sy 19,sy 20],sy 21],some 1⟩]) (fc (by exact af (ci:=4) (fo:=1) rfl rfl (by omega) Iq rfl rfl) (fc (by exact ah (ci:=4) (m:=0+1) (x:=(.int .u8 ((q.mv.b:Nat):Int))) rfl rfl Ip rfl (by decide) rfl (λι=>(vk (by kernel_rfl) (by kernel_rfl)))) (fc (by exact af (ci:=4) (fo:=0) rfl rfl (by omega) lJ rfl rfl) (fc (by exact ah (ci:=4) (m:=0+0) (x:=(iz q.mv.g)) rfl rfl aG rfl (by decide) rfl (λι=>(vk (by kernel_rfl) (by kernel_rfl)))) fn)))) (fc (pc rfl (λw hb=>JU q.mv.b q.mv.hb w)) (fc (cd rfl [λv=>cJ (aq 0 v) (aq 1 v) (aq 3 v) (aq 4 v) q.o.t q.o.s] [2] [0,1,3] (λw F ho hn hF=>q.MG hI hn)) fn)) rfl [(4,q.b17),(8,q.b18)] tP [(4,[sy 11,sy 12,sy 13,sy 14],31),(8,[.complex .f32 407 2,.complex .f32 407 3,.complex .f32 407 5,.complex .f32 407 6,sy 13,sy 14],60),(400,[sy 16,sy 17],45),(408,[.complex .f32 407 2,.complex .f32 407 3,.complex .f32 407 5,.complex .f32 407 6,sy 13,sy 14],60),(412,[sy 19,sy 20],65)] 1 rfl rfl ym [(5,sy 0),(13,sy 8),(17,.pointer (some ⟨4,0,none⟩)),(18,.pointer (some ⟨8,0,none⟩)),(21,sy 9),(22,sy 1),(23,.pointer (some ⟨400,0,none⟩)),(25,.pointer (some ⟨412,0,none⟩)),(26,sy 21)] .normal).conv (λκ w=>⟨(λ_ h=>h),(λ_ h=>h),(λ_ h=>h),(λ_ h=>h),(λ_ h=>h),(λ_ h=>bN (a:=λv=>cJ (aq 0 v) (aq 1 v) (aq 3 v) (aq 4 v) q.o.t q.o.s) (λ_ _ _ _ _ h=>h) h),(λ_ h=>h),(λ_ h=>h),(λ_ h=>h),trivial⟩)
theorem Py(q:LQ)(hI:Inv q.K q.n q.m q.t q.s)(IG IH:Nat):dH prog 5 [24,0,4] 6 3 238 ⟨q.W0,q.F0⟩ [(5,(q.lv)),(13,iN q.n),(17,pz q.b17),(18,pz q.b18),(21,iN q.i),(22,(au (ap q.b14 3) 0)),(23,pz IG),(25,pz IH),(26,iz q.o.e)] [eM q,jX q,bv IG [iN (q.mv.b%8),iN (q.mv.b / 8%4)] 45,bv IH [iz q.o.nx,iz q.o.x] 65,aE q.bt q.t,aQ q.bs q.s,tQ q,eN q] .normal (λκ:ag=>(jZ q)) (λκ:ag=>[eM q,jX q,bv IG [iN (q.mv.b%8),iN (q.mv.b / 8%4)] 45,bv IH [iz q.o.nx,iz q.o.x] 65,aE q.bt q.o.t,aQ q.bs q.o.s,tQ q,eN q]):=by have z:=q.z;exact(tr (c:=⟨q.W0,q.F0⟩) (kn [q.lv,au (ap q.b14 3) 0,q.vs,q.vb,q.vr,q.vS,au (ap q.b14 3) (0+0),iN (q.n),iN (q.i),ap q.b14 3,iz (q.o.e),pz q.bt,pz q.bs,iz (q.ca),iz (q.mo),iN (q.mv.b%8),iN (q.mv.b / 8%4),iz (q.o.nx),iz (q.o.x),iz (q.mv.g)] (fc q.hl.leaf (fc (ae _ _) (fc q.v6 (fc q.v7 (fc q.v8 (fc q.v9 (fc (ae _ _) fr))))))) [(.neq,sy 10,sy 10,.bool false),(.neq,sy 17,sy 17,.bool false),(.neq,sy 18,sy 18,.bool false)] [] [] (fc (λ_ _ _=>gx (by first|(simp;done)|(simp;omega))) (fc (λ_ _ _=>gx (by first|(simp;done)|(simp;omega))) (fc (λ_ _ _=>gx (by first|(simp;done)|(simp;omega))) fn))) fn fn q.W0 q.F0 [[aE q.bt q.t,aQ q.bs q.s,tQ q,eN q],Ex q,Ex q] [⟨[7,35,0],[sy 1],none,0,none,sy 6,none⟩,⟨[1,3],[sy 6],none,0,none,sy 19,none⟩] [⟨12,[.agg #[sy 11,sy 12,sy 13,sy 14],.agg #[sy 15,sy 16],sy 19],0,none,.tuple #[.agg #[sy 17,sy 18],sy 10],some 1⟩,⟨25,[.agg #[sy 11,sy 12,sy 13,sy 14],.agg #[sy 2,sy 3,sy 4,sy 5,sy 13,sy 14]],1,none,.bool true,some 2⟩]) (fc (by exact af (ci:=4) (fo:=0) rfl rfl (by omega) lJ rfl rfl) (fc (by exact ah (ci:=4) (m:=0+0) (x:=(iz q.mv.g)) rfl rfl aG rfl (by decide) rfl (λι=>(vk (by kernel_rfl) (by kernel_rfl)))) fn)) (fc (cc rfl [aE q.bt q.o.t,aQ q.bs q.o.s] [0,1] [2,3] (λw F ho hn hF=>q.dec hI hn)) (fc (cc rfl [aE q.bt q.o.t,aQ q.bs q.o.s,cJ q.vs q.vb q.vr q.vS q.o.t q.o.s] [0,1,2] [3] (λw F ho hn hF=>mM (ca:=q.ca) (mo:=q.mo) (q.JZ hI).1 (q.JZ hI).2 hn)) fn)) rfl [(4,q.b17),(8,q.b18),(12,IG),(16,IH)] Ew Ew 2 rfl rfl [(5,sy 0),(13,sy 7),(17,.pointer (some ⟨4,0,none⟩)),(18,.pointer (some ⟨8,0,none⟩)),(21,sy 8),(22,sy 1),(23,.pointer (some ⟨12,0,none⟩)),(25,.pointer (some ⟨16,0,none⟩)),(26,sy 10)] yn .normal)
theorem Pz(q:LQ)(h5:q.i%5≠4):dH prog 5 [24,0,4] 9 2 238 ⟨q.W0,q.F0⟩ (jZ q) (fO q) .normal (λκ:ag=>(gF q)) (λκ:ag=>(fO q)):=(tr (c:=⟨q.W0,q.F0⟩) (kn [q.lv,au (ap q.b14 3) 0,q.vs,q.vb,q.vr,q.vS,iN (q.n),iN (q.i),ap q.b14 3,pz q.bt,pz q.bs,iz (q.ca),iz (q.mo),iN (q.i%5)] (fc q.hl.leaf (fc (ae _ _) (fc q.v6 (fc q.v7 (fc q.v8 (fc q.v9 fr)))))) [(.rem,sy 7,iz 5,sy 13),(.eql,sy 13,iz 4,.bool false)] [] [] (fc (λ_ _ _=>g9 (by decide) rfl) (fc (λ_ _ _=>bL (by have z:=q.z;first|(simp;done)|(simp;omega))) fn)) fn fn q.W0 q.F0 [e9 q] [] []) fn fn rfl [(4,q.b17),(8,q.b18)] tR tR 0 rfl rfl Ey [(5,sy 0),(13,sy 6),(17,.pointer (some ⟨4,0,none⟩)),(18,.pointer (some ⟨8,0,none⟩)),(21,sy 7)] .normal)
theorem MJ(q:LQ)(h5:q.i%5=4)(hx:q.mv.g<0)(hr:q.t.runs q.mv.g=none):dH prog 5 [24,0,4] 9 2 238 ⟨q.W0,q.F0⟩ (jZ q) (fO q) .normal (λκ:ag=>(gF q)) (λκ:ag=>(fO q)):=by have z:=q.z;exact(tr (c:=⟨q.W0,q.F0⟩) (kn [q.lv,au (ap q.b14 3) 0,q.vs,q.vb,q.vr,q.vS,au (ap q.b14 3) (0+0),iN (q.n),iN (q.i),ap q.b14 3,pz q.bt,pz q.bs,iz (q.ca),iz (q.mo),iN (q.i%5),iz (q.mv.g)] (fc q.hl.leaf (fc (ae _ _) (fc q.v6 (fc q.v7 (fc q.v8 (fc q.v9 (fc (ae _ _) fr))))))) [(.rem,sy 8,iz 5,sy 14),(.eql,sy 14,iz 4,.bool true),(.geq,sy 15,iz 0,.bool false)] [] [] (fc (λ_ _ _=>g9 (by decide) rfl) (fc (λ_ _ _=>bL (by first|(simp;done)|(simp;omega))) (fc (λ_ _ _=>aP (by first|(simp;done)|(simp;omega))) fn))) fn fn q.W0 q.F0 [e9 q,e9 q,e9 q] [⟨[7,35,0],[sy 1],none,0,none,sy 6,none⟩,⟨[1,3],[sy 6],none,0,none,sy 15,none⟩] [⟨26,[.agg #[sy 10,sy 11,sy 12,sy 13],sy 15],0,none,iz 2,some 1⟩,⟨25,[.agg #[sy 10,sy 11,sy 12,sy 13],.agg #[sy 2,sy 3,sy 4,sy 5,sy 12,sy 13]],1,none,.bool true,some 2⟩]) (fc (by exact af (ci:=4) (fo:=0) rfl rfl (by omega) lJ rfl rfl) (fc (by exact ah (ci:=4) (m:=0+0) (x:=(iz q.mv.g)) rfl rfl aG rfl (by decide) rfl (λι=>(vk (by kernel_rfl) (by kernel_rfl)))) fn)) (fc (cc rfl [aE q.bt q.t,aQ q.bs q.s] [0,1] [2,3] (λw F ho hn hF=>tN (ca:=q.ca) (mo:=q.mo) (g:=q.mv.g) q.ht q.hs hr hn)) (fc (cc rfl [aE q.bt q.t,aQ q.bs q.s,cJ q.vs q.vb q.vr q.vS q.t q.s] [0,1,2] [3] (λw F ho hn hF=>mM (ca:=q.ca) (mo:=q.mo) q.ht q.hs hn)) fn)) rfl [(4,q.b17),(8,q.b18)] nL nL 2 rfl rfl yn yo .normal)
theorem MK(q:LQ)(h5:q.i%5=4)(hx:0<=q.mv.g)(hx2:(q.n:Int)<=q.mv.g)(hr:q.t.runs q.mv.g=none):dH prog 5 [24,0,4] 9 2 238 ⟨q.W0,q.F0⟩ (jZ q) (fO q) .normal (λκ:ag=>(gF q)) (λκ:ag=>(fO q)):=by have z:=q.z;exact(tr (c:=⟨q.W0,q.F0⟩) (kn [q.lv,au (ap q.b14 3) 0,q.vs,q.vb,q.vr,q.vS,au (ap q.b14 3) (0+0),iN (q.n),iN (q.i),ap q.b14 3,pz q.bt,pz q.bs,iz (q.ca),iz (q.mo),iN (q.i%5),iz (q.mv.g)] (fc q.hl.leaf (fc (ae _ _) (fc q.v6 (fc q.v7 (fc q.v8 (fc q.v9 (fc (ae _ _) fr))))))) [(.rem,sy 8,iz 5,sy 14),(.eql,sy 14,iz 4,.bool true),(.geq,sy 15,iz 0,.bool true),(.lss,sy 15,sy 7,.bool false)] [] [] (fc (λ_ _ _=>g9 (by decide) rfl) (fc (λ_ _ _=>bL (by first|(simp;done)|(simp;omega))) (fc (λ_ _ _=>aP (by first|(simp;done)|(simp;omega))) (fc (λ_ _ _=>ax (by first|(simp;done)|(simp;omega))) fn)))) fn fn q.W0 q.F0 [e9 q,e9 q,e9 q] [⟨[7,35,0],[sy 1],none,0,none,sy 6,none⟩,⟨[1,3],[sy 6],none,0,none,sy 15,none⟩] [⟨26,[.agg #[sy 10,sy 11,sy 12,sy 13],sy 15],0,none,iz 2,some 1⟩,⟨25,[.agg #[sy 10,sy 11,sy 12,sy 13],.agg #[sy 2,sy 3,sy 4,sy 5,sy 12,sy 13]],1,none,.bool true,some 2⟩]) (fc (by exact af (ci:=4) (fo:=0) rfl rfl (by omega) lJ rfl rfl) (fc (by exact ah (ci:=4) (m:=0+0) (x:=(iz q.mv.g)) rfl rfl aG rfl (by decide) rfl (λι=>(vk (by kernel_rfl) (by kernel_rfl)))) fn)) (fc (cc rfl [aE q.bt q.t,aQ q.bs q.s] [0,1] [2,3] (λw F ho hn hF=>tN (ca:=q.ca) (mo:=q.mo) (g:=q.mv.g) q.ht q.hs hr hn)) (fc (cc rfl [aE q.bt q.t,aQ q.bs q.s,cJ q.vs q.vb q.vr q.vS q.t q.s] [0,1,2] [3] (λw F ho hn hF=>mM (ca:=q.ca) (mo:=q.mo) q.ht q.hs hn)) fn)) rfl [(4,q.b17),(8,q.b18)] nL nL 2 rfl rfl yn yo .normal)
theorem ML(q:LQ)(h5:q.i%5=4)(hgj:q.mv.g=(q.j:Int))(hjn:q.j<q.n)(hlt:q.j<q.t.gs.length)(hj:q.t.gs[q.j]? = some (q.a,q.ab))(ha:q.a≠2)(hr:q.t.runs ((q.j:Nat):Int)=none):dH prog 5 [24,0,4] 9 2 238 ⟨q.W0,q.F0⟩ (jZ q) (fO q) .normal (λκ:ag=>(gF q)) (λκ:ag=>(fO q)):=by have z:=q.z;exact(tr (c:=⟨q.W0,q.F0⟩) (kn [q.lv,au (ap q.b14 3) 0,q.vs,q.vb,q.vr,q.vS,au (ap q.b14 3) (0+0),au (q.vs) ((q.j)*1),iN (q.n),iN (q.i),ap q.b14 3,pz q.bt,pz q.bs,iz (q.ca),iz (q.mo),iN (q.i%5),iN (q.j),iN (q.a)] (fc q.hl.leaf (fc (ae _ _) (fc q.v6 (fc q.v7 (fc q.v8 (fc q.v9 (fc (ae _ _) (fc (ae _ _) fr)))))))) [(.rem,sy 9,iz 5,sy 15),(.eql,sy 15,iz 4,.bool true),(.geq,sy 16,iz 0,.bool true),(.lss,sy 16,sy 8,.bool true),(.eql,sy 17,iz 2,.bool false)] [] [] (fc (λ_ _ _=>g9 (by decide) rfl) (fc (λ_ _ _=>bL (by first|(simp;done)|(simp;omega))) (fc (λ_ _ _=>aP (by first|(simp;done)|(simp;omega))) (fc (λ_ _ _=>ax (by first|(simp;done)|(simp;omega))) (fc (λ_ _ _=>bL (by first|(simp;done)|(simp;omega))) fn))))) fn fn q.W0 q.F0 [e9 q,e9 q,e9 q] [⟨[7,35,0],[sy 1],none,0,none,sy 6,none⟩,⟨[1,3],[sy 6],none,0,none,sy 16,none⟩,⟨[3,37],[sy 2,sy 16],none,0,none,sy 7,none⟩,⟨[1,3],[sy 7],none,0,none,sy 17,none⟩] [⟨26,[.agg #[sy 11,sy 12,sy 13,sy 14],sy 16],0,none,iz 2,some 1⟩,⟨25,[.agg #[sy 11,sy 12,sy 13,sy 14],.agg #[sy 2,sy 3,sy 4,sy 5,sy 13,sy 14]],1,none,.bool true,some 2⟩]) (fc (by exact af (ci:=4) (fo:=0) rfl rfl (by omega) lJ rfl rfl) (fc (by exact ah (ci:=4) (m:=0+0) (x:=(iN q.j)) rfl rfl aG (by show some (iz q.mv.g)=some (iN q.j);rw[hgj]) (by decide) rfl (λι=>(vk (by kernel_rfl) (by kernel_rfl)))) (fc (by obtain⟨i,i1,i2,i3,i4⟩:=aT;exact vY (ci:=3) (j:=(q.j)) rfl rfl (λ_ _ _ h=>(iJ.tb h).s) underlying37 i1 i2 rfl rfl (by rw[dg];omega) rfl) (fc (by exact zN (ci:=3) (m:=(q.j)*1) (x:=iN q.a) rfl rfl (λ_ _ _ h=>(iJ.tb h).s) aG (by rw[Nat.mul_one];exact bp (jT hj)) rfl (λι=>(vk (by kernel_rfl) (by kernel_rfl)))) fn)))) (fc (cc rfl [aE q.bt q.t,aQ q.bs q.s] [0,1] [2,3] (λw F ho hn hF=>tN (ca:=q.ca) (mo:=q.mo) (g:=((q.j:Nat):Int)) q.ht q.hs hr hn)) (fc (cc rfl [aE q.bt q.t,aQ q.bs q.s,cJ q.vs q.vb q.vr q.vS q.t q.s] [0,1,2] [3] (λw F ho hn hF=>mM (ca:=q.ca) (mo:=q.mo) q.ht q.hs hn)) fn)) rfl [(4,q.b17),(8,q.b18)] tP tP 2 rfl rfl ym yl .normal)
theorem MN(q:LQ)(h5:q.i%5=4):dH prog 5 [24,0,4] 9 1 238 ⟨q.W0,q.F0⟩ (jZ q) (fO q) .normal (λκ:ag=>[(5,(q.lv)),(13,iN q.n),(17,pz q.b17),(18,pz q.b18),(21,iN q.i),(22,(au (ap q.b14 3) 0)),(169,.bool true)]) (λκ:ag=>(fO q)):=(tr (c:=⟨q.W0,q.F0⟩) (kn [q.lv,au (ap q.b14 3) 0,q.vs,q.vb,q.vr,q.vS,iN (q.n),iN (q.i),ap q.b14 3,pz q.bt,pz q.bs,iz (q.ca),iz (q.mo),iN (q.i%5)] (fc q.hl.leaf (fc (ae _ _) (fc q.v6 (fc q.v7 (fc q.v8 (fc q.v9 fr)))))) [(.rem,sy 7,iz 5,sy 13),(.eql,sy 13,iz 4,.bool true)] [] [] (fc (λ_ _ _=>g9 (by decide) rfl) (fc (λ_ _ _=>bL (by have z:=q.z;first|(simp;done)|(simp;omega))) fn)) fn fn q.W0 q.F0 [e9 q] [] []) fn fn rfl [(4,q.b17),(8,q.b18)] tR tR 0 rfl rfl Ey [(5,sy 0),(13,sy 6),(17,.pointer (some ⟨4,0,none⟩)),(18,.pointer (some ⟨8,0,none⟩)),(21,sy 7),(22,sy 1),(169,.bool true)] .normal)
theorem MO(q:LQ)(hgj:q.mv.g=(q.j:Int))(hjn:q.j<q.n)(hlt:q.j<q.t.gs.length)(hj:q.t.gs[q.j]? = some (q.a,q.ab))(ha:q.a=2):dH prog 5 [24,0,4,20] 0 3 238 ⟨q.W0,q.F0⟩ (jZ q) (fO q) .normal (λκ:ag=>(Ez q)) (λκ:ag=>[eM q,bv q.b18 [(aq 0 (dv κ 403)),(aq 1 (dv κ 403)),(aq 3 (dv κ 403)),q.vS,iz q.ca,iz q.mo] 60,cJ (aq 0 (dv κ 403)) (aq 1 (dv κ 403)) (aq 3 (dv κ 403)) q.vS (q.t.eK ((q.j:Nat):Int) 1) q.s,aE q.bt q.t,aQ q.bs q.s,eN q]):=by have z:=q.z;exact(tr (c:=⟨q.W0,q.F0⟩) (kn [q.lv,au (ap q.b14 3) 0,q.vs,q.vb,q.vr,q.vS,au (ap q.b14 3) (0+0),au (q.vs) ((q.j)*1),iN (q.n),iN (q.i),ap q.b14 3,pz q.bt,pz q.bs,iz (q.ca),iz (q.mo),iN (q.j),iN (q.a)] (fc q.hl.leaf (fc (ae _ _) (fc q.v6 (fc q.v7 (fc q.v8 (fc q.v9 (fc (ae _ _) (fc (ae _ _) fr)))))))) [(.geq,sy 15,iz 0,.bool true),(.lss,sy 15,sy 8,.bool true),(.eql,sy 16,iz 2,.bool true)] [] [] (fc (λ_ _ _=>aP (by first|(simp;done)|(simp;omega))) (fc (λ_ _ _=>ax (by first|(simp;done)|(simp;omega))) (fc (λ_ _ _=>bL (by first|(simp;done)|(simp;omega))) fn))) fn fn q.W0 q.F0 [e9 q,[ce 403 (λv=>cJ (aq 0 v) (aq 1 v) (aq 3 v) q.vS (q.t.eK ((q.j:Nat):Int) 1) q.s),aE q.bt q.t,aQ q.bs q.s,eN q]] [⟨[7,35,0],[sy 1],none,0,none,sy 6,none⟩,⟨[1,3],[sy 6],none,0,none,sy 15,none⟩,⟨[3,37],[sy 2,sy 15],none,0,none,sy 7,none⟩,⟨[1,3],[sy 7],none,0,none,sy 16,none⟩] [⟨23,[.agg #[sy 2,sy 3,sy 4],sy 15,iz 1],0,some 403,.tuple #[.agg #[.complex .f32 403 2,.complex .f32 403 3,.complex .f32 403 5],.complex .f32 403 6],some 1⟩]) (fc (by exact af (ci:=4) (fo:=0) rfl rfl (by omega) lJ rfl rfl) (fc (by exact ah (ci:=4) (m:=0+0) (x:=(iN q.j)) rfl rfl aG (by show some (iz q.mv.g)=some (iN q.j);rw[hgj]) (by decide) rfl (λι=>(vk (by kernel_rfl) (by kernel_rfl)))) (fc (by obtain⟨i,i1,i2,i3,i4⟩:=aT;exact vY (ci:=3) (j:=(q.j)) rfl rfl (λ_ _ _ h=>(iJ.tb h).s) underlying37 i1 i2 rfl rfl (by rw[dg];omega) rfl) (fc (by exact zN (ci:=3) (m:=(q.j)*1) (x:=iN q.a) rfl rfl (λ_ _ _ h=>(iJ.tb h).s) aG (by rw[Nat.mul_one];exact bp (jT hj)) rfl (λι=>(vk (by kernel_rfl) (by kernel_rfl)))) fn)))) (fc (cd rfl [λv=>cJ (aq 0 v) (aq 1 v) (aq 3 v) q.vS (q.t.eK ((q.j:Nat):Int) 1) q.s] [2] [0,1,3] (λw F ho hn hF=>zO q.ht (by decide) hn)) fn) rfl [(4,q.b17),(8,q.b18)] tP [(4,[sy 11,sy 12,sy 13,sy 14],31),(8,[.complex .f32 403 2,.complex .f32 403 3,.complex .f32 403 5,sy 5,sy 13,sy 14],60)] 1 rfl rfl ym [(5,sy 0),(13,sy 8),(17,.pointer (some ⟨4,0,none⟩)),(18,.pointer (some ⟨8,0,none⟩)),(21,sy 9),(22,sy 1),(29,.bool true)] .normal).conv (λκ w=>⟨(λ_ h=>h),(λ_ h=>h),(λ_ h=>bN (a:=λv=>cJ (aq 0 v) (aq 1 v) (aq 3 v) q.vS (q.t.eK ((q.j:Nat):Int) 1) q.s) (λ_ _ _ _ _ h=>h) h),(λ_ h=>h),(λ_ h=>h),(λ_ h=>h),trivial⟩)
theorem MP(q:LQ)(hgj:q.mv.g=(q.j:Int))(hr:q.t.runs ((q.j:Nat):Int)=some q.j)(h2:(q.t.set q.j 1).Ok):dH prog 5 [24,0,4,20] 3 2 238 ⟨q.W0,q.F0⟩ (Ez q) [eM q,jX q,aE q.bt q.t,aQ q.bs q.s,tS q,eN q] .normal (λκ:ag=>(gF q)) (λκ:ag=>[eM q,jX q,aE q.bt (q.t.set q.j 1),aQ q.bs q.s,tS q,eN q]):=by have z:=q.z;exact(tr (c:=⟨q.W0,q.F0⟩) (kn [q.lv,au (ap q.b14 3) 0,q.vs,q.vb,q.vr,q.vS,au (ap q.b14 3) (0+0),iN (q.n),iN (q.i),ap q.b14 3,pz q.bt,pz q.bs,iz (q.ca),iz (q.mo),iN (q.j)] (fc q.hl.leaf (fc (ae _ _) (fc q.v6 (fc q.v7 (fc q.v8 (fc q.v9 (fc (ae _ _) fr))))))) [] [] [] fn fn fn q.W0 q.F0 [[aE q.bt q.t,aQ q.bs q.s,tS q,eN q],EA q,EA q] [⟨[7,35,0],[sy 1],none,0,none,sy 6,none⟩,⟨[1,3],[sy 6],none,0,none,sy 14,none⟩] [⟨26,[.agg #[sy 10,sy 11,sy 12,sy 13],sy 14],0,none,iz 0,some 1⟩,⟨25,[.agg #[sy 10,sy 11,sy 12,sy 13],.agg #[sy 2,sy 3,sy 4,sy 5,sy 12,sy 13]],1,none,.bool true,some 2⟩]) (fc (by exact af (ci:=4) (fo:=0) rfl rfl (by omega) lJ rfl rfl) (fc (by exact ah (ci:=4) (m:=0+0) (x:=(iN q.j)) rfl rfl aG (by show some (iz q.mv.g)=some (iN q.j);rw[hgj]) (by decide) rfl (λι=>(vk (by kernel_rfl) (by kernel_rfl)))) fn)) (fc (cc rfl [aE q.bt (q.t.set q.j 1),aQ q.bs q.s] [0,1] [2,3] (λw F ho hn hF=>Eq (ca:=q.ca) (mo:=q.mo) q.ht q.hs hr hn)) (fc (cc rfl [aE q.bt (q.t.set q.j 1),aQ q.bs q.s,cJ q.vs q.vb q.vr q.vS (q.t.set q.j 1) q.s] [0,1,2] [3] (λw F ho hn hF=>mM (ca:=q.ca) (mo:=q.mo) h2 q.hs hn)) fn)) rfl [(4,q.b17),(8,q.b18)] nL nL 2 rfl rfl [(5,sy 0),(13,sy 7),(17,.pointer (some ⟨4,0,none⟩)),(18,.pointer (some ⟨8,0,none⟩)),(21,sy 8),(22,sy 1),(29,.bool true)] yo .normal)
theorem PA(q:LQ):aI prog 5 [] 13 238 ⟨q.W0,q.F0⟩ [(17,pz q.b17)] [eM q] (λκ:ag=>(.bool true)) (λκ:ag=>[eM q]):=(br (c:=⟨q.W0,q.F0⟩) 4 (kn [pz q.bt,pz q.bs,iz (q.ca),iz (q.mo)] fr [] [] [] fn fn fn q.W0 q.F0 [[]] [] [⟨6,[],0,none,.bool true,none⟩]) fn (fc (pc rfl (λw hb=>qZ w)) fn) rfl [(4,q.b17)] [(4,[sy 0,sy 1,sy 2,sy 3],31)] [(4,[sy 0,sy 1,sy 2,sy 3],31)] 0 rfl rfl [(17,.pointer (some ⟨4,0,none⟩))] (.bool true))
end Go.Proofs.Ytankbefdlbcdnaa
