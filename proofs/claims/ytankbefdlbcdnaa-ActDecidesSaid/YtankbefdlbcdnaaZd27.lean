/- Part of a proof: see the last text. -/
import Derived.Test.YtankbefdlbcdnaaZd26
import Derived.Test.YtankbefdlbcdnaaZd23
set_option linter.unusedSimpArgs false
set_option linter.unusedVariables false
namespace Go.Ev
open Go.RowKit
theorem Ec{P:Program}{f:FuncId}(h:dL P (λB=>iu B f [] (λfn _=>kc fn.results.toList []))=true){R:Ending->World->Prop}{A:Act}{w:World}(hd:A.defers=[])(hR:R (.returned (.tuple #[])) w):bodyPostM Fence.wide 0 P (gH P f) R .normal A w:=by
 obtain⟨B,_,_,hf,hb,h⟩:=fX h;show LeavesInM Fence.wide 0 P (gH P f) A.tmps R A.defers .returning w;rw[hd];refine⟨_,?_,hR⟩;unfold results;rw[Array.mapM_eq_mapM_toList,lB h];rfl
end Go.Ev
namespace Go.Proofs.Ytankbefdlbcdnaa
open Go.Ev Go.Proofs.Try
open Go.RowKit
open Go.Ev (iz iN pz)
attribute [local irreducible] dF
section
variable{w:World}{F:Nat->Prop}{bs bt k:Nat}{s:Sem}{t:Tab}
theorem jW{fn:FuncId}{args:Array Value}{v:Value}(O:s.Ok)(h4:k<4)(h:bu [aQ bs s] F w)
  (H:∀ (xs:List Value) (G:Nat->Prop) (hl:xs.length=66) (hn:xs[0+64]? = some (.int .i64 ((s.nn:Nat):Int))),xs[km k+3]? = some (.int .i64 ((s.ct k:Nat):Int))->bu [sA bs xs] G w->Calls prog fn args w λe w'=>e=.returned v/\ay ⟨w,G⟩ [sA bs xs] w') :
  Calls prog fn args w λe w'=>e=.returned v/\ay ⟨w,F⟩ [aQ bs s] w':=by
 refine iC h4 h (λi G hi n1 back=>?_);obtain⟨h1,h2,h3⟩:=hi.z k h4;refine nB (l:=[sA bs i.xs]) (r:=[qz i.bw s.nw i.fw,tV (i.z k)]) (ay.start n1) (λG2 m1 m2=>?_);refine(H i.xs G2 hi.c.len hi.c.cn h3 m1).mono (λe w' ⟨he,hh⟩=>⟨he,?_⟩);have hb:=back [] _ _ _ _ w' (m2 _ _ hh);have e1:aZ i.z k (i.z k)=i.z:=by
  funext j
  unfold aZ
  split
  ·rename_i e;rw[e]
  ·rfl
 rw[e1]at hb;exact dO (l:=[]) hi hb
theorem Gw(O:s.Ok)(h:bu [aQ bs s] F w) :
  Calls prog 47 #[sP bs 0] w λe w'=>e=.returned (iN s.nn)/\ay ⟨w,F⟩ [aQ bs s] w' :=
 jW (k:=0) O (by decide) h (λxs G hl hn hc n1=>ao (OV ⟨w,G,bs,xs,hl,s.nn,hn,0,0,0,⟨O.n1,by decide⟩⟩) (by kernel_rfl) n1 (by simp) (by simp) (λκ w1 hh=>⟨rfl,hh⟩))
theorem Io(O:s.Ok)(hk:k<s.nn)(h:bu [aQ bs s] F w) :
  Calls prog 48 #[sP bs 0,iN k] w λe w'=>e=.returned (iN (s.ct k))/\ay ⟨w,F⟩ [aQ bs s] w':=by
 have h4:k<4:=by have:=O.n1;omega
 exact jW O h4 h (λxs G hl hn hc n1=>ao (OW ⟨w,G,bs,xs,hl,s.nn,hn,k,0,s.ct k,⟨O.n1,h4⟩⟩ hk hc) (by kernel_rfl) n1 (by simp) (by simp) (λκ w1 hh=>⟨rfl,hh⟩))
theorem Ed{g:Nat}(O:s.Ok)(hk:s.nn<=k)(h4:k<4)(h:bu [aQ bs s] F w) :
  Calls prog 56 #[sP bs 0,iN k,iN g] w λe w'=>e=.returned (.tuple #[.bool false,iz 2])/\ay ⟨w,F⟩ [aQ bs s] w' :=
 jW O h4 h (λxs G hl hn hc n1=>ao (OX ⟨w,G,bs,xs,hl,s.nn,hn,k,g,0,⟨O.n1,h4⟩⟩ hk) (by kernel_rfl) n1 (by simp) (by simp) (λκ w1 hh=>⟨rfl,hh⟩))
theorem Ee(O:s.Ok)(hk:s.nn<=k)(h4:k<4)(h:bu [aQ bs s] F w) :
  Calls prog 15 #[sP bs 0,iN k] w λe w'=>e=.returned (.slice none 0 0)/\ay ⟨w,F⟩ [aQ bs s] w' :=
 jW O h4 h (λxs G hl hn hc n1=>ao (OY ⟨w,G,bs,xs,hl,s.nn,hn,k,0,0,⟨O.n1,h4⟩⟩ hk) (by kernel_rfl) n1 (by simp) (by simp) (λκ w1 hh=>⟨rfl,hh⟩))
theorem Ef(O:s.Ok)(hk:s.nn<=k)(h4:k<4)(h:bu [aQ bs s] F w) :
  Calls prog 57 #[sP bs 0,iN k] w λe w'=>e=.returned (.tuple #[iz 0,.bool false,iz 2])/\ay ⟨w,F⟩ [aQ bs s] w' :=
 jW O h4 h (λxs G hl hn hc n1=>ao (OZ ⟨w,G,bs,xs,hl,s.nn,hn,k,0,0,⟨O.n1,h4⟩⟩ hk) (by kernel_rfl) n1 (by simp) (by simp) (λκ w1 hh=>⟨rfl,hh⟩))
theorem Eg(O:t.Ok)(h:bu [aE bt t] F w) :
  Calls prog 50 #[pz bt] w λe w'=>e=.returned (iN t.gs.length)/\ay ⟨w,F⟩ [aE bt t] w':=by
 refine dP h (λav fv fh fC G n1 n2=>?_);exact ao (O1 (tq w G bt av fv fh fC t 0 0 0 0 0 O (by decide))) (by kernel_rfl) n1 (by simp) (by simp) (λκ w1 hh=>⟨by show Ending.returned (iN t.g.length)=_;rw[Tab.mF],cR (l:=[]) (n2 _ _ hh) rfl rfl⟩)
theorem Eh(O:t.Ok){j a b:Nat}(hj:t.gs[j]? = some (a,b))(h:bu [aE bt t] F w) :
  Calls prog 65 #[pz bt,iN j] w λe w'=>e=.returned (iN b)/\ay ⟨w,F⟩ [aE bt t] w':=by
 have hp:=O.st _ (List.mem_of_getElem? hj);refine dP h (λav fv fh fC G n1 n2=>?_);exact ao (O2 (tq w G bt av fv fh fC t j a b 0 0 O ⟨hp.1,by decide,by omega⟩) (Tab.vH hj) (by show j<t.g.length;rw[Tab.mF];exact(List.getElem?_eq_some_iff.1 hj).1)) (by kernel_rfl) n1 (by simp) (by simp) (λκ w1 hh=>⟨rfl,cR (l:=[]) (n2 _ _ hh) rfl rfl⟩)
def ME(l l':List Int)(k:Nat):Prop:=l'.length=l.length/\∀ i,i<l.length->l'[i]? = if i<k\/l.length-k<=i then l[l.length-1-i]? else l[i]?
theorem xZ{v:Value}{l:List Int}(hl:l.length<=300)(h:bu [aO 3 1 v l.length (aB l)] F w) :
  Calls prog 75 #[v] w λe w'=>e=.returned (.tuple #[])/\ay ⟨w,F⟩ [aO 3 1 v l.length (aB l.reverse)] w':=by
 have lv:aR v=true:=bV (ay.start h)
 let q:(l':List Int)->l'.length=l.length->(i j:Nat)->i<=300->j<=300->Int->Int->Int->Hd:=λl' e i j hi hj jj x y=>⟨w,F,v,lv,l',l.length,e,i,j,jj,x,y,⟨hl,hi,hj⟩⟩
 refine bx (N:=28) (tm:=[(0,v)]) (by kernel_rfl) h (by simp) (by simp) (λA hA=>?_);refine O4 (q l rfl 0 0 (by omega) (by omega) 0 0 0) A w _ hA ?_;intro κ A1 w1 g1;refine cY (id:=0) (by kernel_rfl) ?_;refine eD (by kernel_rfl) (λ(x:Nat×List Int) A w'=>Ev.At ⟨w,F⟩ 28 [(0,v),(2,iN x.1),(3,iz ((l.length:Int)-1-(x.1:Int)))] [aO 3 1 v l.length (aB x.2)] A w'/\ME l x.2 x.1/\2*x.1<=l.length+1) (λx=>l.length-x.1) (x:=(0,l)) ⟨(by show Ev.At _ 28 [(0,v),(2,iN 0),(3,iz ((l.length:Int)-1-((0:Nat):Int)))] [aO 3 1 v l.length (aB l)] A1 w1;rw[show((l.length:Int)-1-((0:Nat):Int))=(l.length:Int)-1 by omega];exact g1),⟨rfl,λi hi=>by rw[if_neg (by omega)]⟩,by show 2*0<=l.length+1;omega⟩ ?_;clear g1 hA A A1 w1;rintro⟨k,l'⟩ A w1 ⟨g1,⟨e,hr⟩,hk2⟩;replace hk2:2*k<=l.length+1:=hk2;replace e:l'.length=l.length:=e;replace hr:∀ i,i<l.length->l'[i]? = if i<k\/l.length-k<=i then l[l.length-1-i]? else l[i]?:=hr
 dsimp only at g1;have MF:k<l.length-1-k\/¬ (k:Int)<(l.length:Int)-1-(k:Int):=by omega
 rcases MF with hij | hij
 ·have hk1:k<l'.length:=by omega
  have hj1:l.length-1-k<l'.length:=by omega
  have ej:((l.length:Int)-1-(k:Int))=((l.length-1-k:Nat):Int):=by omega
  rw[ej]at g1;refine O5 (q l' e k (l.length-1-k) (by omega) (by omega) 0 l'[k] l'[l.length-1-k]) (List.getElem?_eq_getElem hk1) (List.getElem?_eq_getElem hj1) hij (by show l.length-1-k<l.length;omega) A w1 _ g1 ?_;intro κ2 A2 w2 g2;refine db (by kernel_rfl) ⟨(k+1,(l'.set k l'[l.length-1-k]).set (l.length-1-k) l'[k]),⟨?_,⟨by simp[e],λi hi=>?_⟩,by show 2*(k+1)<=l.length+1;omega⟩,by show l.length-(k+1)<l.length-k;omega⟩
  ·have e3:((l.length:Int)-1-((k+1:Nat):Int))=((l.length-1-k-1:Nat):Int):=by omega
   show Ev.At _ 28 [(0,v),(2,iN (k+1)),(3,iz ((l.length:Int)-1-((k+1:Nat):Int)))] [aO 3 1 v l.length (aB ((l'.set k l'[l.length-1-k]).set (l.length-1-k) l'[k]))] A2 w2;rw[e3];have e4:aB ((l'.set k l'[l.length-1-k]).set (l.length-1-k) l'[k])=((aB l').set (k*1) (iz l'[l.length-1-k])).set ((l.length-1-k)*1) (iz l'[k]):=by simp[aB,List.map_set]
   rw[e4];exact g2
  ·have a1:=hr k (by omega)
   have a2:=hr (l.length-1-k) (by omega);rw[if_neg (by omega),List.getElem?_eq_getElem hk1]at a1;rw[if_neg (by omega),List.getElem?_eq_getElem hj1]at a2;rw[List.getElem?_set,List.getElem?_set]
   by_cases c1:l.length-1-k=i
   ·rw[if_pos c1,if_pos (by simp;omega),if_pos (by omega),a1]
    congr 1
    omega
   ·rw[if_neg c1]
    by_cases c2:k=i
    ·rw[if_pos c2,if_pos (by omega),if_pos (by omega),a2]
     congr 1
     omega
    ·rw[if_neg c2,hr i hi]
     by_cases c3:i<k\/l.length-k<=i
     ·rw[if_pos c3,if_pos (by omega)]
     ·rw[if_neg c3,if_neg (by omega)]
 ·refine O6 (q l' e k 0 (by omega) (by omega) ((l.length:Int)-1-(k:Int)) 0 0) hij A w1 _ g1 ?_
  intro κ2 A2 w2 g2;have er:l'=l.reverse:=by
   refine List.ext_getElem? (λi=>?_);rcases Nat.lt_or_ge i l.length with hi | hi
   ·rw[hr i hi,List.getElem?_reverse hi]
    by_cases c3:i<k\/l.length-k<=i
    ·rw[if_pos c3]
    ·rw[if_neg c3]
     congr 1
     omega
   ·rw[List.getElem?_eq_none (by omega),List.getElem?_eq_none (by simpa using hi)]
  rw[← er];exact db (by kernel_rfl) (Ec (by kernel_rfl) g2.df ⟨rfl,g2.hold⟩)
theorem AZ{v v2:Value}{l:List Int}(hl:l.length<=300)(h1:c7 1 v l.length (aB l) w)(h2:c7 1 v2 l.length (aB l) w) :
  Calls prog 49 #[v,v2] w λe w'=>e=.returned (.bool true)/\Below w.heap.size w w':=by
 let q:(i:Nat)->i<=300->Int->tx:=λi hi y=>⟨w,v,l,h1,v2,l,h2,y,y,i,⟨hl,hl,hi⟩⟩
 refine bx (N:=26) (tm:=[(0,v),(1,v2)]) (by kernel_rfl) (aX w) (by simp) (by simp) (λA h=>?_);refine O7 (q 0 (by omega) 0) rfl A w _ h ?_;intro κ A1 w1 g1;refine cY (id:=0) (by kernel_rfl) ?_;refine eD (by kernel_rfl) (λ(k:Nat) A w'=>Ev.At ⟨w,λ_=>False⟩ 26 [(0,v),(1,v2),(5,iN k)] [] A w'/\k<=l.length) (λk=>l.length-k) (x:=0) ⟨g1,Nat.zero_le _⟩ ?_;clear g1 h A A1 w1;rintro k A w1 ⟨g1,hk⟩
 by_cases hj:k<l.length
 ·have hy:l[k]? = some l[k]:=List.getElem?_eq_getElem hj
  refine O8 (q k (by omega) l[k]) hj hj hy hy rfl A w1 _ g1 ?_;intro κ2 A2 w2 g2;exact db (by kernel_rfl) ⟨k+1,⟨g2,by omega⟩,by omega⟩
 ·refine O9 (q k (by omega) 0) hj A w1 _ g1 ?_
  intro κ2 A2 w2 g2;refine O_ (q 0 (by omega) 0) A2 w2 _ (g2.to (λq hq=>by cases hq) (λhh=>hh)) ?_;intro κ3 w3 g3;exact⟨rfl,g3.below (λ_ h=>h)⟩
end
end Go.Proofs.Ytankbefdlbcdnaa
namespace Go.Proofs.Ytankbefdlbcdnaa
open Go.Ev Go.Proofs.Try
open Go.RowKit
open Go.Ev (sy iz uz wz iN uN wN pz dv fc fn ak vk vd kn pc cc cr cm cd fr)
set_option maxRecDepth 8000
attribute [local irreducible] dF
abbrev vR(q:TQ):aK:=aO 87 2 (q.av) (q.gs.length) (mQ q.gs)
abbrev vT(q:TQ):aK:=aO 3 1 (q.fv) (q.fr.length) (aB q.fr)
theorem O'(q:TQ):aI prog 64 [] 0 14 ⟨q.W0,q.F0⟩ [(0,pz q.bt)] [bv q.bt [q.av,q.fv] 83,vR q,vT q] (λκ:ag=>(dv κ 403)) (λκ:ag=>[bv q.bt [q.av,q.fv] 83,aO 3 1 (dv κ 403) q.fr.length (aB q.fr.reverse),vT q,vR q]):=by have z:=q.z;exact(br (c:=⟨q.W0,q.F0⟩) 20 (kn [q.av,q.fv] (fc q.fh (fc q.fC fn)) [] [] [] fn fn fn q.W0 q.F0 [[vR q,vT q],[ce 403 (λv=>aO 3 1 v q.fr.length (aB q.fr)),vT q,vR q],[ce 403 (λv=>aO 3 1 v q.fr.length (aB q.fr.reverse)),vT q,vR q]] [] [⟨74,[sy 1],0,some 403,.complex .f32 403 0,some 1⟩,⟨75,[.complex .f32 403 0],1,none,.tuple #[],some 2⟩]) fn (fc (cm rfl [λv=>aO 3 1 v q.fr.length (aB q.fr)] [aO 3 1 (q.fv) (q.fr.length) (aB q.fr)] [1] [0] (λw F ho hn hF=>AY (by omega) gy hn)) (fc (s6 (c:=⟨q.W0,q.F0⟩) (kN:=[ce 403 (λv=>aO 3 1 v q.fr.length (aB q.fr))]) (lp:=λv=>[aO 3 1 v q.fr.length (aB q.fr)]) (args:=λv=>[v]) [λv=>aO 3 1 v q.fr.length (aB q.fr.reverse)] [0] [1,2] rfl rfl rfl rfl (qX (λ_ _ _ _ _ h=>h) nr) (f_ (ak (by kernel_rfl) (by kernel_rfl))) (λι=>JB) (λv w F ho hn hF=>xZ (by omega) hn)) fn)) rfl [(4,q.bt)] [(4,[sy 0,sy 1],83)] [(4,[sy 0,sy 1],83)] 2 rfl rfl [(0,.pointer (some ⟨4,0,none⟩))] (.complex .f32 403 0)).conv (λκ w=>⟨(λ_ h=>h),(λ_ h=>bN (a:=λv=>aO 3 1 v q.fr.length (aB q.fr.reverse)) (λ_ _ _ _ _ h=>h) h),(λ_ h=>h),(λ_ h=>h),trivial⟩)
abbrev fE(q:DQ):List aK:=[aE q.bt q.t,aQ q.bs q.s]
abbrev vU(q:DQ):List aK:=[aQ q.bs q.s,aE q.bt q.t]
abbrev vV(q:DQ):Value:=(.agg #[pz q.bt,pz q.bs,iz q.ca,iz q.mo])
abbrev He:Value:=(.agg #[iz 0,iz 0])
abbrev yc:List (Nat×Value):=[(0,.agg #[sy 0,sy 1,sy 2,sy 3]),(1,sy 4)]
theorem Pa(q:DQ)(hj:q.t.gs[q.j]? = some (2,q.b))(hk:q.s.nn<=q.k):aI prog 12 [] 0 46 ⟨q.W0,q.F0⟩ [(0,vV q),(1,(.agg #[iz 5,iN q.k])),(2,iN q.j)] (fE q) (λκ:ag=>(.tuple #[He,iz 282])) (λκ:ag=>(vU q)):=by have z:=q.z;exact(br (c:=⟨q.W0,q.F0⟩) 60 (kn [pz q.bt,pz q.bs,iz (q.ca),iz (q.mo),iN (q.k),iN (q.j)] fr [(.geq,sy 4,iz 0,.bool true),(.lss,sy 4,iz 4,.bool true)] [] [] (fc (λ_ _ _=>aP (by first|(simp;done)|(simp;omega))) (fc (λ_ _ _=>ax (by first|(simp;done)|(simp;omega))) fn)) fn fn q.W0 q.F0 [fE q,fE q,vU q] [] [⟨11,[sy 0,sy 5],0,none,.tuple #[iz 2,.bool true],some 1⟩,⟨56,[sy 1,sy 4,sy 5],1,none,.tuple #[.bool false,iz 2],some 2⟩]) fn (fc (cc rfl [aE q.bt q.t] [0] [1] (λw F ho hn hF=>(bP q.ht hj hn).mono (λ_ _ h=>h))) (fc (cc rfl [aQ q.bs q.s] [1] [0] (λw F ho hn hF=>Ed (g:=q.j) q.hs hk (by omega) hn)) fn)) rfl [] [] [] 2 rfl rfl [(0,.agg #[sy 0,sy 1,sy 2,sy 3]),(1,.agg #[iz 5,sy 4]),(2,sy 5)] (.tuple #[.agg #[iz 0,iz 0],iz 282]))
theorem Pb(q:DQ)(hj:q.t.gs[q.j]? = some (2,q.b))(hk:q.s.nn<=q.k):aI prog 12 [] 0 46 ⟨q.W0,q.F0⟩ [(0,vV q),(1,(.agg #[iz 6,iN q.k])),(2,iN q.j)] (fE q) (λκ:ag=>(.tuple #[He,iz 282])) (λκ:ag=>(vU q)):=by have z:=q.z;exact(br (c:=⟨q.W0,q.F0⟩) 60 (kn [pz q.bt,pz q.bs,iz (q.ca),iz (q.mo),iN (q.k),iN (q.j)] fr [(.geq,sy 4,iz 0,.bool true),(.lss,sy 4,iz 4,.bool true)] [] [] (fc (λ_ _ _=>aP (by first|(simp;done)|(simp;omega))) (fc (λ_ _ _=>ax (by first|(simp;done)|(simp;omega))) fn)) fn fn q.W0 q.F0 [fE q,fE q,vU q,vU q] [] [⟨11,[sy 0,sy 5],0,none,.tuple #[iz 2,.bool true],some 1⟩,⟨15,[sy 1,sy 4],1,none,.slice none 0 0,some 2⟩,⟨57,[sy 1,sy 4],2,none,.tuple #[iz 0,.bool false,iz 2],some 3⟩]) fn (fc (cc rfl [aE q.bt q.t] [0] [1] (λw F ho hn hF=>(bP q.ht hj hn).mono (λ_ _ h=>h))) (fc (cc rfl [aQ q.bs q.s] [1] [0] (λw F ho hn hF=>Ee q.hs hk (by omega) hn)) (fc (cc rfl [aQ q.bs q.s] [0] [1] (λw F ho hn hF=>Ef q.hs hk (by omega) hn)) fn))) rfl [] [] [] 3 rfl rfl [(0,.agg #[sy 0,sy 1,sy 2,sy 3]),(1,.agg #[iz 6,sy 4]),(2,sy 5)] (.tuple #[.agg #[iz 0,iz 0],iz 282]))
theorem Pc(q:DQ)(hj:q.t.gs[q.j]? = some (2,q.b)):aI prog 26 [] 0 13 ⟨q.W0,q.F0⟩ [(0,vV q),(1,iN q.j)] (fE q) (λκ:ag=>(iz 0)) (λκ:ag=>[aE q.bt (q.t.set q.j 1),aQ q.bs q.s]):=(br (c:=⟨q.W0,q.F0⟩) 60 (kn [pz q.bt,pz q.bs,iz (q.ca),iz (q.mo),iN (q.j)] fr [] [] [] fn fn fn q.W0 q.F0 [fE q,fE q,[aE q.bt (q.t.set q.j 1),aQ q.bs q.s]] [] [⟨11,[sy 0,sy 4],0,none,.tuple #[iz 2,.bool true],some 1⟩,⟨10,[sy 0,sy 4,iz 1],1,none,iz 0,some 2⟩]) fn (fc (cc rfl [aE q.bt q.t] [0] [1] (λw F ho hn hF=>(bP q.ht hj hn).mono (λ_ _ h=>h))) (fc (cc rfl [aE q.bt (q.t.set q.j 1)] [0] [1] (λw F ho hn hF=>jf q.ht (by decide) hj rfl hn)) fn)) rfl [] [] [] 2 rfl rfl yc (iz 0))
theorem Pd(q:DQ)(hj:q.t.gs[q.j]? = some (q.xa,q.b))(h2:q.xa≠2):aI prog 26 [] 0 13 ⟨q.W0,q.F0⟩ [(0,vV q),(1,iN q.j)] (fE q) (λκ:ag=>(iz 2)) (λκ:ag=>(fE q)):=(br (c:=⟨q.W0,q.F0⟩) 60 (kn [pz q.bt,pz q.bs,iz (q.ca),iz (q.mo),iN (q.j),iN (q.xa)] fr [(.eql,sy 5,iz 2,.bool false)] [] [] (fc (λ_ _ _=>bL (by have z:=q.z;first|(simp;done)|(simp;omega))) fn) fn fn q.W0 q.F0 [fE q,fE q] [] [⟨11,[sy 0,sy 4],0,none,.tuple #[sy 5,.bool true],some 1⟩]) fn (fc (cc rfl [aE q.bt q.t] [0] [1] (λw F ho hn hF=>(bP q.ht hj hn).mono (λ_ _ h=>h))) fn) rfl [] [] [] 1 rfl rfl yc (iz 2))
theorem Pe(q:DQ)(hx:q.g<0\/(q.t.gs.length:Int)<=q.g):aI prog 26 [] 0 13 ⟨q.W0,q.F0⟩ [(0,vV q),(1,iz q.g)] (fE q) (λκ:ag=>(iz 2)) (λκ:ag=>(fE q)):=(br (c:=⟨q.W0,q.F0⟩) 60 (kn [pz q.bt,pz q.bs,iz (q.ca),iz (q.mo),iz (q.g)] fr [] [] [] fn fn fn q.W0 q.F0 [fE q,fE q] [] [⟨11,[sy 0,sy 4],0,none,.tuple #[iz 0,.bool false],some 1⟩]) fn (fc (cc rfl [aE q.bt q.t] [0] [1] (λw F ho hn hF=>(pP q.ht hx hn).mono (λ_ _ h=>h))) fn) rfl [] [] [] 1 rfl rfl yc (iz 2))
end Go.Proofs.Ytankbefdlbcdnaa
namespace Go.Proofs.Ytankbefdlbcdnaa
open Go.Ev Go.Proofs.Try
open Go.RowKit
open Go.Ev (iz iN pz)
attribute [local irreducible] dF
section
variable{w:World}{F:Nat->Prop}{bs bt k:Nat}{s:Sem}{t:Tab}
theorem Gx(O:t.Ok)(h:bu [aE bt t] F w) :
  Calls prog 64 #[pz bt] w λe w'=>∃ v cd,Ev.dec cd=v/\e=.returned v/\ay ⟨w,F⟩ [fZ v (iH t),aE bt t] w':=by
 refine dP h (λav fv fh fC G n1 n2=>?_);refine ao (O' (tq w G bt av fv fh fC t 0 0 0 0 0 O (by decide))) (by kernel_rfl) n1 (by simp) (by simp) (λκ w1 hh=>⟨_,(κ 403).getD 0,rfl,rfl,?_⟩);have h1:=(n2 _ _ hh).sel [0,3,2,1];have er:iH t=t.f.reverse:=by simp[iH,Tab.f,List.map_reverse]
 show ay _ [aO 3 1 _ (iH t).length (aB (iH t)),aE bt t] w1;rw[er,List.length_reverse];exact(cR (t:=t) (l:=[aO 3 1 (Ev.dv κ 403) t.f.length (aB t.f.reverse)]) h1 rfl rfl).sel [1,0]
theorem yd{ca mo:Int}{kd k:Nat}{g:Int}(ht:t.Ok)(hs:s.Ok)(hkd:kd<8)(hk4:k<4)
  (hw:∀ j b:Nat,t.gs[j]? = some (2,b)->∀ i,i<4->(j:Int) ∉ s.ln i) (hl:∀ i,i<4->∀ x ∈ s.ln i,∃ b,t.gs[x.toNat]? = some (3,b)) (h:bu [aE bt t,aQ bs s] F w) :
  Calls prog 12 #[nD bt bs ca mo,Gf kd k,iz g] w λe w'=>e=.returned (xK (d8 t s ca mo kd k g).nx (d8 t s ca mo kd k g).x (d8 t s ca mo kd k g).e)/\ay ⟨w,F⟩ [aE bt (d8 t s ca mo kd k g).t,aQ bs (d8 t s ca mo kd k g).s] w':=by
 by_cases hk:k<s.nn
 ·exact AP ht hs hkd hk4 hk ht.fr hw hl h
 let q0:DQ:=⟨w,F,bt,bs,t,s,ht,hs,ca,mo,k,kd,0,0,0,0,0,[],g,hk4,hkd⟩
 unfold d8;cases hr:t.runs g with
 | none =>
  rcases Tab.iE hr with hx | ⟨a,b,h0,hj,h2⟩
  ·exact ao (Hb q0 hx) (by kernel_rfl) h (by simp) (by simp[q0]) (λκ w1 hh=>⟨rfl,hh⟩)
  ·obtain⟨j,rfl⟩:∃ j:Nat,g=(j:Int):=⟨g.toNat,by omega⟩
   exact ao (JT { q0 with j:=j,b:=b,xa:=a } hj h2) (by kernel_rfl) h (by simp) (by simp[q0]) (λκ w1 hh=>⟨rfl,hh⟩)
 | some j =>
  obtain⟨rfl,b,hj⟩:=Tab.e8 hr
  let q:DQ:={ q0 with j:=j,b:=b }
  show Calls _ _ _ _ λe w'=>e=.returned (xK (dC t s ca mo kd k j).nx (dC t s ca mo kd k j).x (dC t s ca mo kd k j).e)/\ay ⟨w,F⟩ [aE bt (dC t s ca mo kd k j).t,aQ bs (dC t s ca mo kd k j).s] w'
  have hnk:s.nn<=k:=by omega
  match kd,hkd with
  | 0,_=>exact ao (DB q hj) (by kernel_rfl) h (by simp) (by simp[q,q0]) (λκ w1 hh=>⟨rfl,hh⟩)
  | 1,_=>exact ao (zn q hj) (by kernel_rfl) h (by simp) (by simp[q,q0]) (λκ w1 hh=>⟨rfl,hh⟩)
  | 2,_=>exact ao (zo q hj) (by kernel_rfl) h (by simp) (by simp[q,q0]) (λκ w1 hh=>⟨rfl,hh⟩)
  | 3,_ =>
   unfold dC;cases hx:t.fr[t.fr.length-1]? with
   | some x =>
    have hx2:=ht.fr x (List.mem_of_getElem? hx);refine ao (G9 { q with x:=x,xa:=(t.gs[x]).1,xb:=(t.gs[x]).2 } hj hx (List.getElem?_eq_getElem hx2)) (by kernel_rfl) h (by simp) (by simp[q,q0]) (λκ w1 hh=>⟨rfl,hh⟩)
   | none =>
    have hz:t.fr=[]:=by
     have:=List.getElem?_eq_none_iff.1 hx;exact List.length_eq_zero_iff.1 (by omega)
    refine ao (G_ q hj hz) (by kernel_rfl) h (by simp) (by simp[q,q0]) (λκ w1 hh=>⟨rfl,hh⟩)
  | 4,_=>exact ao (DC q hj) (by kernel_rfl) h (by simp) (by simp[q,q0]) (λκ w1 hh=>⟨rfl,hh⟩)
  | 5,_ =>
   have e0:dC t s ca mo 5 k j=⟨0,0,282,t,s⟩:=if_pos hnk;rw[e0];exact ao (Pa q hj hnk) (by kernel_rfl) h (by simp) (by simp[q,q0]) (λκ w1 hh=>⟨rfl,hh.sel [1,0]⟩)
  | 6,_ =>
   have e0:dC t s ca mo 6 k j=⟨0,0,282,t,s⟩:=if_pos hnk;rw[e0];exact ao (Pb q hj hnk) (by kernel_rfl) h (by simp) (by simp[q,q0]) (λκ w1 hh=>⟨rfl,hh.sel [1,0]⟩)
  | 7,_ =>
   unfold dC
   by_cases hm:mo<=ca
   ·rw[if_pos hm]
    exact ao (G' q hj hm) (by kernel_rfl) h (by simp) (by simp[q,q0]) (λκ w1 hh=>⟨rfl,hh⟩)
   ·rw[if_neg hm]
    exact ao (Ha q hj (by show ca<mo;omega)) (by kernel_rfl) h (by simp) (by simp[q,q0]) (λκ w1 hh=>⟨rfl,hh⟩)
def Tab.drop(t:Tab)(g:Int):Tab:=match t.runs g with
 | some j=>t.set j 1
 | none=>t
def zI(t:Tab)(g:Int):Int:=match t.runs g with
 | some _=>0
 | none=>2
theorem vW{ca mo:Int}{g:Int}(ht:t.Ok)(hs:s.Ok)(h:bu [aE bt t,aQ bs s] F w) :
  Calls prog 26 #[nD bt bs ca mo,iz g] w λe w'=>e=.returned (iz (zI t g))/\ay ⟨w,F⟩ [aE bt (t.drop g),aQ bs s] w':=by
 let q0:DQ:=⟨w,F,bt,bs,t,s,ht,hs,ca,mo,0,0,0,0,0,0,0,[],g,by decide,by decide⟩
 unfold Tab.drop zI;cases hr:t.runs g with
 | none =>
  rcases Tab.iE hr with hx | ⟨a,b,h0,hj,h2⟩
  ·exact ao (Pe q0 hx) (by kernel_rfl) h (by simp) (by simp[q0]) (λκ w1 hh=>⟨rfl,hh⟩)
  ·obtain⟨j,rfl⟩:∃ j:Nat,g=(j:Int):=⟨g.toNat,by omega⟩
   exact ao (Pd { q0 with j:=j,b:=b,xa:=a } hj h2) (by kernel_rfl) h (by simp) (by simp[q0]) (λκ w1 hh=>⟨rfl,hh⟩)
 | some j =>
  obtain⟨rfl,b,hj⟩:=Tab.e8 hr;exact ao (Pc { q0 with j:=j,b:=b } hj) (by kernel_rfl) h (by simp) (by simp[q0]) (λκ w1 hh=>⟨rfl,hh⟩)
end
end Go.Proofs.Ytankbefdlbcdnaa
namespace Go.Proofs.Ytankbefdlbcdnaa
open Go.Ev Go.Proofs.Try
open Go.RowKit
open Go.Ev (sy iz uz wz iN uN wN pz dv fc fn ak vk vd kn pc cc cr cm cd fr)
set_option maxRecDepth 8000
attribute [local irreducible] dF
theorem vX{v v2:Value}{l:List Int}{w:World}{F:Nat->Prop}(hl:l.length<=300)(h2:c7 1 v2 l.length (aB l) w)(h:bu [fZ v l] F w) :
  Calls prog 49 #[v,v2] w λe w'=>e=.returned (.bool true)/\ay ⟨w,F⟩ [fZ v l] w' :=
 (AZ hl (cv (i:=0) h rfl).1 h2).mono (λe w' ⟨he,hb⟩=>⟨he,⟨⟨F,ft h (λj hj=>hb.block j (h.lt j hj)) hb.size,⟨hb.os,hb.tape,hb.output,hb.size,λj hj _=>hb.block j hj⟩,λj hj=>.inl hj⟩⟩⟩)
structure A0 where
 W0:World
 F0:Nat->Prop
 bt:Nat
 vs:Value
 vb:Value
 vr:Value
 t:Tab
 tb:zt W0 vs vb vr t
 xs:fL F0 vs
 xb:fL F0 vb
 xr:fL F0 vr
 O:t.Ok
 v:Value
 lv:aR v=true
 l:List Int
 i:Nat
 a:Nat
 b:Nat
 h:l.length<=300/\i<=300
theorem A0.z(q:A0):q.l.length<=300/\q.i<=300/\(iH q.t).length<=300/\(cU q.t).length<=300/\(pV q.t).length<=300/\q.t.gs.length<=300:=by
 have h:=q.h;have h1:=q.O.n;have h2:=q.O.fn;rw[mJ,dg,oL];omega
abbrev zJ:List g_:=[(4,[sy 1,sy 2,sy 3],55)]
abbrev ye(q:A0)(b4:Nat):aK:=bv b4 [q.vs,q.vb,q.vr] 55
abbrev yf(q:A0)(b4:Nat):List aK:=[(ye q b4),aO 3 1 (q.v) (q.l.length) (aB q.l),aE q.bt q.t]
abbrev nH:List g_:=[(4,[sy 0,sy 1,sy 2],55)]
abbrev nI(q:A0)(b4:Nat):List aK:=[(ye q b4),aE q.bt q.t]
theorem stA(q:A0):dH prog 46 [] 0 5 69 ⟨q.W0,q.F0⟩ [(0,pz q.bt),(1,(.agg #[q.vs,q.vb,q.vr]))] [aE q.bt q.t] .normal (λκ:ag=>[(0,pz q.bt),(3,(pz ((κ 400).getD 0))),(5,dv κ 407),(6,iz 0)]) (λκ:ag=>[bv ((κ 400).getD 0) [q.vs,q.vb,q.vr] 55,fZ (dv κ 407) (iH q.t),aE q.bt q.t]):=(tr (c:=⟨q.W0,q.F0⟩) (kn [q.vs,q.vb,q.vr,pz q.bt,iN (q.t.gs.length),iN ((cU q.t).length)] (fc q.tb.s.leaf (fc q.tb.b.leaf (fc q.tb.r.leaf fr))) [(.neq,sy 4,sy 5,.bool false)] [] [] (fc (λ_ _ _=>gx (decide_eq_false (by rw[dg];exact λh=>h rfl))) fn) fn fn q.W0 q.F0 [[aE q.bt q.t],[ce 407 (λv=>fZ v (iH q.t)),aE q.bt q.t],[aE q.bt q.t,ce 407 (λv=>fZ v (iH q.t))],[ce 407 (λv=>fZ v (iH q.t)),aE q.bt q.t]] [⟨[10,37],[sy 0],some (0,7,[]),0,none,sy 5,none⟩] [⟨64,[sy 3],0,some 407,.complex .f32 407 0,some 1⟩,⟨50,[sy 3],1,none,sy 4,some 2⟩,⟨49,[.complex .f32 407 0,sy 2],2,none,.bool true,some 3⟩]) (fc (Ev.st (λg gl hg=>bf (ci:=0) (cI hg) rfl q.tb.s underlying37 rfl rfl)) fn) (fc (cm rfl [λv=>fZ v (iH q.t)] [aE q.bt q.t] [0] [] (λw F ho hn hF=>Gx q.O hn)) (fc (cc rfl [aE q.bt q.t] [1] [0] (λw F ho hn hF=>Eg q.O hn)) (fc (s6 (c:=⟨q.W0,q.F0⟩) (kN:=[ce 407 (λv=>fZ v (iH q.t))]) (lp:=λv=>[fZ v (iH q.t)]) (args:=λv=>[v,q.vr]) [λv=>fZ v (iH q.t)] [1] [0] rfl rfl rfl rfl (qX (λ_ _ _ _ _ h=>h) nr) (f_ (ak (by kernel_rfl) (by kernel_rfl))) (λι=>(vk (by kernel_rfl) (by kernel_rfl))) (λv w F ho hn hF=>vX (by have z:=q.z;omega) (q.tb.r.old ho q.xr) hn)) fn))) rfl [] [] [(400,[sy 0,sy 1,sy 2],55)] 3 rfl rfl [(0,sy 3),(1,.agg #[sy 0,sy 1,sy 2])] [(0,sy 3),(3,.pointer (some ⟨400,0,none⟩)),(5,.complex .f32 407 0),(6,iz 0)] .normal).conv (λκ w=>⟨(λ_ h=>h),(λ_ h=>bN (a:=λv=>fZ v (iH q.t)) (λ_ _ _ _ _ h=>h) h),(λ_ h=>h),trivial⟩)
theorem Pf(q:A0)(b4:Nat)(hi:q.i<q.l.length):dH prog 46 [10,0] 0 4 69 ⟨q.W0,q.F0⟩ [(0,pz q.bt),(3,pz b4),(5,(q.v)),(6,iN q.i)] (yf q b4) .normal (λκ:ag=>[(0,pz q.bt),(3,pz b4),(5,(q.v)),(6,(iN ((q.i)+1)))]) (λκ:ag=>[(ye q b4),aO 3 1 (q.v) (q.l.length) ((aB q.l).set ((q.i)*1) (iz 77)),aE q.bt q.t]):=by have z:=q.z;obtain⟨i,i1,i2,i3,i4⟩:=aT;exact(tr (c:=⟨q.W0,q.F0⟩) (kn [q.v,q.vs,q.vb,q.vr,au (q.v) ((q.i)*1),pz q.bt,iN (q.i),iN (q.l.length),iN ((q.i)+1)] (fc q.lv (fc q.tb.s.leaf (fc q.tb.b.leaf (fc q.tb.r.leaf (fc (ae _ _) fr))))) [(.lss,sy 6,sy 7,.bool true),(.add,sy 6,iz 1,sy 8)] [] [] (fc (λ_ _ _=>ax (by first|(simp;done)|(simp;omega))) (fc (λ_ _ _=>bM (by rw[aM (by omega) (by omega)];omega)) fn)) fn fn q.W0 q.F0 [[aO 3 1 (q.v) (q.l.length) (aB q.l),aE q.bt q.t],[aO 3 1 (q.v) (q.l.length) ((aB q.l).set ((q.i)*1) (iz 77)),aE q.bt q.t]] [⟨[10,37],[sy 0],none,0,none,sy 7,none⟩,⟨[3,37],[sy 0,sy 6],none,0,none,sy 4,none⟩,⟨[2,3],[sy 4,iz 77],none,0,none,undef,some 1⟩] []) (fc (by exact de (ci:=1) rfl rfl underlying37 i2 rfl rfl) (fc (by exact bZ (ci:=1) (j:=(q.i)) rfl rfl underlying37 i1 i2 rfl rfl (by omega) rfl) (fc (by exact bD (ci:=1) (m:=(q.i)*1) (x:=(iz 77)) rfl rfl rfl bE (by omega) rfl dM rfl) fn))) fn rfl [(4,b4)] zJ zJ 1 rfl rfl [(0,sy 5),(3,.pointer (some ⟨4,0,none⟩)),(5,sy 0),(6,sy 6)] [(0,sy 5),(3,.pointer (some ⟨4,0,none⟩)),(5,sy 0),(6,sy 8)] .normal)
theorem Pg(q:A0)(b4:Nat)(hi:¬ q.i<q.l.length):dH prog 46 [10,0] 0 2 69 ⟨q.W0,q.F0⟩ [(0,pz q.bt),(3,pz b4),(5,(q.v)),(6,iN q.i)] (yf q b4) (.exit 0) (λκ:ag=>[(0,pz q.bt),(3,pz b4)]) (λκ:ag=>(yf q b4)):=(tr (c:=⟨q.W0,q.F0⟩) (kn [q.v,q.vs,q.vb,q.vr,pz q.bt,iN (q.i),iN (q.l.length)] (fc q.lv (fc q.tb.s.leaf (fc q.tb.b.leaf (fc q.tb.r.leaf fr)))) [(.lss,sy 5,sy 6,.bool false)] [] [] (fc (λ_ _ _=>ax (by have z:=q.z;first|(simp;done)|(simp;omega))) fn) fn fn q.W0 q.F0 [[aO 3 1 (q.v) (q.l.length) (aB q.l),aE q.bt q.t]] [⟨[10,37],[sy 0],none,0,none,sy 6,none⟩] []) (fc (by obtain⟨i,i1,i2,i3,i4⟩:=aT;exact de (ci:=1) rfl rfl underlying37 i2 rfl rfl) fn) fn rfl [(4,b4)] zJ zJ 0 rfl rfl [(0,sy 4),(3,.pointer (some ⟨4,0,none⟩)),(5,sy 0),(6,sy 5)] [(0,sy 4),(3,.pointer (some ⟨4,0,none⟩))] (.exit 0))
theorem Ph(q:A0)(b4:Nat):dH prog 46 [] 6 1 69 ⟨q.W0,q.F0⟩ [(0,pz q.bt),(3,pz b4)] (nI q b4) .normal (λκ:ag=>[(0,pz q.bt),(3,pz b4),(7,iz 0)]) (λκ:ag=>(nI q b4)):=(tr (c:=⟨q.W0,q.F0⟩) (kn [q.vs,q.vb,q.vr,pz q.bt] (fc q.tb.s.leaf (fc q.tb.b.leaf (fc q.tb.r.leaf fr))) [] [] [] fn fn fn q.W0 q.F0 [[aE q.bt q.t]] [] []) fn fn rfl [(4,b4)] nH nH 0 rfl rfl [(0,sy 3),(3,.pointer (some ⟨4,0,none⟩))] [(0,sy 3),(3,.pointer (some ⟨4,0,none⟩)),(7,iz 0)] .normal)
theorem Pj(q:A0)(b4:Nat)(hj:q.t.gs[q.i]? = some (q.a,q.b))(hi:q.i<(cU q.t).length)(hi2:q.i<(pV q.t).length):dH prog 46 [14,0] 0 4 69 ⟨q.W0,q.F0⟩ [(0,pz q.bt),(3,pz b4),(7,iN q.i)] (nI q b4) .normal (λκ:ag=>[(0,pz q.bt),(3,pz b4),(7,(iN ((q.i)+1)))]) (λκ:ag=>(nI q b4)):=by have z:=q.z;obtain⟨i,i1,i2,i3,i4⟩:=aT;exact(tr (c:=⟨q.W0,q.F0⟩) (kn [q.vs,q.vb,q.vr,au (q.vs) ((q.i)*1),au (q.vb) ((q.i)*1),pz q.bt,iN (q.i),iN ((cU q.t).length),iN (q.a),iN (q.b),iN ((q.i)+1)] (fc q.tb.s.leaf (fc q.tb.b.leaf (fc q.tb.r.leaf (fc (ae _ _) (fc (ae _ _) fr))))) [(.lss,sy 6,sy 7,.bool true),(.neq,sy 8,sy 8,.bool false),(.neq,sy 9,sy 9,.bool false),(.add,sy 6,iz 1,sy 10)] [] [] (fc (λ_ _ _=>ax (by first|(simp;done)|(simp;omega))) (fc (λ_ _ _=>gx (by first|(simp;done)|(simp;omega))) (fc (λ_ _ _=>gx (by first|(simp;done)|(simp;omega))) (fc (λ_ _ _=>bM (by rw[aM (by omega) (by omega)];omega)) fn)))) fn fn q.W0 q.F0 [[aE q.bt q.t],[aE q.bt q.t],[aE q.bt q.t]] [⟨[10,37],[sy 0],some (0,7,[]),0,none,sy 7,none⟩,⟨[3,37],[sy 0,sy 6],some (0,7,[]),0,none,sy 3,none⟩,⟨[1,3],[sy 3],some (0,7,[]),0,none,sy 8,none⟩,⟨[3,37],[sy 1,sy 6],some (0,7,[]),0,none,sy 4,none⟩,⟨[1,3],[sy 4],some (0,7,[]),0,none,sy 9,none⟩] [⟨11,[sy 5,sy 6],0,none,.tuple #[sy 8,.bool true],some 1⟩,⟨65,[sy 5,sy 6],1,none,sy 9,some 2⟩]) (fc (Ev.st (λg gl hg=>bf (ci:=0) (cI hg) rfl q.tb.s underlying37 rfl rfl)) (fc (by exact Ev.st (λg gl hg=>bj (ci:=0) (j:=(q.i)) (cI hg) rfl q.tb.s underlying37 i1 i2 rfl rfl (by omega) rfl)) (fc (by exact Ev.st (λg gl hg=>bq (ci:=0) (m:=(q.i)*1) (x:=iN (q.a)) (cI hg) rfl q.tb.s aG (by rw[Nat.mul_one];exact bp (jT hj)) rfl rfl q.xs)) (fc (by exact Ev.st (λg gl hg=>bj (ci:=0) (j:=(q.i)) (cI hg) rfl q.tb.b underlying37 i1 i2 rfl rfl (by omega) rfl)) (fc (by exact Ev.st (λg gl hg=>bq (ci:=0) (m:=(q.i)*1) (x:=iN (q.b)) (cI hg) rfl q.tb.b aG (by rw[Nat.mul_one];exact bp (DX hj)) rfl rfl q.xb)) fn))))) (fc (cc rfl [aE q.bt q.t] [0] [] (λw F ho hn hF=>(bP q.O hj hn).mono (λ_ _ h=>h))) (fc (cc rfl [aE q.bt q.t] [0] [] (λw F ho hn hF=>Eh q.O hj hn)) fn)) rfl [(4,b4)] nH nH 2 rfl rfl [(0,sy 5),(3,.pointer (some ⟨4,0,none⟩)),(7,sy 6)] [(0,sy 5),(3,.pointer (some ⟨4,0,none⟩)),(7,sy 10)] .normal)
theorem Pk(q:A0)(b4:Nat)(hi:¬ q.i<(cU q.t).length):dH prog 46 [14,0] 0 2 69 ⟨q.W0,q.F0⟩ [(0,pz q.bt),(3,pz b4),(7,iN q.i)] (nI q b4) (.exit 2) (λκ:ag=>[(0,pz q.bt)]) (λκ:ag=>(nI q b4)):=(tr (c:=⟨q.W0,q.F0⟩) (kn [q.vs,q.vb,q.vr,pz q.bt,iN (q.i),iN ((cU q.t).length)] (fc q.tb.s.leaf (fc q.tb.b.leaf (fc q.tb.r.leaf fr))) [(.lss,sy 4,sy 5,.bool false)] [] [] (fc (λ_ _ _=>ax (by have z:=q.z;first|(simp;done)|(simp;omega))) fn) fn fn q.W0 q.F0 [[aE q.bt q.t]] [⟨[10,37],[sy 0],some (0,7,[]),0,none,sy 5,none⟩] []) (fc (Ev.st (λg gl hg=>bf (ci:=0) (cI hg) rfl q.tb.s underlying37 rfl rfl)) fn) fn rfl [(4,b4)] nH nH 0 rfl rfl [(0,sy 3),(3,.pointer (some ⟨4,0,none⟩)),(7,sy 4)] [(0,sy 3)] (.exit 2))
theorem Pm(q:A0):aI prog 46 [] 8 69 ⟨q.W0,q.F0⟩ [] [aE q.bt q.t] (λκ:ag=>(.bool true)) (λκ:ag=>[aE q.bt q.t]):=(br (c:=⟨q.W0,q.F0⟩) 2 (kn [] fn [] [] [] fn fn fn q.W0 q.F0 [[aE q.bt q.t]] [] []) fn fn rfl [] [] [] 0 rfl rfl [] (.bool true))
end Go.Proofs.Ytankbefdlbcdnaa
namespace Go.Proofs.Ytankbefdlbcdnaa
open Go.Ev Go.Proofs.Try
open Go.RowKit
open Go.Ev (iz iN pz)
attribute [local irreducible] dF
section
variable{w:World}{F:Nat->Prop}{bt:Nat}{t:Tab}{vs vb vr:Value}
theorem yg(O:t.Ok)(tb:zt w vs vb vr t)(xs:fL F vs)(xb:fL F vb)(xr:fL F vr)(h:bu [aE bt t] F w) :
  Calls prog 46 #[pz bt,.agg #[vs,vb,vr]] w λe w'=>e=.returned (.bool true)/\ay ⟨w,F⟩ [aE bt t] w':=by
 have hn:=O.n;have hf:=O.fn
 let q:(v:Value)->aR v=true->(l:List Int)->(i a b:Nat)->l.length<=300/\i<=300->A0:=λv lv l i a b h=>⟨w,F,bt,vs,vb,vr,t,tb,xs,xb,xr,O,v,lv,l,i,a,b,h⟩
 let n0:Value:=.int .i64 0
 refine bx (N:=69) (tm:=[(0,pz bt),(1,.agg #[vs,vb,vr])]) (by kernel_rfl) h (by simp) (by simp) (λA hA=>?_);refine stA (q n0 rfl [] 0 0 0 (by decide)) A w _ hA ?_;intro κ A1 w1 g1;dsimp only at g1;have lv:aR (Ev.dv κ 407)=true:=cV _;generalize Ev.dv κ 407=v at g1 lv;generalize (κ 400).getD 0=b4 at g1;refine cY (id:=0) (by kernel_rfl) ?_;refine eD (by kernel_rfl) (λ(x:Nat×List Int) A w'=>Ev.At ⟨w,F⟩ 69 [(0,pz bt),(3,pz b4),(5,v),(6,iN x.1)] [bv b4 [vs,vb,vr] 55,fZ v x.2,aE bt t] A w'/\x.1<=x.2.length/\x.2.length<=300) (λx=>x.2.length-x.1) (x:=(0,iH t)) ⟨g1,Nat.zero_le _,by show(iH t).length<=300;rw[mJ];omega⟩ ?_;clear g1 hA A A1 w1;rintro⟨i,l⟩ A w1 ⟨g1,hi,hl⟩;replace hi:i<=l.length:=hi;replace hl:l.length<=300:=hl;dsimp only at g1
 by_cases hk:i<l.length
 ·refine Pf (q v lv l i 0 0 ⟨hl,by omega⟩) b4 hk A w1 _ g1 ?_
  intro κ2 A2 w2 g2;refine db (by kernel_rfl) ⟨(i+1,l.set i 77),⟨?_,by simp;omega,by simp;exact hl⟩,by show(l.set i 77).length-(i+1)<l.length-i;rw[List.length_set];omega⟩;have e1:aB (l.set i 77)=(aB l).set (i*1) (.int .i64 77):=by simp[aB,List.map_set]
  show Ev.At _ 69 _ [_,aO 3 1 v (l.set i 77).length (aB (l.set i 77)),_] A2 w2;rw[e1,List.length_set];exact g2
 ·refine Pg (q v lv l i 0 0 ⟨hl,by omega⟩) b4 hk A w1 _ g1 ?_
  intro κ2 A2 w2 g2;refine Ph (q v lv l 0 0 0 ⟨hl,by omega⟩) b4 A2 w2 _ (g2.to (λq hq=>hq) (λhh=>hh.sel [0,2])) ?_;intro κ3 A3 w3 g3;refine cY (id:=2) (by kernel_rfl) ?_;refine eD (by kernel_rfl) (λ(j:Nat) A w'=>Ev.At ⟨w,F⟩ 69 [(0,pz bt),(3,pz b4),(7,iN j)] [bv b4 [vs,vb,vr] 55,aE bt t] A w'/\j<=t.gs.length) (λj=>t.gs.length-j) (x:=0) ⟨g3,Nat.zero_le _⟩ ?_;clear g1 g2 g3 A A2 A3 w1 w2 w3 hi hk i;rintro j A w1 ⟨g1,hj⟩
  by_cases hk:j<t.gs.length
  ·have hjj:t.gs[j]? = some (t.gs[j].1,t.gs[j].2):=List.getElem?_eq_getElem hk
   refine Pj (q v lv [] j t.gs[j].1 t.gs[j].2 ⟨by decide,by omega⟩) b4 hjj (by show j<(cU t).length;rw[dg];exact hk) (by show j<(pV t).length;rw[oL];exact hk) A w1 _ g1 ?_;intro κ4 A4 w4 g4;exact db (by kernel_rfl) ⟨j+1,⟨g4,by omega⟩,by omega⟩
  ·refine Pk (q v lv [] j 0 0 ⟨by decide,by omega⟩) b4 (by show ¬ j<(cU t).length;rw[dg];exact hk) A w1 _ g1 ?_
   intro κ4 A4 w4 g4;refine Pm (q v lv [] 0 0 0 (by decide)) A4 w4 _ (g4.to (λq hq=>by cases hq) (λhh=>hh.sel [1])) ?_;intro κ5 w5 g5;exact⟨rfl,g5⟩
end
end Go.Proofs.Ytankbefdlbcdnaa
namespace Go.Proofs.Ytankbefdlbcdnaa
open Go.Ev Go.Proofs.Try
open Go.RowKit
open Go.Ev (sy iz uz wz iN uN wN pz dv fc fn ak vk vd kn pc cc cr cm cd fr)
set_option maxRecDepth 8000
attribute [local irreducible] dF
theorem yh{F G:Nat->Prop}{n:Nat}(hF:∀ j,F j->G j\/n<=j):∀ j,j<n->¬ G j->¬ F j:=λj hj hg hf=>(hF j hf).elim hg (λh=>by omega)
structure Bd where
 W0:World
 F0:Nat->Prop
 bt:Nat
 bs:Nat
 t:Tab
 s:Sem
 O:t.Ok
 Os:s.Ok
 ca:Int
 mo:Int
 vs:Value
 vb:Value
 vr:Value
 vS:Value
 lv:Nat->Value
 tb:zt W0 vs vb vr t
 hv:c7 2 vS s.nn (oh s.ct lv s.nn) W0
 hl:∀ k,k<s.nn->c7 1 (lv k) (s.ln k).length (aB (s.ln k)) W0
 xs:fL F0 vs
 xb:fL F0 vb
 xr:fL F0 vr
 xS:fL F0 vS
 xl:∀ k,k<s.nn->fL F0 (lv k)
 k:Nat
 h:k<=4
theorem Bd.z(q:Bd):q.k<=4/\q.s.nn<=4:=⟨q.h,q.Os.n1⟩
theorem Bd.ln(q:Bd)(hk:q.k<q.s.nn):(q.s.ln q.k).length<=12:=q.Os.len q.k (by have:=q.Os.n1;omega)
abbrev n_(q:Bd):List aK:=[aE q.bt q.t,aQ q.bs q.s]
abbrev Ei(q:Bd):List Value:=[q.vs,q.vb,q.vr,q.vS,iz q.ca,iz q.mo]
abbrev Ej:List g_:=[(4,[sy 9,sy 10,sy 11,sy 12],31),(8,[sy 0,sy 1,sy 2,sy 3,sy 11,sy 12],60)]
abbrev yi(q:Bd)(b4:Nat)(b8:Nat):List aK:=[bv b4 [pz q.bt,pz q.bs,iz q.ca,iz q.mo] 31,bv b8 (Ei q) 60,aE q.bt q.t,aQ q.bs q.s]
abbrev Ek:List g_:=[(4,[sy 5,sy 6,sy 7,sy 8],31),(8,[sy 0,sy 1,sy 2,sy 3,sy 7,sy 8],60)]
theorem Pn(q:Bd):dH prog 25 [] 0 4 53 ⟨q.W0,q.F0⟩ [(0,(.agg #[pz q.bt,pz q.bs,iz q.ca,iz q.mo])),(1,(.agg #[q.vs,q.vb,q.vr,q.vS,iz q.ca,iz q.mo]))] (n_ q) .normal (λκ:ag=>[(2,(pz ((κ 400).getD 0))),(3,(pz ((κ 404).getD 0))),(5,iz 0)]) (λκ:ag=>[bv ((κ 400).getD 0) [pz q.bt,pz q.bs,iz q.ca,iz q.mo] 31,bv ((κ 404).getD 0) (Ei q) 60,aQ q.bs q.s,aE q.bt q.t]):=(tr (c:=⟨q.W0,q.F0⟩) (kn [q.vs,q.vb,q.vr,q.vS,pz q.bt,pz q.bs,iz (q.ca),iz (q.mo),iN (q.s.nn)] (fc q.tb.s.leaf (fc q.tb.b.leaf (fc q.tb.r.leaf (fc q.hv.leaf fr)))) [(.neq,sy 8,sy 8,.bool false)] [] [] (fc (λ_ _ _=>gx (by have z:=q.z;first|(simp;done)|(simp;omega))) fn) fn fn q.W0 q.F0 [n_ q,n_ q,[aQ q.bs q.s,aE q.bt q.t]] [⟨[10,57],[sy 3],some (0,7,[]),0,none,sy 8,none⟩] [⟨46,[sy 4,.agg #[sy 0,sy 1,sy 2]],0,none,.bool true,some 1⟩,⟨47,[sy 5],1,none,sy 8,some 2⟩]) (fc (Ev.st (λg gl hg=>bf (ci:=0) (cI hg) rfl q.hv underlying57 rfl rfl)) fn) (fc (cc rfl [aE q.bt q.t] [0] [1] (λw F ho hn hF=>yg q.O ⟨q.tb.s.old ho q.xs,q.tb.b.old ho q.xb,q.tb.r.old ho q.xr⟩ (q.tb.s.H3 q.xs (yh hF)) (q.tb.b.H3 q.xb (yh hF)) (q.tb.r.H3 q.xr (yh hF)) hn)) (fc (cc rfl [aQ q.bs q.s] [1] [0] (λw F ho hn hF=>Gw q.Os hn)) fn)) rfl [] [] [(400,[sy 4,sy 5,sy 6,sy 7],31),(404,[sy 0,sy 1,sy 2,sy 3,sy 6,sy 7],60)] 2 rfl rfl [(0,.agg #[sy 4,sy 5,sy 6,sy 7]),(1,.agg #[sy 0,sy 1,sy 2,sy 3,sy 6,sy 7])] [(2,.pointer (some ⟨400,0,none⟩)),(3,.pointer (some ⟨404,0,none⟩)),(5,iz 0)] .normal)
theorem Po(q:Bd)(b4 b8:Nat)(hk:q.k<q.s.nn):dH prog 25 [8,0] 0 4 53 ⟨q.W0,q.F0⟩ [(2,pz b4),(3,pz b8),(5,iN q.k)] (yi q b4 b8) .normal (λκ:ag=>[(2,pz b4),(3,pz b8),(5,(iN ((q.k)+1)))]) (λκ:ag=>[bv b4 [pz q.bt,pz q.bs,iz q.ca,iz q.mo] 31,bv b8 (Ei q) 60,fZ (dv κ 407) (q.s.ln q.k),aQ q.bs q.s,aE q.bt q.t]):=by have z:=q.z;exact(tr (c:=⟨q.W0,q.F0⟩) (kn [q.vs,q.vb,q.vr,q.vS,au (q.vS) ((q.k)*2),au (q.vS) ((q.k)*2+0),au (q.vS) ((q.k)*2+1),q.lv q.k,iN (q.k),pz q.bt,pz q.bs,iz (q.ca),iz (q.mo),iN (q.s.nn),iN (q.s.ct q.k),iN ((q.k)+1)] (fc q.tb.s.leaf (fc q.tb.b.leaf (fc q.tb.r.leaf (fc q.hv.leaf (fc (ae _ _) (fc (ae _ _) (fc (ae _ _) (fc (q.hl q.k hk).leaf fr)))))))) [(.lss,sy 8,sy 13,.bool true),(.neq,sy 14,sy 14,.bool false),(.add,sy 8,iz 1,sy 15)] [] [] (fc (λ_ _ _=>ax (by first|(simp;done)|(simp;omega))) (fc (λ_ _ _=>gx (by first|(simp;done)|(simp;omega))) (fc (λ_ _ _=>bM (by rw[aM (by omega) (by omega)];omega)) fn))) fn fn q.W0 q.F0 [n_ q,[aQ q.bs q.s,aE q.bt q.t],[ce 407 (λv=>fZ v (q.s.ln q.k)),aQ q.bs q.s,aE q.bt q.t],[ce 407 (λv=>fZ v (q.s.ln q.k)),aQ q.bs q.s,aE q.bt q.t]] [⟨[10,57],[sy 3],some (0,7,[]),0,none,sy 13,none⟩,⟨[3,57],[sy 3,sy 8],some (0,7,[]),0,none,sy 4,none⟩,⟨[7,93,0],[sy 4],some (0,7,[]),0,none,sy 5,none⟩,⟨[1,3],[sy 5],some (0,7,[]),0,none,sy 14,none⟩,⟨[7,93,1],[sy 4],some (0,7,[]),0,none,sy 6,none⟩,⟨[1,37],[sy 6],some (0,7,[]),0,none,sy 7,none⟩] [⟨48,[sy 10,sy 8],0,none,sy 14,some 1⟩,⟨15,[sy 10,sy 8],1,some 407,.complex .f32 407 0,some 2⟩,⟨49,[.complex .f32 407 0,sy 7],2,none,.bool true,some 3⟩]) (fc (Ev.st (λg gl hg=>bf (ci:=0) (cI hg) rfl q.hv underlying57 rfl rfl)) (fc (by obtain⟨i,i1,i2,i3,i4⟩:=mI;exact Ev.st (λg gl hg=>bj (ci:=0) (j:=(q.k)) (cI hg) rfl q.hv underlying57 i1 i2 rfl rfl (by omega) rfl)) (fc (by exact Ev.st (λg gl hg=>dA (fo:=0) (cI hg) q.hv (by omega) pU rfl rfl)) (fc (by exact Ev.st (λg gl hg=>bq (ci:=0) (m:=(q.k)*2+0) (x:=iN (q.s.ct q.k)) (cI hg) rfl q.hv aG (gD q.s.ct q.lv hk).1 rfl rfl q.xS)) (fc (by exact Ev.st (λg gl hg=>dA (fo:=1) (cI hg) q.hv (by omega) nE rfl rfl)) (fc (by exact Ev.st (λg gl hg=>bq (ci:=0) (m:=(q.k)*2+1) (x:=q.lv q.k) (cI hg) rfl q.hv iG (gD q.s.ct q.lv hk).2 rfl rfl q.xS)) fn)))))) (fc (cc rfl [aQ q.bs q.s] [1] [0] (λw F ho hn hF=>Io q.Os hk hn)) (fc (cm rfl [λv=>fZ v (q.s.ln q.k)] [aQ q.bs q.s] [0] [1] (λw F ho hn hF=>vJ q.Os hk hn)) (fc (by exact s6 (c:=⟨q.W0,q.F0⟩) (kN:=[ce 407 (λv=>fZ v (q.s.ln q.k))]) (lp:=λv=>[fZ v (q.s.ln q.k)]) (args:=λv=>[v,(q.lv q.k)]) [λv=>fZ v (q.s.ln q.k)] [0] [1,2] rfl rfl rfl rfl (qX (λ_ _ _ _ _ h=>h) nr) (f_ (ak (by kernel_rfl) (by kernel_rfl))) (λι=>(vk (by kernel_rfl) (by kernel_rfl))) (λv w F ho hn hF=>vX (by have z2:=q.ln hk;omega) ((q.hl q.k hk).old ho (q.xl q.k hk)) hn)) fn))) rfl [(4,b4),(8,b8)] Ej Ej 3 rfl rfl [(2,.pointer (some ⟨4,0,none⟩)),(3,.pointer (some ⟨8,0,none⟩)),(5,sy 8)] [(2,.pointer (some ⟨4,0,none⟩)),(3,.pointer (some ⟨8,0,none⟩)),(5,sy 15)] .normal).conv (λκ w=>⟨(λ_ h=>h),(λ_ h=>h),(λ_ h=>bN (a:=λv=>fZ v (q.s.ln q.k)) (λ_ _ _ _ _ h=>h) h),(λ_ h=>h),(λ_ h=>h),trivial⟩)
theorem Pp(q:Bd)(b4 b8:Nat)(hk:¬ q.k<q.s.nn):dH prog 25 [8,0] 0 2 53 ⟨q.W0,q.F0⟩ [(2,pz b4),(3,pz b8),(5,iN q.k)] (yi q b4 b8) (.exit 0) (λκ:ag=>[(2,pz b4)]) (λκ:ag=>(yi q b4 b8)):=(tr (c:=⟨q.W0,q.F0⟩) (kn [q.vs,q.vb,q.vr,q.vS,iN (q.k),pz q.bt,pz q.bs,iz (q.ca),iz (q.mo),iN (q.s.nn)] (fc q.tb.s.leaf (fc q.tb.b.leaf (fc q.tb.r.leaf (fc q.hv.leaf fr)))) [(.lss,sy 4,sy 9,.bool false)] [] [] (fc (λ_ _ _=>ax (by have z:=q.z;first|(simp;done)|(simp;omega))) fn) fn fn q.W0 q.F0 [n_ q] [⟨[10,57],[sy 3],some (0,7,[]),0,none,sy 9,none⟩] []) (fc (Ev.st (λg gl hg=>bf (ci:=0) (cI hg) rfl q.hv underlying57 rfl rfl)) fn) fn rfl [(4,b4),(8,b8)] Ek Ek 0 rfl rfl [(2,.pointer (some ⟨4,0,none⟩)),(3,.pointer (some ⟨8,0,none⟩)),(5,sy 4)] [(2,.pointer (some ⟨4,0,none⟩))] (.exit 0))
theorem Pq(q:Bd):aI prog 25 [] 5 53 ⟨q.W0,q.F0⟩ [] (n_ q) (λκ:ag=>(.bool true)) (λκ:ag=>(n_ q)):=(br (c:=⟨q.W0,q.F0⟩) 2 (kn [] fn [] [] [] fn fn fn q.W0 q.F0 [n_ q] [] []) fn fn rfl [] [] [] 0 rfl rfl [] (.bool true))
end Go.Proofs.Ytankbefdlbcdnaa
namespace Go.Proofs.Ytankbefdlbcdnaa
open Go.Ev Go.Proofs.Try
open Go.RowKit
open Go.Ev (iz iN pz)
structure cK where
 g:Int
 b:Nat
 go:Bool
 hb:b<256
def cK.cells(m:cK):List Value:=[iz m.g,.int .u8 (m.b:Int),.bool m.go]
theorem zK{ms:List cK}{j:Nat}{m:cK}(h:ms[j]? = some m):∃ tl,(ms.flatMap cK.cells).drop (j*3)=m.cells++tl:=by
 induction ms generalizing j with
 | nil=>simp at h
 | cons q ms ih =>
  rw[List.flatMap_cons]
  match j with
  | 0 =>
   obtain rfl:q=m:=by simpa using h
   exact⟨ms.flatMap cK.cells,by simp⟩
  | j+1 =>
   obtain⟨tl,e⟩:=ih (j:=j) (by simpa using h);refine⟨tl,?_⟩;have h3:q.cells.length=3:=rfl;rw[List.drop_append,List.drop_eq_nil_of_le (by rw[h3];omega),h3,show(j+1)*3-3=j*3 by omega,List.nil_append];exact e
theorem Hf{ms:List cK}{j:Nat}{m:cK}{b:Bool}(h:ms[j]? = some m)(hb:m.go=b):[iz m.g,.int .u8 (m.b:Int),.bool b]=((ms.flatMap cK.cells).drop (j*3)).take 3:=by
 obtain⟨tl,e⟩:=zK h;rw[e,← hb];rfl
theorem El:∃ i,prog.info? 35 = some i/\i.size=3/\True/\True:=by
 have h:(prog.info? 35).map (λi=>i.size)=some 3:=by kernel_rfl
 cases hi:prog.info? 35 with
 | none=>rw[hi]at h;cases h
 | some i =>
  rw[hi]at h;exact⟨i,rfl,by simpa using h,trivial,trivial⟩
theorem Em:oB prog 35 3:=by
 intro b o cs w hl h;obtain⟨i,i1,i2,_⟩:=El
 match cs,hl with
 | [c0,c1,c2],_ =>
  have h0:=h 0 (by omega);have h1:=h 1 (by omega);have h2:=h 2 (by omega);simp at h0 h1 h2;simp[Instr.loadAt,Instr.sureAddr,loadVar,isAgg,run_underlying underlying35,sizeOf,typeInfo,i1,i2,loadCells,loadCellsFrom,dY,h0,h1,h2]
theorem Ip:gS prog 5:=by
 intro b o x w h;simp[Instr.loadAt,Instr.sureAddr,loadVar,isAgg,run_underlying underlying5,h]
theorem lJ:∀ b o w,(Instr.fieldAt 35 (.pointer (some ⟨b,o,none⟩)) 0).run prog w=.ok (.pointer (some ⟨b,o+0,none⟩)) w:=λb o w=>by kernel_rfl
theorem Iq:∀ b o w,(Instr.fieldAt 35 (.pointer (some ⟨b,o,none⟩)) 1).run prog w=.ok (.pointer (some ⟨b,o+1,none⟩)) w:=λb o w=>by kernel_rfl
section
variable{w:World}{F:Nat->Prop}{bt:Nat}{t:Tab}
theorem Gy{g:Int}{nx:Nat}(O:t.Ok)(hn:nx<5)(h:bu [aE bt t] F w) :
  Calls prog 10 #[pz bt,iz g,iN nx] w λe w'=>∃ v cd,Ev.dec cd=v/\e=.returned v/\ay ⟨w,F⟩ [aE bt (t.eK g nx)] w':=by
 have d:∀ n:Int,∃ cd,Ev.dec cd=.int .i64 n:=ry
 by_cases h0:0<=g
 ·obtain⟨j,rfl⟩:∃ j:Nat,g=(j:Int):=⟨g.toNat,by omega⟩
  have e0:t.eK (j:Int) nx=(match t.gs[j]? with
   | some (a,_)=>if hO a nx then t.set j nx else t
   | none=>t):=if_pos h0
  cases hj:t.gs[j]? with
  | none =>
   rw[e0,hj];obtain⟨cd,hcd⟩:=d 5;exact(zm O hn (.inr (by have:=List.getElem?_eq_none_iff.1 hj;omega)) h).mono (λ_ _ h=>⟨_,cd,hcd,h.1,h.2⟩)
  | some p =>
   obtain⟨a,b⟩:=p;have e1:t.eK (j:Int) nx=if hO a nx then t.set j nx else t:=by rw[e0,hj]
   rw[e1];cases hm:hO a nx with
   | true =>
    rw[if_pos rfl];obtain⟨cd,hcd⟩:=d 0;exact(jf O hn hj hm h).mono (λ_ _ h=>⟨_,cd,hcd,h.1,h.2⟩)
   | false =>
    rw[if_neg (by decide)];obtain⟨cd,hcd⟩:=d 4;exact(Ij O hn hj hm h).mono (λ_ _ h=>⟨_,cd,hcd,h.1,h.2⟩)
 ·have e0:t.eK g nx=t:=if_neg h0
  rw[e0];obtain⟨cd,hcd⟩:=d 5;exact(zm O hn (.inl (by omega)) h).mono (λ_ _ h=>⟨_,cd,hcd,h.1,h.2⟩)
theorem zM{n:Nat}(hn:n<=12):(bW n).Ok where
 n:=by simp[bW];omega
 fn:=by simp[bW,pT];omega
 st:=λp hp=>by simp[bW]at hp;rw[hp.2];exact⟨by decide,by decide⟩
 fr:=λj hj=>by
  simp[bW,pT]at hj ⊢;omega
theorem yj{n:Nat}{v:Value}(hn:1<=n/\n<=12)(h:bu [mH v (bW n)] F w) :
  Calls prog 9 #[v] w λe w'=>e=.returned (.tuple #[iz 0,iz 0])/\ay ⟨w,F⟩ [mH v ((bW n).make 0)] w':=by
 obtain⟨b,rfl,h1⟩:=pS (ay.start h);obtain⟨G,k1,k2,k3⟩:=h1.ex;refine(vI (zM hn.2) (j:=0) (a:=0) (b:=0) ?_ ?_ k1).mono (λe w' ⟨he,hh⟩=>⟨he,(ay.into (l:=[]) hh k2 k3).head (b:=mH (pz b) ((bW n).make 0)) (λG h=>⟨b,rfl,h⟩)⟩)
 ·show(pT n n)[(pT n n).length-1]? = some 0
  have e:(pT n n).length=n:=by simp[pT]
  rw[e];unfold pT;rw[List.getElem?_map,List.getElem?_range (by omega)];show some (n-1-(n-1))=some 0;rw[Nat.sub_self]
 ·simp[bW,List.getElem?_replicate]
  omega
end
end Go.Proofs.Ytankbefdlbcdnaa
