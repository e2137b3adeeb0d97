/- 'ActDecides' returns true, whatever its arguments are (at most 80 moves are looked at), and leaves them as they were. -/
import Derived.Test.YtankbefdlbcdnaaZd28
import Derived.Test.YtankbefdlbcdnaaRows
import Derived.WalkKit
import Derived.ProofKit
import Derived.OpenShut
import Derived.Carry
import Derived.Deep.Fields
import Derived.Test.YtankbefdlbcdnaaZd27
import Derived.Deep.Slices
import Derived.ChangeSame
set_option linter.unusedSimpArgs false
set_option linter.unusedVariables false
namespace Go.Proofs.Ytankbefdlbcdnaa
open Go.Ev Go.Proofs.Try
open Go.RowKit
open Go.Ev (iz iN pz)
set_option maxRecDepth 8000
attribute [local irreducible] dF
structure R4 where
 a:Value
 b:Value
 c:Value
 d:Value
 la:aR a=true
 lb:aR b=true
 lc:aR c=true
 ld:aR d=true
theorem mN{v:Value}(h:vO v):aR v=true:=by
 obtain⟨c,rfl⟩:=h;exact cV c
theorem iK{c:eO}{a b d e:Value}{t:Tab}{s:Sem}{l:List aK}{w:World}(h:ay c (cJ a b d e t s::l) w):∃ r:R4,r.a=a/\r.b=b/\r.c=d/\r.d=e:=by
 obtain⟨f,hf⟩:=h.first
 have R:iJ w f a b d e t s:=hf;exact⟨⟨a,b,d,e,mN R.cs,mN R.cb,mN R.cr,mN R.cS⟩,rfl,rfl,rfl,rfl⟩
abbrev LQ.with(q:LQ)(r:R4)(t:Tab)(s:Sem)(ht:t.Ok)(hs:s.Ok)(b14:Nat)(mv:cK)(j a ab:Nat):LQ:={ q with vs:=r.a,vb:=r.b,vr:=r.c,vS:=r.d,v6:=r.la,v7:=r.lb,v8:=r.lc,v9:=r.ld,t:=t,s:=s,ht:=ht,hs:=hs,b14:=b14,mv:=mv,j:=j,a:=a,ab:=ab }
abbrev Kf(q:LQ):List (Nat×Value):=[(5,q.lv),(13,iN q.n),(17,pz q.b17),(18,pz q.b18),(21,iN q.i)]
abbrev MQ(q:LQ):aK:=bv q.b17 [pz q.bt,pz q.bs,iz q.ca,iz q.mo] 31
abbrev MR(q:LQ)(r:R4):aK:=bv q.b18 [r.a,r.b,r.c,r.d,iz q.ca,iz q.mo] 60
abbrev M_(r:R4)(t:Tab)(s:Sem):aK:=cJ r.a r.b r.c r.d t s
abbrev J0(q:LQ)(r:R4)(t:Tab)(s:Sem):List aK:=[MQ q,MR q r,aE q.bt t,aQ q.bs s,M_ r t s]
abbrev Kg(q:LQ)(b14:Nat):List (Nat×Value):=Kf q++[(22,au (ap b14 3) 0)]
abbrev M'(b14:Nat)(mv:cK):aK:=aO 35 1 (ap b14 3) 3 mv.cells
abbrev Kh(q:LQ)(r:R4)(t:Tab)(s:Sem)(b14:Nat)(mv:cK):List aK:=J0 q r t s++[M' b14 mv]
abbrev Hj(q:LQ)(tm:List (Nat×Value))(l:List aK)(A:Act)(w:World):Prop:=Ev.At ⟨q.W0,q.F0⟩ 238 tm l A w
abbrev II(Q:Exit->Act->World->Prop)(i:Nat)(A:Act)(w:World):Prop:=dF prog (ia prog 5 [24,0,4] i) Q A w
section
variable{q:LQ}{r:R4}{t:Tab}{s:Sem}{mv:cK}{A:Act}{w:World}{Q:Exit->Act->World->Prop}
theorem Iv(hI:Inv q.K q.n q.m t s)(hmv:q.ls[q.i]? = some mv)(h:Hj q (Kf q) (J0 q r t s) A w)
  (H:∀ (r':R4) (t':Tab) (b14:Nat) (A1:Act) (w1:World),Inv q.K q.n q.m t' s->Hj q (Kg q b14) (Kh q r' t' s b14 mv) A1 w1->II Q 3 A1 w1):II Q 0 A w:=by
 have z:=q.z;have hi:q.i<q.ls.length:=(List.getElem?_eq_some_iff.1 hmv).1
 let p:LQ:=q.with r t s (hI.tok (by omega) (by omega)) (hI.Il (by omega) (by omega)) 0 mv 0 0 0
 cases hgo:mv.go with
 | true =>
  refine MH p hmv hgo hi A w _ h ?_;intro κ A1 w1 g1;dsimp only at g1;generalize (κ 400).getD 0=b14 at g1;obtain⟨r',e1,e2,e3,e4⟩:=iK (g1.hold.sel [3]);refine H r' (t.eK mv.g 2) b14 A1 w1 (hI.eK mv.g) (g1.to (λq hq=>hq) (λhh=>?_));rw[← e1,← e2,← e3,← e4]at hh;have:=(iF (hh.sel [2,0,1,4,5,3])).sel [1,2,3,4,5,0];show ay _ [_,_,_,_,_,aO 35 1 (ap b14 3) 3 [iz mv.g,.int .u8 (mv.b:Int),.bool mv.go]] w1;rw[hgo];exact this
 | false =>
  refine MI p hmv hgo hi A w _ h ?_;intro κ A1 w1 g1;dsimp only at g1;generalize (κ 400).getD 0=b14 at g1;refine H r t b14 A1 w1 hI (g1.to (λq hq=>hq) (λhh=>?_));have:=(iF (hh.sel [2,0,1,3,4,5])).sel [1,2,3,4,5,0];show ay _ [_,_,_,_,_,aO 35 1 (ap b14 3) 3 [iz mv.g,.int .u8 (mv.b:Int),.bool mv.go]] w1;rw[hgo];exact this
theorem Iw{b14:Nat}(hI:Inv q.K q.n q.m t s)(h:Hj q (Kg q b14) (Kh q r t s b14 mv) A w)
  (H:∀ (r':R4) (t':Tab) (s':Sem) (A1:Act) (w1:World),Inv q.K q.n (q.m+1) t' s'->Hj q (Kg q b14) (Kh q r' t' s' b14 mv) A1 w1->II Q 9 A1 w1):II Q 3 A w:=by
 have z:=q.z;have ht:=hI.tok (by omega) (by omega);have hs:=hI.Il (by omega) (by omega)
 let p:LQ:=q.with r t s ht hs b14 mv 0 0 0
 refine Px p hI A w _ h ?_;intro κ A1 w1 g1;dsimp only at g1;generalize (κ 400).getD 0=IG at g1;generalize (κ 408).getD 0=PK at g1;generalize (κ 412).getD 0=IH at g1;obtain⟨r',e1,e2,e3,e4⟩:=iK (g1.hold.sel [5])
 let p':LQ:=q.with r' t s ht hs b14 mv 0 0 0
 refine Py p' hI IG IH A1 w1 _ (g1.to (λq hq=>hq) (λhh=>?_)) ?_
 ·rw[← e1,← e2,← e3,← e4]at hh
  exact hh.sel [0,1,2,4,6,7,5,8]
 ·intro κ2 A2 w2 g2
  exact H r' p'.o.t p'.o.s A2 w2 hI.Er (g2.to (λq hq=>hq) (λhh=>hh.sel [0,1,4,5,6,7]))
theorem EB{b14:Nat}(hI:Inv q.K q.n q.m t s)(h:Hj q (Kg q b14) (Kh q r t s b14 mv) A w)
  (H:∀ (r':R4) (t':Tab) (A1:Act) (w1:World),Inv q.K q.n q.m t' s->Hj q (Kf q) (J0 q r' t' s) A1 w1->II Q 11 A1 w1):II Q 9 A w:=by
 have z:=q.z;have ht:=hI.tok (by omega) (by omega);have hs:=hI.Il (by omega) (by omega)
 let p:LQ:=q.with r t s ht hs b14 mv 0 0 0
 have hlen:=hI.len
 by_cases h5:q.i%5=4
 ·cases hr:t.runs mv.g with
  | none =>
   rcases Tab.iE hr with hx | ⟨a,b,h0,hj,h2⟩
   ·by_cases hx0:mv.g<0
    ·refine MJ p h5 hx0 hr A w _ h ?_
     intro κ A1 w1 g1;exact H r t A1 w1 hI (g1.to (λq hq=>hq) (λhh=>hh.sel [0,1,2,3,4]))
    ·refine MK p h5 (by show 0<=mv.g;omega) (by show(q.n:Int)<=mv.g;omega) hr A w _ h ?_
     intro κ A1 w1 g1;exact H r t A1 w1 hI (g1.to (λq hq=>hq) (λhh=>hh.sel [0,1,2,3,4]))
   ·have hgj:mv.g=((mv.g.toNat:Nat):Int):=by omega
    have hlt:=(List.getElem?_eq_some_iff.1 hj).1
    let p1:LQ:=q.with r t s ht hs b14 mv mv.g.toNat a b
    refine ML p1 h5 hgj (by show mv.g.toNat<q.n;omega) hlt hj h2 (by show t.runs ((mv.g.toNat:Nat):Int)=none;rw[← hgj];exact hr) A w _ h ?_;intro κ A1 w1 g1;exact H r t A1 w1 hI (g1.to (λq hq=>hq) (λhh=>hh.sel [0,1,2,3,4]))
  | some j =>
   obtain⟨hgj,b,hj⟩:=Tab.e8 hr;have hlt:=(List.getElem?_eq_some_iff.1 hj).1
   let p1:LQ:=q.with r t s ht hs b14 mv j 2 b
   refine MN p1 h5 A w _ h ?_;intro κ A1 w1 g1;refine Ir (t:=169) (by kernel_rfl) (g1.tm (169,.bool true) (by simp)) ?_;refine MO p1 hgj (by show j<q.n;omega) hlt hj rfl A1 w1 _ (g1.to (λq hq=>(List.mem_append_left [((169:Nat),Value.bool true)] hq:_)) (λhh=>hh)) ?_;intro κ2 A2 w2 g2;dsimp only at g2;obtain⟨r',e1,e2,e3,e4⟩:=iK (g2.hold.sel [2]);have hI2:Inv q.K q.n q.m (t.set j 1) s:=hI.drop hj;have eS:t.eK ((j:Nat):Int) 1=t.set j 1:=Es hj
   let p2:LQ:=q.with r' t s ht hs b14 mv j 2 b
   refine MP p2 hgj (GD hj) (hI2.tok (by omega) (by omega)) A2 w2 _ (g2.to (λq hq=>hq) (λhh=>?_)) ?_
   ·rw[← e1,← e2,← e3,← e4]at hh
    have EJ:ay _ [MQ q,MR q r',M_ r' (t.eK ((j:Nat):Int) 1) s,aE q.bt t,aQ q.bs s,M' b14 mv] w2:=hh;rw[eS]at EJ;exact EJ.sel [0,1,3,4,2,5]
   ·intro κ3 A3 w3 g3
    exact db (by kernel_rfl) (H r' (t.set j 1) A3 w3 hI2 (g3.to (λq hq=>hq) (λhh=>hh.sel [0,1,2,3,4])))
 ·refine Pz p h5 A w _ h ?_
  intro κ A1 w1 g1;exact H r t A1 w1 hI (g1.to (λq hq=>hq) (λhh=>hh.sel [0,1,2,3,4]))
end
theorem oi(w:World)(lv:Value)(ls:List cK)(hl:c7 3 lv ls.length (ls.flatMap cK.cells) w)(z0 z1 z2:Nat)(ca mo:Int)(h0:z0<256)(h1:z1<256)(h2:z2<256) :
  Calls prog 5 #[.int .u8 (z0:Int),.int .u8 (z1:Int),.int .u8 (z2:Int),iz ca,iz mo,lv] w λe w'=>e=.returned (.bool true)/\Below w.heap.size w w':=by
 let n:=1+z0%12
 let K:=1+z1%4
 let c:=z2%3
 have hn:1<=n/\n<=12:=by show 1<=1+z0%12/\1+z0%12<=12;omega
 have hK:1<=K/\K<=4:=by show 1<=1+z1%4/\1+z1%4<=4;omega
 have hc:c<=2:=by show z2%3<=2;omega
 have hI0:Inv K n 1 ((bW n).make 0) (cl K c):=Inv.Iu hn.2 hc (by omega) hK.2
 let nv:Value:=.slice none 0 0
 let q0:LQ:=⟨w,λ_=>False,lv,ls,hl,aH _,z0,z1,z2,ca,mo,n,K,c,⟨rfl,rfl,rfl⟩,0,0,nv,nv,nv,nv,rfl,rfl,rfl,rfl,(bW n).make 0,cl K c,hI0.tok hn.2 (by decide),hI0.Il hn.2 (by decide),0,0,0,0,0,⟨0,0,false,by decide⟩,0,0,0,⟨h0,h1,h2,by decide,by decide⟩⟩
 have fin:∀ w1,ay ⟨w,λ_=>False⟩ [] w1->Below w.heap.size w w1:=λw1 h=>h.below (λ_ h=>h)
 by_cases hll:80<ls.length
 ·exact ao (Pr q0 hll) (by kernel_rfl) (aX w) (by simp) (by simp[q0]) (λκ w1 hh=>⟨rfl,fin _ hh⟩)
 refine bx (N:=238) (tm:=[(0,.int .u8 (z0:Int)),(1,.int .u8 (z1:Int)),(2,.int .u8 (z2:Int)),(3,iz ca),(4,iz mo),(5,lv)]) (by kernel_rfl) (aX w) (by simp) (by simp) (λA hA=>?_);refine Ps q0 (by show ls.length<=80;omega) A w _ hA ?_;intro κ A1 w1 g1;dsimp only at g1;generalize (κ 408).getD 0=b17 at g1;generalize (κ 420).getD 0=b18 at g1;have cd:vO (Ev.dv κ 419):=⟨_,rfl⟩;have k1:=Ep g1.hold.old (g1.hold.sel [3,2,4,5,0,1]) cd;obtain⟨r,e1,e2,e3,e4⟩:=iK k1;rw[← e1,← e2,← e3,← e4]at k1;obtain⟨bt,e5,k2⟩:=pS (k1.sel [1,2,0,3,4]);obtain⟨bs,e6,k3⟩:=DH (k2.sel [1,0,2,3,4])
 let q1:LQ:={ q0 with b17:=b17,b18:=b18,bt:=bt,bs:=bs,vs:=r.a,vb:=r.b,vr:=r.c,vS:=r.d,v6:=r.la,v7:=r.lb,v8:=r.lc,v9:=r.ld }
 have g2:Ev.At ⟨w,λ_=>False⟩ 238 [(5,lv),(13,iN n),(16,.int .i64 0),(17,pz b17),(18,pz b18)] [MQ q1,MR q1 r,aE bt (bW n),aQ bs (cl K c),cJ r.a r.b r.c r.d (bW n) (cl K c)] A1 w1:=g1.to (λq hq=>hq) (λ_=>by
  have k4:=k3.sel [3,4,1,0,2];rw[e5,e6]at k4
  exact k4)
 clear g1 k1 k2 k3 hA;refine Pt q1 A1 w1 _ g2 ?_;intro κ2 A2 w2 g3;dsimp only at g3;obtain⟨r',f1,f2,f3,f4⟩:=iK (g3.hold.sel [2])
 have g4:Hj q1 (Kf q1) (J0 q1 r' ((bW n).make 0) (cl K c)) A2 w2:=g3.to (λq hq=>hq) (λhh=>by
  rw[← f1,← f2,← f3,← f4]at hh
  exact hh.sel [0,1,3,4,2])
 clear g2 g3;refine cY (id:=0) (by kernel_rfl) ?_;refine eD (by kernel_rfl) (λ(x:Nat×R4×Tab×Sem) A w'=>Hj q1 [(5,lv),(13,iN n),(17,pz b17),(18,pz b18),(21,iN x.1)] (J0 q1 x.2.1 x.2.2.1 x.2.2.2) A w'/\Inv K n (1+x.1) x.2.2.1 x.2.2.2/\x.1<=ls.length) (λx=>ls.length-x.1) (x:=(0,r',(bW n).make 0,cl K c)) ⟨g4,hI0,Nat.zero_le _⟩ ?_;clear g4 A A1 A2 w1 w2;rintro⟨i,r,t,s⟩ A w1 ⟨g1,hI,hx⟩;dsimp only at g1 hI hx
 let q:LQ:={ q1 with i:=i,m:=1+i,h:=⟨h0,h1,h2,by show i<=80;omega,by show 1+i<=200;omega⟩ }
 let p:LQ:=q.with r t s (hI.tok hn.2 (by omega)) (hI.Il hn.2 (by omega)) 0 ⟨0,0,false,by decide⟩ 0 0 0
 by_cases hi:i<ls.length
 ·refine Pu p hi A w1 _ g1 ?_
  intro κ3 A3 w3 g3;refine cY (id:=1) (by kernel_rfl) ?_;have hmv:ls[i]? = some ls[i]:=List.getElem?_eq_getElem hi;refine Iv (q:=q) (r:=r) (t:=t) (s:=s) (mv:=ls[i]) hI hmv g3 (λr2 t2 b14 A4 w4 hI2 g4=>?_);refine Iw (q:=q) hI2 g4 (λr3 t3 s3 A5 w5 PB g5=>?_)
  let q5:LQ:={ q with m:=1+i+1,h:=⟨h0,h1,h2,by show i<=80;omega,by show 1+i+1<=200;omega⟩ }
  refine EB (q:=q5) PB g5 (λr4 t4 A6 w6 MS g6=>?_);refine db (by kernel_rfl) ?_
  let p6:LQ:=q.with r4 t4 s3 (MS.tok hn.2 (by show 1+i+1<=1000;omega)) (MS.Il hn.2 (by show 1+i+1<=1000;omega)) 0 ⟨0,0,false,by decide⟩ 0 0 0
  refine Pw p6 A6 w6 _ g6 ?_;intro κ7 A7 w7 g7;refine db (by kernel_rfl) ⟨(i+1,r4,t4,s3),⟨g7,?_,by show i+1<=ls.length;omega⟩,by show ls.length-(i+1)<ls.length-i;omega⟩;show Inv K n (1+(i+1)) t4 s3;rw[← Nat.add_assoc];exact MS
 ·refine Pv p hi A w1 _ g1 ?_
  intro κ3 A3 w3 g3;refine PA p A3 w3 _ (g3.to (λq hq=>hq) (λhh=>hh.sel [0])) ?_;intro κ4 w4 g4;exact⟨rfl,fin _ (g4.sel [])⟩
end Go.Proofs.Ytankbefdlbcdnaa
namespace Go.Proofs.Ytankbefdlbcdnaa
open Go.Ev Go.Proofs.Try
open Go.ChangeShapes Go.WideShapes Go.ChangeAt Go.RowKit Go.Deep
section
variable{H:Type}{enc:TypeId×Value->H}{P:Program}
theorem qC(hl:laidOutB P=true){W W':World}(hb:Below W.heap.size W W'):∀ (ts:List TypeId) (vs:List Value) (ds:List (DataW H)) (ps:List MemPlace),
  DataW.TrodAll enc P W 0 (λ_=>true) true ts vs ds ps->(∀ t ∈ ts,P.readableRec t=true/\t<P.types.size)->(∀ x ∈ ps,x.block<W.heap.size)->
  DataW.TrodAll enc P W' 0 (λb=>decide (b<W.heap.size)) true ts vs ds ps:=by
 intro ts
 induction ts with
 | nil =>
  intro vs ds ps h _ _;obtain⟨rfl,rfl,rfl⟩:=trodAll_nil h;exact trodAll_mk0
 | cons t ts ih =>
  intro vs ds ps h hr hlt;obtain⟨v,vs',d,ds',p,q,rfl,rfl,rfl,h1,h2⟩:=trodAll_cons h;exact trodAll_cons_mk ((hb.trod hl (hr t (List.mem_cons_self ..)).1 (hr t (List.mem_cons_self ..)).2 h1 (λx hx=>hlt x (List.mem_append_left _ hx))))
   (ih vs' ds' q h2 (λt' ht'=>hr t' (List.mem_cons_of_mem _ ht')) (λx hx=>hlt x (List.mem_append_right _ hx)))
theorem EC{f:Func}{s:ChangeSpec}{W W':World}{args:Array Value}{ds gs:List (DataW H)}{before:List MemPlace}{tb:TypeId}(hl:laidOutB P=true)
  (hW:DataW.Whole enc P f.params.toList s.vars false W args.toList ds gs before) (hvars:s.vars=[]) (hres:f.resultTypes = #[tb]) (J1:P.underlying tb=some .bool)
  (hfn:s.fn H ds = { results:=[.lit (.bool true)],args:=ds }) (hread:∀ t ∈ f.params.toList,P.readableRec t=true/\t<P.types.size) (hb:Below W.heap.size W W') :
  s.post enc P f false true false false W args (.bool true) W':=by
 have hW0:=hW;obtain⟨p,q,hA,hV,hpq,hz,hn⟩:=hW;rw[hvars]at hV;obtain⟨rfl,rfl⟩:=trodVars_none hV;have hlt:∀ x ∈ before,x.block<W.heap.size:=λx hx=>hW0.lt x hx
 have hpl:before=p:=by rw[hpq,List.append_nil]
 refine⟨ds,[],before,[],p,[],hW0,?_,?_,?_,?_,λh=>by cases h⟩
 ·rw[List.append_nil,hfn,hres]
  exact trodAll_mk1 (shut_bool J1 true)
 ·rw[List.append_nil,hfn]
  exact qC hl hb _ _ _ _ hA hread (λx hx=>hlt x (by rw[hpl];exact hx))
 ·rw[hvars,List.append_nil,hfn]
  rfl
 ·exact World.keptBut_mono (λx hx=>⟨hx,.inr (.inl (by rw[hpl]at hx;exact hx))⟩) (hb.frame (· ∈ before))
end
end Go.Proofs.Ytankbefdlbcdnaa
namespace Go.Proofs.Ytankbefdlbcdnaa
open Go.Ev Go.Proofs.Try
open Go.ChangeShapes Go.WideShapes Go.ChangeAt Go.RowKit Go.Deep
open Go.Ev (iz iN)
set_option maxRecDepth 100000
theorem ED(ps:List cK){j i:Nat}{k:cK}(h:ps[j]? = some k)(hi:i<3):(ps.flatMap cK.cells)[j*3+i]? = k.cells[i]?:=by
 obtain⟨tl,e⟩:=zK h;rw[← List.getElem?_drop,e,List.getElem?_append_left (by simp[cK.cells];omega)]
section
variable{w:World}
theorem GE{a:Addr}{v:Value}(h:w.cell? a=some v):a.block<w.heap.size:=by
 unfold World.cell? at h;cases hb:w.heap[a.block]? with
 | none=>rw[hb]at h;cases h
 | some o=>exact(Array.getElem?_eq_some_iff.1 hb).1
theorem mO{b off n:Nat} : (⟨b,off,none⟩:Addr).add n=⟨b,off+n,none⟩:=dY b off n
theorem EE{n:Int}(h:(Lit.int .u8 n).wf=true):0<=n/\n<256:=by
 simp[Lit.wf,IntKind.min,IntKind.max,IntKind.signed,IntKind.bits]at h;omega
end
section
variable{H:Type}{enc:TypeId×Value->H}{w:World}
theorem A_{fuel:Nat}{cs:List Value}{x:DataW H×List MemPlace}(h:DataW.trod enc prog w 0 (λ_=>true) true fuel 35 cs=some x):∃ s:cK,cs=s.cells:=by
 obtain⟨ys,n,_,_,hlen,hyl,hf⟩:=DataW.trod_struct underlying35 h;have hC:prog.cellsOf 35 = 3:=by kernel_rfl
 rw[hC]at hlen
 match cs,hlen with
 | [c0,c1,c2],_ =>
  have k0:=hf 0 _ rfl;have k1:=hf 1 _ rfl;have k2:=hf 2 _ rfl;have one:∀ t:TypeId,prog.cellsOf t=1->∀ (c:Value) (l:List Value),(c::l).take (prog.cellsOf t)=[c]:=λt ht c l=>by rw[ht];rfl
  have i1:prog.cellsOf 3 = 1:=by kernel_rfl
  have i2:prog.cellsOf 5 = 1:=by kernel_rfl
  have i3:prog.cellsOf 4 = 1:=by kernel_rfl
  have g:∀ i,i<3->∃ y,ys[i]? = some y:=λi hi=>⟨_,List.getElem?_eq_getElem (by rw[hyl];exact hi)⟩
  obtain⟨y0,e0⟩:=g 0 (by omega);obtain⟨y1,e1⟩:=g 1 (by omega);obtain⟨y2,e2⟩:=g 2 (by omega);replace k0:DataW.trod enc prog w 0 (λ_=>true) true n 3 [c0]=some y0:=by rw[← e0,← k0,← one _ i1 c0 [c1,c2]];rfl
  replace k1:DataW.trod enc prog w 0 (λ_=>true) true n 5 [c1]=some y1:=by rw[← e1,← k1,← one _ i2 c1 [c2]];rfl
  replace k2:DataW.trod enc prog w 0 (λ_=>true) true n 4 [c2]=some y2:=by rw[← e2,← k2,← one _ i3 c2 []];rfl
  obtain⟨m0,q0,_⟩:=DataW.trod_int underlying3 k0;obtain⟨m1,q1,_,w1⟩:=DataW.trod_int underlying5 k1;obtain⟨m2,q2,_⟩:=DataW.trod_bool underlying4 k2;simp only[List.cons.injEq,and_true]at q0 q1 q2;subst q0 q1 q2;have hb:=EE w1;exact⟨⟨m0,m1.toNat,m2,by omega⟩,by show[iz m0,.int .u8 m1,.bool m2]=[iz m0,.int .u8 ((m1.toNat:Nat):Int),.bool m2];rw[show((m1.toNat:Nat):Int)=m1 by omega]⟩
theorem EF{n:Nat}{Q:Nat->cK->Prop}(h:∀ i,i<n->∃ s,Q i s):∃ ss:List cK,ss.length=n/\∀ (i:Nat) s,ss[i]? = some s->Q i s:=by
 induction n with
 | zero=>exact⟨[],rfl,λi s h=>by cases h⟩
 | succ n ih =>
  obtain⟨ss,h1,h2⟩:=ih (λi hi=>h i (by omega));obtain⟨s,hs⟩:=h n (by omega);refine⟨ss++[s],by simp[h1],λi x hx=>?_⟩;rcases Nat.lt_or_ge i ss.length with hi | hi
  ·rw[List.getElem?_append_left hi]at hx
   exact h2 i x hx
  ·rw[List.getElem?_append_right hi]at hx
   cases hk:i-ss.length with
   | zero =>
    rw[hk]at hx;cases hx;obtain rfl:i=n:=by omega
    exact hs
   | succ m=>rw[hk]at hx;cases hx
theorem Ba(ss:List cK):(ss.flatMap cK.cells).length=ss.length*3:=by
 induction ss with
 | nil=>rfl
 | cons s ss ih=>rw[List.flatMap_cons,List.length_append,ih,List.length_cons];simp[cK.cells];omega
theorem yp{v:Value}{d:DataW H}{ps:List MemPlace}{r:Reach}{b0:Nat}(hv:Value.okWide prog w r b0 22 v)(h:DataW.Trod enc prog w 0 (λ_=>true) true 22 v d ps) :
  ∃ ss:List cK,c7 3 v ss.length (ss.flatMap cK.cells) w:=by
 have hC:prog.cellsOf 35 = 3:=by kernel_rfl
 obtain⟨a0,n0,c0,rfl⟩:=okWide_slice underlying22 hv;obtain⟨fuel,hf⟩:=h;rcases open_slice underlying22 hf with ⟨hcs,_⟩ | ⟨a,len,cap,m,n,D,Pl,hcs,_,hl,_,hm,_,hi⟩
 ·simp[Value.cells]at hcs
  obtain⟨rfl,rfl,rfl⟩:=hcs;exact⟨[],⟨rfl,.inl ⟨rfl,_,_,rfl⟩⟩⟩
 ·simp[Value.cells]at hcs
  obtain⟨rfl,rfl,rfl⟩:=hcs;simp only[if_true]at hm;subst hm;rw[hC]at hi
  obtain⟨ss,h1,h2⟩:=EF (n:=n0) (Q:=λi s=>w.cells? 0 (a.add (i*3)) 3=some s.cells) (λi hlt=>by
   obtain⟨cs',hc,ht⟩:=hi i (by omega);obtain⟨s,rfl⟩:=A_ ht
   exact⟨s,hc⟩)
  refine⟨ss,?_⟩
  ·refine⟨Ba ss,?_⟩
   rw[h1];rcases Nat.eq_zero_or_pos n0 with h0 | h0
   ·subst h0
    exact .inl ⟨rfl,_,_,rfl⟩
   ·have hat:∀ i s,ss[i]? = some s->∀ j,j<3->w.cell? ((a.add (i*3)).add j)=s.cells[j]?:=λi s hs j hj=>(World.cells?_some (h2 i s hs)).2.2 j hj
    have e0:=hat 0 ss[0] (List.getElem?_eq_getElem (by omega)) 0 (by omega);have hs:a.spot=none:=by
     have:=World.cell?_spot (e0.trans (show _=some (iz ss[0].g) from rfl));simpa[Addr.add] using this
    have hb:=GE (e0.trans (show _=some (iz ss[0].g) from rfl));obtain⟨b,off,spot⟩:=a;simp only at hs;subst hs;rw[mO,mO]at hb;refine .inr ⟨b,off,_,rfl,⟨hb,hl⟩,λj hj=>?_⟩;have hq:j / 3<ss.length:=by omega
    have e1:=hat (j / 3) ss[j / 3] (List.getElem?_eq_getElem hq) (j%3) (by omega);rw[mO,mO]at e1;rw[show off+j=off+j / 3*3+j%3 by omega,e1];have e3:=ED ss (j:=j / 3) (i:=j%3) (List.getElem?_eq_getElem hq) (by omega);rw[show j / 3*3+j%3=j by omega]at e3;exact e3.symm
end
end Go.Proofs.Ytankbefdlbcdnaa
namespace Go.Proofs.Ytankbefdlbcdnaa
open Go.Ev Go.Proofs.Try
open Go.ChangeShapes Go.WideShapes Go.ChangeAt Go.RowKit Go.Deep
set_option maxRecDepth 100000
theorem own:ownKnob prog.godebug=none:=by kernel_rfl
theorem laidOut:laidOutB prog=true:=by kernel_rfl
theorem yq{n:Int}(h:(Lit.int .u8 n).wf=true):∃ m:Nat,n=(m:Int)/\m<256:=⟨n.toNat,by have:=EE h;omega,by have:=EE h;omega⟩
theorem kz(H:Type)(enc:TypeId×Value->H)(W:World)(base:Nat)(args:Array Value)(ds gs:List (DataW H))(before:List MemPlace)
  (hval:∀ (j:Nat) t v,Try.f5.params[j]? = some t->args[j]? = some v->Value.okWide prog W .any base t v)
  (hW:DataW.Whole enc prog Try.f5.params.toList Rows.actDecidesSpec.vars false W args.toList ds gs before) :
  Calls prog 5 args W λe W'=>∃ v,e=.returned v/\Rows.actDecidesSpec.post enc prog Try.f5 false true false false W args v W':=by
 have hW':=hW;obtain⟨p,q,PD,hV,rfl,hfz,hnd⟩:=hW;have hA:DataW.TrodAll enc prog W 0 (λ_=>true) true Try.f5.params.toList args.toList ds p:=PD;rw[params5]at hA hval;obtain⟨v0,PL,d0,ds0,p0,q0,MT,rfl,rfl,h0,r0⟩:=trodAll_cons hA;obtain⟨v1,vs1,d1,ds1,p1,q1,rfl,rfl,rfl,h1,r1⟩:=trodAll_cons r0;obtain⟨v2,vs2,d2,PN,p2,q2,rfl,rfl,rfl,h2,r2⟩:=trodAll_cons r1;obtain⟨v3,vs3,d3,ds3,p3,q3,rfl,rfl,rfl,h3,r3⟩:=trodAll_cons r2;obtain⟨v4,PO,d4,PQ,p4,q4,rfl,rfl,rfl,h4,r4⟩:=trodAll_cons r3;obtain⟨v5,PR,d5,PS,p5,q5,rfl,rfl,rfl,h5,r5⟩:=trodAll_cons r4;obtain⟨rfl,rfl,rfl⟩:=trodAll_nil r5;obtain rfl:args = #[v0,v1,v2,v3,v4,v5]:=by cases args;simp_all
 obtain⟨z0,rfl,rfl,rfl,wz⟩:=open_int underlying5 (hval 0 _ v0 rfl rfl) h0;obtain⟨c0,rfl,rfl,rfl,wc⟩:=open_int underlying5 (hval 1 _ v1 rfl rfl) h1;obtain⟨u0,rfl,rfl,rfl,wu⟩:=open_int underlying5 (hval 2 _ v2 rfl rfl) h2;obtain⟨ca,rfl,rfl,rfl,PT⟩:=open_int underlying3 (hval 3 _ v3 rfl rfl) h3;obtain⟨mo,rfl,rfl,rfl,PU⟩:=open_int underlying3 (hval 4 _ v4 rfl rfl) h4;obtain⟨ls,hl⟩:=yp (hval 5 _ v5 rfl rfl) h5;obtain⟨z,rfl,hz⟩:=yq wz;obtain⟨c,rfl,hc⟩:=yq wc;obtain⟨u,rfl,hu⟩:=yq wu;refine(oi W v5 ls hl z c u ca mo hz hc hu).mono λx W' ⟨he,hb⟩=>?_
 subst he
 exact⟨_,rfl,EC laidOut hW' rfl (by kernel_rfl) underlying4 rfl (by
  rw[params5];intro t ht;simp only[List.mem_cons,List.not_mem_nil,or_false]at ht
  rcases ht with rfl | rfl | rfl | rfl | rfl | rfl<;>exact⟨by kernel_rfl,of_decide_eq_true (by kernel_rfl)⟩) hb⟩
set_option maxRecDepth 100000 in
theorem mP(os:Os)(started:os.Started)(H:Type)(enc:TypeId×Value->H) :
  ReturnsInHanded {} Try.checked os 5 .any (Rows.actDecidesSpec.pre6 enc prog Try.f5 Rows.actDecidesRow.domain false) (Rows.actDecidesSpec.post enc prog Try.f5 false true false false):=by
 refine returnsInHanded_of_change (C:=Try.checked) own started (by kernel_rfl) func5
  (ChangeSpec.witness6 (enc:=enc) (C:=Try.checked) false ⟨#[],#[.int .u8 0,.int .u8 0,.int .u8 0,.int .i64 0,.int .i64 0,.slice none 0 0],[]⟩ 8 (by kernel_rfl) (by kernel_rfl) (by kernel_rfl) (by kernel_rfl)) ?_
 intro W base args ds gs before hval hW _ _;exact kz H enc W base args ds gs before hval hW
theorem actDecides_holds:Rows.ActDecidesSaid :=
 OpenClaim.holds_of_wide 5 Try.f5 rfl rfl rfl rfl rfl rfl rfl ⟨rfl,rfl,rfl,rfl,rfl⟩ rfl rfl rfl rfl rfl (by kernel_rfl) func5 (by kernel_rfl)
  (of_decide_eq_true (by kernel_rfl)) (by unfold Func.isWrapper;first | (rw[if_pos (by decide +kernel)];kernel_rfl) | (rw[if_neg (by decide +kernel)];exact⟨rfl,rfl⟩))
  (λos started H enc _=>mP os started H enc)
end Go.Proofs.Ytankbefdlbcdnaa
