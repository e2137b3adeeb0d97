/- Part of a proof: see the last text. -/
import Derived.Test.YtbcnbofkgkheeaaGreatZn25
import Derived.Test.YtbcnbofkgkheeaaGreatZn17
import Derived.Test.YtbcnbofkgkheeaaGreatZn18
import Derived.Test.YtbcnbofkgkheeaaGreatZn23
import Derived.Test.YtbcnbofkgkheeaaGreatZn19
import Derived.Test.YtbcnbofkgkheeaaGreatZn20
set_option linter.unusedSimpArgs false
set_option linter.unusedVariables false
namespace Go.Proofs.YtbcnbofkgkheeaaGreat
open Go.Ev Go.Proofs.Tryz
open Go.RowKit
def iw(s:KL)(nx:Int)(l0:List Int)(n:Nat)(done:Bool)(x:XS)(m:aG)(gone:List Int):Prop :=
 ∃ k pend b,x.live=some (s.c,s.p,k)/\k.aJ=x.aJ/\eM s.c k/\bC s.c m/\cu (ld m (s.c.word s.p))<=(s.c.q:Int)/\GJ s.c s.p nx k m pend/\l0=gone++ring s.c s.p m++pend/\k.nx=(if x.aJ=true then 0 else 1000)/\
  (done=true->k.st=0)/\(done=false->k.st≠0/\Kb s.c s.p k m b/\b+6*(s.zs.length-n)+n<=188)
theorem iw.ok{s:KL}{nx:Int}{l0 gone:List Int}{n:Nat}{done:Bool}{x:XS}{m:aG}(h:iw s nx l0 n done x m gone):x.Ok m:=by
 obtain⟨k,pend,b,h1,h2,h3,h4,_⟩:=h;unfold XS.Ok;rw[h1];exact⟨h2,s.hp,h3,h4⟩
theorem iw.mem{s:KL}{nx:Int}{l0 gone:List Int}{n:Nat}{done:Bool}{x:XS}{m:aG}(h:iw s nx l0 n done x m gone):bC s.c m/\cu (ld m (s.c.word s.p))<=(s.c.q:Int):=by
 obtain⟨k,pend,b,h1,h2,h3,h4,h5,_⟩:=h;exact⟨h4,h5⟩
theorem iw.n{s:KL}{nx:Int}{l0 gone:List Int}{n:Nat}{x:XS}{m:aG}(h:iw s nx l0 n false x m gone):n<200:=by
 obtain⟨k,pend,b,h1,h2,h3,h4,h5,h6,h7,h8,h9,h10⟩:=h;have:=(h10 rfl).2.2;omega
theorem iw.len{s:KL}{nx:Int}{l0 gone:List Int}{n:Nat}{done:Bool}{x:XS}{m:aG}(h:iw s nx l0 n done x m gone):gone.length<=l0.length:=by
 obtain⟨k,pend,b,h1,h2,h3,h4,h5,h6,h7,_⟩:=h;rw[h7];simp only[List.length_append];omega
theorem aI.Ny{c:aT}{p:Nat}{k:aI}{m:aG} : (ae c p k m).1.nx=k.nx:=by
 unfold ae
 split
 ·rfl
 ·split
  ·rfl
  ·split<;>rfl
 ·split<;>rfl
 ·rfl
theorem ux{s:KL}(GV:s.zs.length<=30){m:aG}(hm:bC s.c m)(hsz:cu (ld m (s.c.word s.p))<=(s.c.q:Int)){x:XS}{g:Int}(hx:x.live=some (s.c,s.p,⟨x.aJ,g,1,0,none⟩))(hg:x.aJ=false->g=999) :
  iw s (ld m (s.c.word s.p+1)) (ring s.c s.p m++dU (ld m (s.c.word s.p+1))) 0 false x m []:=by
 have hq:=s.z;refine⟨_,_,8,hx,rfl,⟨(by show 1<=3;decide),λh=>?_,(by show c7 0;unfold c7;omega),(λy hy=>by cases hy),λ_=>rfl,(λh=>by cases h),(λh=>by cases h)⟩,hm,hsz,.inl ⟨rfl,rfl,rfl,rfl⟩,rfl,?_,(λh=>by cases h),λ_=>⟨(by show(1:Nat)≠0;decide),⟨λ_=>by omega,(λh=>by cases h),(λy hy=>by cases hy)⟩,by omega⟩⟩
 ·have:=hg h
  show 0<=g/\g<=9223372036854775807;omega
 ·show(if x.aJ=true then 0 else g+1)=_
  cases hd:x.aJ with
  | true=>rfl
  | false=>rw[hg hd];rfl
theorem wE{s:KL}{nx:Int}(hnx:0<=nx/\nx<4294967296){l0 gone:List Int}{n:Nat}{x:XS}{m:aG}(h:iw s nx l0 n false x m gone) :
  (bC s.c (x.step m).2/\cu (ld (x.step m).2 (s.c.word s.p))<=(s.c.q:Int))/\(x.step m).1.aJ=x.aJ/\
  (decide ((x.step m).1.st=0)=true->iw s nx l0 (n+1) true (x.step m).1 (x.step m).2 gone)/\
  (decide ((x.step m).1.st=0)=false->¬ n<s.zs.length->iw s nx l0 (n+1) false (x.step m).1 (x.step m).2 gone)/\
  (decide ((x.step m).1.st=0)=false->n<s.zs.length->∀ t,iw s nx l0 (n+1) false (x.step m).1 (Dr s.c s.p (x.step m).2 (h_ s.c s.p (x.step m).2 t)) (gone++(ring s.c s.p (x.step m).2).take (h_ s.c s.p (x.step m).2 t))):=by
 have hq:=s.z;have hq2:=s.c.qb;obtain⟨aJ,live⟩:=x;obtain⟨k,pend,b,h1,h2,h3,h4,h5,h6,h7,h8,h9,h10⟩:=h;obtain⟨j1,j2,j3⟩:=h10 rfl;replace h1:live=some (s.c,s.p,k):=h1;subst h1;obtain⟨uo,i1,i2,i3,i4,i5⟩:=Dl s.hp h4 hnx h3 h6 h5 j1 j2;obtain⟨o1,o2⟩:=rD s.hp h3 h4;have hd:(ae s.c s.p k m).1.aJ=aJ:=iM.trans h2;have hn2:(ae s.c s.p k m).1.nx=(if aJ=true then 0 else 1000):=aI.Ny.trans h8;have e1:(XS.step ⟨aJ,some (s.c,s.p,k)⟩ m)=(⟨aJ,some (s.c,s.p,(ae s.c s.p k m).1)⟩,(ae s.c s.p k m).2):=rfl;rw[e1];have est:∀ v:Bool,decide ((XS.st ⟨aJ,some (s.c,s.p,(ae s.c s.p k m).1)⟩)=0)=v->decide ((ae s.c s.p k m).1.st=0)=v:=λv h=>h
 refine⟨⟨o2,i2⟩,rfl,λhz=>?_,λhz hn=>?_,λhz hn t=>?_⟩
 ·refine⟨_,uo,0,rfl,hd,o1,o2,i2,i1,?_,hn2,λ_=>of_decide_eq_true (est _ hz),(λh=>by cases h)⟩
  rw[h7,List.append_assoc,i3,List.append_assoc]
 ·have hz':=of_decide_eq_false (est _ hz)
  refine⟨_,uo,b-1,rfl,hd,o1,o2,i2,i1,?_,hn2,(λh=>by cases h),λ_=>⟨hz',i4 hz',by omega⟩⟩;rw[h7,List.append_assoc,i3,List.append_assoc]
 ·have hz':=of_decide_eq_false (est _ hz)
  have hle:=Qy s.c s.p (ae s.c s.p k m).2 t;show iw s nx l0 (n+1) false _ (Dr s.c s.p (ae s.c s.p k m).2 (h_ s.c s.p (ae s.c s.p k m).2 t)) (gone++(ring s.c s.p (ae s.c s.p k m).2).take (h_ s.c s.p (ae s.c s.p k m).2 t));generalize h_ s.c s.p (ae s.c s.p k m).2 t=r at *
  by_cases hr:r=0
  ·subst hr
   have e2:Dr s.c s.p (ae s.c s.p k m).2 0=(ae s.c s.p k m).2:=rfl;rw[e2];refine⟨_,uo,b-1,rfl,hd,o1,o2,i2,i1,?_,hn2,(λh=>by cases h),λ_=>⟨hz',i4 hz',by omega⟩⟩;rw[h7,List.take_zero,List.append_nil,List.append_assoc,i3,List.append_assoc]
  ·have e2:Dr s.c s.p (ae s.c s.p k m).2 r=vB s.c s.p (ae s.c s.p k m).2 r:=if_neg hr
   rw[e2];have kt:=Dm s.hp o2 i1 hle (i4 hz') hz';refine⟨_,uo,_,rfl,hd,o1,Sm s.hp o2 r,?_,kt.1,?_,hn2,(λh=>by cases h),λ_=>⟨hz',kt.2,by omega⟩⟩
   ·rw[J8 s.hp o2 hle]
    exact Int.le_trans (Int.sub_le_self _ (Int.natCast_nonneg r)) i2
   ·rw[h7,List.append_assoc,i3]
    have hr2:=Nw s.hp o2 hle;rw[List.append_assoc gone,← hr2,List.append_assoc]
theorem BK{s:KL}{nx:Int}{l0 gone:List Int}{n:Nat}{x:XS}{m:aG}(h:iw s nx l0 n true x m gone) :
  ld m (s.c.word s.p+1)=(if x.aJ=true then 0 else 1000)/\l0=gone++ring s.c s.p m++x.over/\x.aA = !decide (nx=0)/\(x.over=[]\/∃ l,x.over=l++[nx-1])/\(nx=0->x.over=[]):=by
 obtain⟨aJ,live⟩:=x;obtain⟨k,pend,b,h1,h2,h3,h4,h5,h6,h7,h8,h9,h10⟩:=h;replace h1:live=some (s.c,s.p,k):=h1;subst h1;obtain⟨e1,e2,e3,e4⟩:=Kd h6 (h9 rfl);refine⟨e1.trans h8,?_,e3,e4,λhz=>?_⟩
 ·rw[h7,e2]
  rfl
 ·have e5:k.put.isSome=false:=by rw[e3,hz];rfl
  show k.over=[];obtain⟨dm,gg,st,was,put⟩:=k;cases put with
  | none=>rfl
  | some y=>cases e5
end Go.Proofs.YtbcnbofkgkheeaaGreat
namespace Go.Proofs.YtbcnbofkgkheeaaGreat
open Go.Ev Go.Proofs.Tryz
open Go.RowKit
open Go.Ev (iz iN pz)
set_option maxRecDepth 8000
attribute [local irreducible] dL
abbrev kW(s:KL):fQ:=⟨s.W,λ_=>False⟩
abbrev kC(s:KL)(b5:Nat):aC:=aH b5 [iN s.c.n,iN s.c.q,iz s.c.g,iz s.c.m,iz s.c.t,iz s.c.s] 25
abbrev kI(v:Value)(xs:List Int):aC:=aD 3 1 v xs.length (aO xs)
abbrev kT(dv:Value)(s:KL)(b5 bm:Nat)(al:Value)(nx:Int)(l:List (Nat×Value)):List (Nat×Value):=(1,iN s.p)::(2,dv)::(4,s.lv)::(5,pz b5)::(11,pz bm)::(13,al)::(14,iz (nx-1))::l
abbrev kR(s:KL):Ending->World->Prop:=λe w'=>e=.returned (.bool true)/\Below s.W.heap.size s.W w'
noncomputable abbrev kB(s:KL):Exit->Act->World->Prop:=bodyPostM Fence.wide 0 prog (jt prog 8) (kR s)
noncomputable abbrev kS(p:List Nat)(i:Nat):=fM prog 8 p i
abbrev nY(s:KL)(b5 bm bx:Nat)(al:Value)(d6:ai al=true)(l0:List Int)(nx:Int)(xv:Value)(dA:ai xv=true)(x:XS)(m:aG)(gv:Value)(gM:ai gv=true)(gone:List Int)(n:Nat)(h1:l0.length<=10000/\gone.length<=10000/\0<=nx/\nx<4294967296):KQ :=
 ⟨s,b5,bm,bx,al,d6,l0,nx,xv,dA,x,m,gv,gM,gone,n,.slice none 0 0,rfl,[],.slice none 0 0,rfl,[],h1.1,h1.2.1,Nat.zero_le _,Nat.zero_le _,h1.2.2⟩
theorem pP(s:KL){b5 bm bx:Nat}{al gv:Value}{l0 gone:List Int}(hl0:l0.length<=64){nx:Int}(hnx:0<=nx/\nx<4294967296){x:XS}{m:aG}{n:Nat}(hI:iw s nx l0 n true x m gone)(au:x.aJ=true){A:Act}{w:World}
  (h:Ev.At (kW s) 150 (kT (.bool true) s b5 bm al nx [(15,.iface 52 (pz bx)),(16,gv),(17,.bool true)]) [kC s b5,kI al l0,xA bx x,aj bm m,kI gv gone] A w):dL prog (kS [] 15) (kB s) A w:=by
 have gM:ai gv=true:=aN (h.hold.sel [4]);have d6:ai al=true:=aN (h.hold.sel [1]);have hgl:=hI.len;obtain⟨e1,e2,e3,e4,e5⟩:=BK hI;have hrl:=ni hI.mem.2;have hol:x.over.length<=64:=by
  have:=congrArg List.length e2;simp only[List.length_append]at this;omega
 have dA:ai (.iface 52 (pz bx))=true:=rfl;refine UT (nY s b5 bm bx al d6 l0 nx _ dA x m gv gM gone n ⟨by omega,by omega,hnx⟩) hI.ok au A w _ h ?_;intro κ A1 w1 h1;dsimp only at h1;have eR:ai (Ev.dv κ 403)=true:=aV _;have BW:ai (Ev.dv κ 407)=true:=aV _;generalize Ev.dv κ 403=ov at h1 eR;generalize Ev.dv κ 407=wv at h1 BW;refine UV ⟨s,b5,bm,bx,al,d6,l0,nx,_,dA,x,m,gv,gM,gone,n,ov,eR,x.over,wv,BW,gone,by omega,by omega,by omega,by omega,hnx⟩ hI.mem.1 hI.mem.2 A1 w1 _ (h1.to (λq hq=>hq) (λhh=>hh.sel [0,3,2,4,1,6])) ?_;intro κ2 A2 w2 h2;dsimp only at h2;have KJ:ai (Ev.dv κ2 407)=true:=aV _;generalize Ev.dv κ2 407=wv2 at h2 KJ;refine UW ⟨s,b5,bm,bx,al,d6,l0,nx,_,dA,x,m,gv,gM,gone,n,ov,eR,x.over,wv2,KJ,gone++ring s.c s.p m,by omega,by omega,by omega,by rw[List.length_append];omega,hnx⟩ A2 w2 _ (h2.to (λq hq=>hq) (λhh=>(iO (hh.sel [6,0,3,4,2,5])).sel [1,2,3,4,5,0])) ?_;intro κ3 A3 w3 h3;dsimp only at h3;have KK:ai (Ev.dv κ3 403)=true:=aV _;generalize Ev.dv κ3 403=QH at h3 KK
 let q:KQ:=⟨s,b5,bm,bx,al,d6,l0,nx,_,dA,x,m,gv,gM,gone,n,ov,eR,x.over,QH,KK,gone++ring s.c s.p m++x.over,by omega,by omega,by omega,by rw[← e2];omega,hnx⟩
 have hm:=(hI.mem.1.get (hI.mem.1.lt_next s.hp)).1;rw[e1,au]at hm;have h4:Ev.At (kW s) 150 (kT (.bool true) s b5 bm al nx [(15,.iface 52 (pz bx)),(17,.bool true),(19,ov),(20,QH)]) [kC s b5,kI al l0,xA bx x,aj bm m,kI ov x.over,kI QH (gone++ring s.c s.p m++x.over)] A3 w3:=h3.to (λq hq=>hq) (λhh=>(iO (hh.sel [5,0,1,2,3,4])).sel [1,2,3,4,5,0]);have fin:∀ {l:List aC} {w':World},ah (kW s) l w'->kR s (.returned (.bool true)) w':=λhh=>⟨rfl,hh.below (λ_ h=>h)⟩
 by_cases hz:nx=0
 ·have e6:=e5 hz
  refine SI q hI.ok au (by rw[e3,hz];rfl) hm hz e2.symm hl0 (by show x.over.length=0;rw[e6];rfl) A3 w3 _ h4 (λκ4 w4 h5=>fin h5)
 ·rcases e4 with e6 | ⟨l,e6⟩
  ·refine SJ q hI.ok au (by rw[e3];simp[hz]) hm hz e2.symm hl0 (by show x.over.length=0;rw[e6];rfl) A3 w3 _ h4 (λκ4 w4 h5=>fin h5)
  ·refine SK q hI.ok au (by rw[e3];simp[hz]) hm hz e2.symm hl0 (by show 0<x.over.length;rw[e6];simp) (by show x.over[x.over.length-1]? = some (nx-1);rw[e6];simp) A3 w3 _ h4 (λκ4 w4 h5=>fin h5)
theorem yK(s:KL){b5 bm bx:Nat}{al:Value}{l0:List Int}(hl0:l0.length<=64){nx:Int}(hnx:0<=nx/\nx<4294967296){x:XS}{m:aG}(hI:iw s nx l0 0 false x m [])(au:x.aJ=true){A:Act}{w:World}
  (h:Ev.At (kW s) 150 (kT (.bool true) s b5 bm al nx [(15,.iface 52 (pz bx)),(16,.slice none 0 0),(17,.bool false),(18,.int .i64 0)]) [kC s b5,kI al l0,xA bx x,aj bm m,kI (.slice none 0 0) []] A w):dL prog (kS [] 14) (kB s) A w:=by
 have d6:ai al=true:=aN (h.hold.sel [1]);have dA:ai (.iface 52 (pz bx))=true:=rfl;refine bY (id:=0) (by kernel_rfl) ?_;refine ek (by kernel_rfl) (λ(y:Nat×Bool×XS×aG×Value×List Int) A w'=>Ev.At (kW s) 150 (kT (.bool true) s b5 bm al nx [(15,.iface 52 (pz bx)),(16,y.2.2.2.2.1),(17,.bool y.2.1),(18,iN y.1)]) [kC s b5,kI al l0,xA bx y.2.2.1,aj bm y.2.2.2.1,kI y.2.2.2.2.1 y.2.2.2.2.2] A w'/\iw s nx l0 y.1 y.2.1 y.2.2.1 y.2.2.2.1 y.2.2.2.2.2/\y.2.2.1.aJ=true) (λy=>200-y.1) (x:=(0,false,x,m,.slice none 0 0,[])) ⟨h,hI,au⟩ ?_;clear h hI au A w x m;rintro⟨n,done,x,m,gv,gone⟩ A w ⟨h,hI,au⟩;replace hI:iw s nx l0 n done x m gone:=hI;replace au:x.aJ=true:=au;replace h:Ev.At (kW s) 150 (kT (.bool true) s b5 bm al nx [(15,.iface 52 (pz bx)),(16,gv),(17,.bool done),(18,iN n)]) [kC s b5,kI al l0,xA bx x,aj bm m,kI gv gone] A w:=h;have gM:ai gv=true:=aN (h.hold.sel [4]);have hgl:=hI.len;cases done with
 | true =>
  by_cases hn:n<200
  ·refine SC (nY s b5 bm bx al d6 l0 nx _ dA x m gv gM gone n ⟨by omega,by omega,hnx⟩) hn A w _ h ?_
   intro κ A1 w1 h1;exact pP s hl0 hnx hI au h1
  ·refine SE (nY s b5 bm bx al d6 l0 nx _ dA x m gv gM gone n ⟨by omega,by omega,hnx⟩) hn A w _ h ?_
   intro κ A1 w1 h1;exact pP s hl0 hnx hI au h1
 | false =>
  have hn:=hI.n;obtain⟨⟨j1,j2⟩,j3,j4,j5,j6⟩:=wE hnx hI;refine UR (nY s b5 bm bx al d6 l0 nx _ dA x m gv gM gone n ⟨by omega,by omega,hnx⟩) hn A w _ h ?_;intro κ A1 w1 h1;refine bY (id:=1) (by kernel_rfl) ?_;have hd2:(x.step m).1.aJ=true:=j3.trans au;cases hz:decide ((x.step m).1.st=0) with
  | true =>
   by_cases hin:n<s.zs.length
   ·refine Qz (nY s b5 bm bx al d6 l0 nx _ dA x m gv gM gone n ⟨by omega,by omega,hnx⟩) hI.ok au hz hin A1 w1 _ h1 ?_
    intro κ2 A2 w2 h2;refine bE (by kernel_rfl) ?_;refine OX (nY s b5 bm bx al d6 l0 nx _ dA (x.step m).1 (x.step m).2 gv gM gone n ⟨by omega,by omega,hnx⟩) hn A2 w2 _ (h2.to (λq hq=>hq) (λhh=>hh.sel [0,3,1,2,4])) ?_;intro κ3 A3 w3 h3;exact bE (by kernel_rfl) ⟨(n+1,true,(x.step m).1,(x.step m).2,gv,gone),⟨h3,j4 hz,hd2⟩,by show 200-(n+1)<200-n;omega⟩
   ·refine QA (nY s b5 bm bx al d6 l0 nx _ dA x m gv gM gone n ⟨by omega,by omega,hnx⟩) hI.ok au hz hin A1 w1 _ h1 ?_
    intro κ2 A2 w2 h2;refine bE (by kernel_rfl) ?_;refine OX (nY s b5 bm bx al d6 l0 nx _ dA (x.step m).1 (x.step m).2 gv gM gone n ⟨by omega,by omega,hnx⟩) hn A2 w2 _ (h2.to (λq hq=>hq) (λhh=>hh.sel [0,3,1,2,4])) ?_;intro κ3 A3 w3 h3;exact bE (by kernel_rfl) ⟨(n+1,true,(x.step m).1,(x.step m).2,gv,gone),⟨h3,j4 hz,hd2⟩,by show 200-(n+1)<200-n;omega⟩
  | false =>
   by_cases hin:n<s.zs.length
   ·have j7:=j6 hz hin (s.zs.getD n 0).toNat
    have UZ:=j7.len;refine QC (nY s b5 bm bx al d6 l0 nx _ dA x m gv gM gone n ⟨by omega,by omega,hnx⟩) hI.ok au hz hin j1 j2 A1 w1 _ h1 ?_;intro κ2 A2 w2 h2;dsimp only at h2;have KM:ai (Ev.dv κ2 411)=true:=aV _;generalize Ev.dv κ2 411=SO at h2 KM;refine bE (by kernel_rfl) ?_;refine SG (nY s b5 bm bx al d6 l0 nx _ dA (x.step m).1 (Dr s.c s.p (x.step m).2 (h_ s.c s.p (x.step m).2 (s.zs.getD n 0).toNat)) SO KM (gone++(ring s.c s.p (x.step m).2).take (h_ s.c s.p (x.step m).2 (s.zs.getD n 0).toNat)) n ⟨by omega,by omega,hnx⟩) hn A2 w2 _ (h2.to (λq hq=>hq) (λhh=>(iO (hh.sel [5,0,4,3,2])).sel [1,2,3,4,0])) ?_;intro κ3 A3 w3 h3;exact bE (by kernel_rfl) ⟨(n+1,false,(x.step m).1,_,SO,_),⟨h3,j7,hd2⟩,by show 200-(n+1)<200-n;omega⟩
   ·refine QB (nY s b5 bm bx al d6 l0 nx _ dA x m gv gM gone n ⟨by omega,by omega,hnx⟩) hI.ok au hz hin A1 w1 _ h1 ?_
    intro κ2 A2 w2 h2;refine bE (by kernel_rfl) ?_;refine SG (nY s b5 bm bx al d6 l0 nx _ dA (x.step m).1 (x.step m).2 gv gM gone n ⟨by omega,by omega,hnx⟩) hn A2 w2 _ (h2.to (λq hq=>hq) (λhh=>hh.sel [0,3,1,2,4])) ?_;intro κ3 A3 w3 h3;exact bE (by kernel_rfl) ⟨(n+1,false,(x.step m).1,(x.step m).2,gv,gone),⟨h3,j5 hz hin,hd2⟩,by show 200-(n+1)<200-n;omega⟩
theorem yM(s:KL)(rF:s.bs.length<=40)(GV:s.zs.length<=30):Calls prog 8 #[s.c0.v,iz s.p0,.bool true,s.bv,s.lv] s.W (kR s):=by
 have hz:=s.z;refine cF (N:=150) (tm:=[(0,s.c0.v),(1,iz s.p0),(2,.bool true),(3,s.bv),(4,s.lv)]) (by kernel_rfl) (iJ s.W) (by simp) (by simp) (λA hA=>?_);refine UL s rF GV A s.W _ hA ?_;intro κ A1 w1 h1;dsimp only at h1;generalize (κ 400).getD 0=b5 at h1;generalize Ev.dv κ 411=tv at h1;have ht:=h1.tm;obtain⟨us,hg,hh⟩:=ah.vt (a:=λus:List Int=>b_ [nG (am 0 tv) ⟨us,((4+s.c.off s.c.n:Nat):Int)⟩,aD 28 1 (am 1 tv) us.length (aF us)]) (h1.hold.sel [1,0]);obtain⟨bm,e4,QI⟩:=m8 hh.open;rw[e4]at ht;generalize hmm:(⟨us,((4+s.c.off s.c.n:Nat):Int)⟩:aG)=m at QI;have hm:bC s.c m:=by rw[← hmm];exact⟨hg.len,hg.u⟩
 have hsz:cu (ld m (s.c.word s.p))<=(s.c.q:Int):=by rw[← hmm];exact(hg.ring s.p s.hp).1
 have hnx:0<=ld m (s.c.word s.p+1)/\ld m (s.c.word s.p+1)<4294967296:=⟨((hm.get (hm.lt_next s.hp)).2).1,by rw[← hmm];exact(hg.ring s.p s.hp).2⟩;have hw:=(hm.get (hm.lt_next s.hp)).1;have hrl:(ring s.c s.p m).length<=8:=by
  have:=pN (ld m (s.c.word s.p));rw[pO];omega
 have h2:Ev.At (kW s) 150 [(1,iN s.p),(2,.bool true),(4,s.lv),(5,pz b5),(11,pz bm)] [kC s b5,aj bm m] A1 w1:=⟨h1.sz,h1.df,ht,QI.sel [2,0]⟩;obtain⟨nx,KO⟩:∃ nx,nx=ld m (s.c.word s.p+1):=⟨_,rfl⟩;rw[← KO]at hnx hw;refine UN (nY s b5 bm 0 (.slice none 0 0) rfl [] nx (.slice none 0 0) rfl ⟨true,none⟩ m (.slice none 0 0) rfl [] 0 ⟨by simp,by simp,hnx⟩) hm hsz A1 w1 _ h2 ?_;intro κ3 A3 w3 h3;dsimp only at h3;have d6:ai (Ev.dv κ3 403)=true:=aV _;generalize Ev.dv κ3 403=al at h3 d6;have rest:∀ (KT:Value) (A4:Act) (w4:World),Ev.At (kW s) 150 (kT (.bool true) s b5 bm KT nx []) [kC s b5,kI KT (ring s.c s.p m++dU nx),aj bm m.tick] A4 w4->dL prog (kS [] 10) (kB s) A4 w4:=by
  intro KT A4 w4 h4;have QJ:ai KT=true:=aN (h4.hold.sel [1]);have hll:(ring s.c s.p m++dU nx).length<=64:=by
   rw[List.length_append];unfold dU
   split<;>simp<;>omega
  refine UP (nY s b5 bm 0 KT QJ (ring s.c s.p m++dU nx) nx (.slice none 0 0) rfl ⟨true,none⟩ m.tick (.slice none 0 0) rfl [] 0 ⟨by omega,by simp,hnx⟩) A4 w4 _ h4 ?_;intro κ5 A5 w5 h5;dsimp only at h5;have ht:=h5.tm;obtain⟨bx,e5,hh⟩:=yn (h5.hold.sel [1,0,2,3]);rw[e5]at ht;have hI:iw s nx (ring s.c s.p m++dU nx) 0 false (cD s.c s.p) m.tick []:=by
   have e6:=ux (s:=s) GV hm.tick hsz (x:=cD s.c s.p) rfl (by simp[cD,cE]);rw[show ld m.tick (s.c.word s.p+1)=nx from KO.symm]at e6;exact e6
  exact yK s hll hnx hI rfl (A:=A5) (w:=w5) ⟨h5.sz,h5.df,ht,(hh.cJ (e := 3) (sz:=1)).sel [2,3,1,4,0]⟩
 by_cases h0:nx=0
 ·refine SA (nY s b5 bm 0 al d6 (ring s.c s.p m) nx (.slice none 0 0) rfl ⟨true,none⟩ m (.slice none 0 0) rfl [] 0 ⟨by omega,by simp,hnx⟩) hw h0 A3 w3 _ h3 ?_
  intro κ4 A4 w4 h4;refine rest al A4 w4 (h4.to (λq hq=>hq) (λhh=>?_));have e:dU nx=[]:=if_pos h0;rw[e,List.append_nil];exact hh.sel [0,2,1]
 ·refine Sy (nY s b5 bm 0 al d6 (ring s.c s.p m) nx (.slice none 0 0) rfl ⟨true,none⟩ m (.slice none 0 0) rfl [] 0 ⟨by omega,by simp,hnx⟩) hw h0 A3 w3 _ h3 ?_
  intro κ4 A4 w4 h4;refine rest _ A4 w4 (h4.to (λq hq=>hq) (λhh=>?_));have e:dU nx=[nx-1]:=if_neg h0;rw[e];exact(iO (ys:=[nx-1]) (hh.sel [2,0,1])).sel [1,0,2]
theorem pQ(s:KL){b5 bm bx:Nat}{al gv:Value}{l0 gone:List Int}(hl0:l0.length<=64){nx:Int}(hnx:0<=nx/\nx<4294967296){x:XS}{m:aG}{n:Nat}(hI:iw s nx l0 n true x m gone)(au:x.aJ=false){A:Act}{w:World}
  (h:Ev.At (kW s) 150 (kT (.bool false) s b5 bm al nx [(15,.iface 42 (pz bx)),(16,gv),(17,.bool true)]) [kC s b5,kI al l0,xA bx x,aj bm m,kI gv gone] A w):dL prog (kS [] 15) (kB s) A w:=by
 have gM:ai gv=true:=aN (h.hold.sel [4]);have d6:ai al=true:=aN (h.hold.sel [1]);have hgl:=hI.len;obtain⟨e1,e2,e3,e4,e5⟩:=BK hI;have hrl:=ni hI.mem.2;have hol:x.over.length<=64:=by
  have:=congrArg List.length e2;simp only[List.length_append]at this;omega
 have dA:ai (.iface 42 (pz bx))=true:=rfl;refine UU (nY s b5 bm bx al d6 l0 nx _ dA x m gv gM gone n ⟨by omega,by omega,hnx⟩) hI.ok au A w _ h ?_;intro κ A1 w1 h1;dsimp only at h1;have eR:ai (Ev.dv κ 403)=true:=aV _;have BW:ai (Ev.dv κ 407)=true:=aV _;generalize Ev.dv κ 403=ov at h1 eR;generalize Ev.dv κ 407=wv at h1 BW;refine UX ⟨s,b5,bm,bx,al,d6,l0,nx,_,dA,x,m,gv,gM,gone,n,ov,eR,x.over,wv,BW,gone,by omega,by omega,by omega,by omega,hnx⟩ hI.mem.1 hI.mem.2 A1 w1 _ (h1.to (λq hq=>hq) (λhh=>hh.sel [0,3,2,4,1,6])) ?_;intro κ2 A2 w2 h2;dsimp only at h2;have KJ:ai (Ev.dv κ2 407)=true:=aV _;generalize Ev.dv κ2 407=wv2 at h2 KJ;refine UY ⟨s,b5,bm,bx,al,d6,l0,nx,_,dA,x,m,gv,gM,gone,n,ov,eR,x.over,wv2,KJ,gone++ring s.c s.p m,by omega,by omega,by omega,by rw[List.length_append];omega,hnx⟩ A2 w2 _ (h2.to (λq hq=>hq) (λhh=>(iO (hh.sel [6,0,3,4,2,5])).sel [1,2,3,4,5,0])) ?_;intro κ3 A3 w3 h3;dsimp only at h3;have KK:ai (Ev.dv κ3 403)=true:=aV _;generalize Ev.dv κ3 403=QH at h3 KK
 let q:KQ:=⟨s,b5,bm,bx,al,d6,l0,nx,_,dA,x,m,gv,gM,gone,n,ov,eR,x.over,QH,KK,gone++ring s.c s.p m++x.over,by omega,by omega,by omega,by rw[← e2];omega,hnx⟩
 have hm:=(hI.mem.1.get (hI.mem.1.lt_next s.hp)).1;rw[e1,au]at hm;have h4:Ev.At (kW s) 150 (kT (.bool false) s b5 bm al nx [(15,.iface 42 (pz bx)),(17,.bool true),(19,ov),(20,QH)]) [kC s b5,kI al l0,xA bx x,aj bm m,kI ov x.over,kI QH (gone++ring s.c s.p m++x.over)] A3 w3:=h3.to (λq hq=>hq) (λhh=>(iO (hh.sel [5,0,1,2,3,4])).sel [1,2,3,4,5,0]);have fin:∀ {l:List aC} {w':World},ah (kW s) l w'->kR s (.returned (.bool true)) w':=λhh=>⟨rfl,hh.below (λ_ h=>h)⟩
 by_cases hz:nx=0
 ·have e6:=e5 hz
  refine SL q hI.ok au (by rw[e3,hz];rfl) hm hz e2.symm hl0 (by show x.over.length=0;rw[e6];rfl) A3 w3 _ h4 (λκ4 w4 h5=>fin h5)
 ·rcases e4 with e6 | ⟨l,e6⟩
  ·refine SM q hI.ok au (by rw[e3];simp[hz]) hm hz e2.symm hl0 (by show x.over.length=0;rw[e6];rfl) A3 w3 _ h4 (λκ4 w4 h5=>fin h5)
  ·refine SN q hI.ok au (by rw[e3];simp[hz]) hm hz e2.symm hl0 (by show 0<x.over.length;rw[e6];simp) (by show x.over[x.over.length-1]? = some (nx-1);rw[e6];simp) A3 w3 _ h4 (λκ4 w4 h5=>fin h5)
theorem yN(s:KL){b5 bm bx:Nat}{al:Value}{l0:List Int}(hl0:l0.length<=64){nx:Int}(hnx:0<=nx/\nx<4294967296){x:XS}{m:aG}(hI:iw s nx l0 0 false x m [])(au:x.aJ=false){A:Act}{w:World}
  (h:Ev.At (kW s) 150 (kT (.bool false) s b5 bm al nx [(15,.iface 42 (pz bx)),(16,.slice none 0 0),(17,.bool false),(18,.int .i64 0)]) [kC s b5,kI al l0,xA bx x,aj bm m,kI (.slice none 0 0) []] A w):dL prog (kS [] 14) (kB s) A w:=by
 have d6:ai al=true:=aN (h.hold.sel [1]);have dA:ai (.iface 42 (pz bx))=true:=rfl;refine bY (id:=0) (by kernel_rfl) ?_;refine ek (by kernel_rfl) (λ(y:Nat×Bool×XS×aG×Value×List Int) A w'=>Ev.At (kW s) 150 (kT (.bool false) s b5 bm al nx [(15,.iface 42 (pz bx)),(16,y.2.2.2.2.1),(17,.bool y.2.1),(18,iN y.1)]) [kC s b5,kI al l0,xA bx y.2.2.1,aj bm y.2.2.2.1,kI y.2.2.2.2.1 y.2.2.2.2.2] A w'/\iw s nx l0 y.1 y.2.1 y.2.2.1 y.2.2.2.1 y.2.2.2.2.2/\y.2.2.1.aJ=false) (λy=>200-y.1) (x:=(0,false,x,m,.slice none 0 0,[])) ⟨h,hI,au⟩ ?_;clear h hI au A w x m;rintro⟨n,done,x,m,gv,gone⟩ A w ⟨h,hI,au⟩;replace hI:iw s nx l0 n done x m gone:=hI;replace au:x.aJ=false:=au;replace h:Ev.At (kW s) 150 (kT (.bool false) s b5 bm al nx [(15,.iface 42 (pz bx)),(16,gv),(17,.bool done),(18,iN n)]) [kC s b5,kI al l0,xA bx x,aj bm m,kI gv gone] A w:=h;have gM:ai gv=true:=aN (h.hold.sel [4]);have hgl:=hI.len;cases done with
 | true =>
  by_cases hn:n<200
  ·refine SD (nY s b5 bm bx al d6 l0 nx _ dA x m gv gM gone n ⟨by omega,by omega,hnx⟩) hn A w _ h ?_
   intro κ A1 w1 h1;exact pQ s hl0 hnx hI au h1
  ·refine SF (nY s b5 bm bx al d6 l0 nx _ dA x m gv gM gone n ⟨by omega,by omega,hnx⟩) hn A w _ h ?_
   intro κ A1 w1 h1;exact pQ s hl0 hnx hI au h1
 | false =>
  have hn:=hI.n;obtain⟨⟨j1,j2⟩,j3,j4,j5,j6⟩:=wE hnx hI;refine US (nY s b5 bm bx al d6 l0 nx _ dA x m gv gM gone n ⟨by omega,by omega,hnx⟩) hn A w _ h ?_;intro κ A1 w1 h1;refine bY (id:=1) (by kernel_rfl) ?_;have hd2:(x.step m).1.aJ=false:=j3.trans au;cases hz:decide ((x.step m).1.st=0) with
  | true =>
   by_cases hin:n<s.zs.length
   ·refine QD (nY s b5 bm bx al d6 l0 nx _ dA x m gv gM gone n ⟨by omega,by omega,hnx⟩) hI.ok au hz hin A1 w1 _ h1 ?_
    intro κ2 A2 w2 h2;refine bE (by kernel_rfl) ?_;refine OY (nY s b5 bm bx al d6 l0 nx _ dA (x.step m).1 (x.step m).2 gv gM gone n ⟨by omega,by omega,hnx⟩) hn A2 w2 _ (h2.to (λq hq=>hq) (λhh=>hh.sel [0,3,1,2,4])) ?_;intro κ3 A3 w3 h3;exact bE (by kernel_rfl) ⟨(n+1,true,(x.step m).1,(x.step m).2,gv,gone),⟨h3,j4 hz,hd2⟩,by show 200-(n+1)<200-n;omega⟩
   ·refine QE (nY s b5 bm bx al d6 l0 nx _ dA x m gv gM gone n ⟨by omega,by omega,hnx⟩) hI.ok au hz hin A1 w1 _ h1 ?_
    intro κ2 A2 w2 h2;refine bE (by kernel_rfl) ?_;refine OY (nY s b5 bm bx al d6 l0 nx _ dA (x.step m).1 (x.step m).2 gv gM gone n ⟨by omega,by omega,hnx⟩) hn A2 w2 _ (h2.to (λq hq=>hq) (λhh=>hh.sel [0,3,1,2,4])) ?_;intro κ3 A3 w3 h3;exact bE (by kernel_rfl) ⟨(n+1,true,(x.step m).1,(x.step m).2,gv,gone),⟨h3,j4 hz,hd2⟩,by show 200-(n+1)<200-n;omega⟩
  | false =>
   by_cases hin:n<s.zs.length
   ·have j7:=j6 hz hin (s.zs.getD n 0).toNat
    have UZ:=j7.len;refine QG (nY s b5 bm bx al d6 l0 nx _ dA x m gv gM gone n ⟨by omega,by omega,hnx⟩) hI.ok au hz hin j1 j2 A1 w1 _ h1 ?_;intro κ2 A2 w2 h2;dsimp only at h2;have KM:ai (Ev.dv κ2 411)=true:=aV _;generalize Ev.dv κ2 411=SO at h2 KM;refine bE (by kernel_rfl) ?_;refine SH (nY s b5 bm bx al d6 l0 nx _ dA (x.step m).1 (Dr s.c s.p (x.step m).2 (h_ s.c s.p (x.step m).2 (s.zs.getD n 0).toNat)) SO KM (gone++(ring s.c s.p (x.step m).2).take (h_ s.c s.p (x.step m).2 (s.zs.getD n 0).toNat)) n ⟨by omega,by omega,hnx⟩) hn A2 w2 _ (h2.to (λq hq=>hq) (λhh=>(iO (hh.sel [5,0,4,3,2])).sel [1,2,3,4,0])) ?_;intro κ3 A3 w3 h3;exact bE (by kernel_rfl) ⟨(n+1,false,(x.step m).1,_,SO,_),⟨h3,j7,hd2⟩,by show 200-(n+1)<200-n;omega⟩
   ·refine QF (nY s b5 bm bx al d6 l0 nx _ dA x m gv gM gone n ⟨by omega,by omega,hnx⟩) hI.ok au hz hin A1 w1 _ h1 ?_
    intro κ2 A2 w2 h2;refine bE (by kernel_rfl) ?_;refine SH (nY s b5 bm bx al d6 l0 nx _ dA (x.step m).1 (x.step m).2 gv gM gone n ⟨by omega,by omega,hnx⟩) hn A2 w2 _ (h2.to (λq hq=>hq) (λhh=>hh.sel [0,3,1,2,4])) ?_;intro κ3 A3 w3 h3;exact bE (by kernel_rfl) ⟨(n+1,false,(x.step m).1,(x.step m).2,gv,gone),⟨h3,j5 hz hin,hd2⟩,by show 200-(n+1)<200-n;omega⟩
theorem yO(s:KL)(rF:s.bs.length<=40)(GV:s.zs.length<=30):Calls prog 8 #[s.c0.v,iz s.p0,.bool false,s.bv,s.lv] s.W (kR s):=by
 have hz:=s.z;refine cF (N:=150) (tm:=[(0,s.c0.v),(1,iz s.p0),(2,.bool false),(3,s.bv),(4,s.lv)]) (by kernel_rfl) (iJ s.W) (by simp) (by simp) (λA hA=>?_);refine UM s rF GV A s.W _ hA ?_;intro κ A1 w1 h1;dsimp only at h1;generalize (κ 400).getD 0=b5 at h1;generalize Ev.dv κ 411=tv at h1;have ht:=h1.tm;obtain⟨us,hg,hh⟩:=ah.vt (a:=λus:List Int=>b_ [nG (am 0 tv) ⟨us,((4+s.c.off s.c.n:Nat):Int)⟩,aD 28 1 (am 1 tv) us.length (aF us)]) (h1.hold.sel [1,0]);obtain⟨bm,e4,QI⟩:=m8 hh.open;rw[e4]at ht;generalize hmm:(⟨us,((4+s.c.off s.c.n:Nat):Int)⟩:aG)=m at QI;have hm:bC s.c m:=by rw[← hmm];exact⟨hg.len,hg.u⟩
 have hsz:cu (ld m (s.c.word s.p))<=(s.c.q:Int):=by rw[← hmm];exact(hg.ring s.p s.hp).1
 have hnx:0<=ld m (s.c.word s.p+1)/\ld m (s.c.word s.p+1)<4294967296:=⟨((hm.get (hm.lt_next s.hp)).2).1,by rw[← hmm];exact(hg.ring s.p s.hp).2⟩;have hw:=(hm.get (hm.lt_next s.hp)).1;have hrl:(ring s.c s.p m).length<=8:=by
  have:=pN (ld m (s.c.word s.p));rw[pO];omega
 have h2:Ev.At (kW s) 150 [(1,iN s.p),(2,.bool false),(4,s.lv),(5,pz b5),(11,pz bm)] [kC s b5,aj bm m] A1 w1:=⟨h1.sz,h1.df,ht,QI.sel [2,0]⟩;obtain⟨nx,KO⟩:∃ nx,nx=ld m (s.c.word s.p+1):=⟨_,rfl⟩;rw[← KO]at hnx hw;refine UO (nY s b5 bm 0 (.slice none 0 0) rfl [] nx (.slice none 0 0) rfl ⟨true,none⟩ m (.slice none 0 0) rfl [] 0 ⟨by simp,by simp,hnx⟩) hm hsz A1 w1 _ h2 ?_;intro κ3 A3 w3 h3;dsimp only at h3;have d6:ai (Ev.dv κ3 403)=true:=aV _;generalize Ev.dv κ3 403=al at h3 d6;have rest:∀ (KT:Value) (A4:Act) (w4:World),Ev.At (kW s) 150 (kT (.bool false) s b5 bm KT nx []) [kC s b5,kI KT (ring s.c s.p m++dU nx),aj bm m.tick] A4 w4->dL prog (kS [] 10) (kB s) A4 w4:=by
  intro KT A4 w4 h4;have QJ:ai KT=true:=aN (h4.hold.sel [1]);have hll:(ring s.c s.p m++dU nx).length<=64:=by
   rw[List.length_append];unfold dU
   split<;>simp<;>omega
  refine UQ (nY s b5 bm 0 KT QJ (ring s.c s.p m++dU nx) nx (.slice none 0 0) rfl ⟨true,none⟩ m.tick (.slice none 0 0) rfl [] 0 ⟨by omega,by simp,hnx⟩) A4 w4 _ h4 ?_;intro κ5 A5 w5 h5;dsimp only at h5;have ht:=h5.tm;obtain⟨bx,e5,hh⟩:=yn (h5.hold.sel [1,0,2,3]);rw[e5]at ht;have hI:iw s nx (ring s.c s.p m++dU nx) 0 false (cE s.c s.p 999) m.tick []:=by
   have e6:=ux (s:=s) GV hm.tick hsz (x:=cE s.c s.p 999) rfl (by simp[cD,cE]);rw[show ld m.tick (s.c.word s.p+1)=nx from KO.symm]at e6;exact e6
  exact yN s hll hnx hI rfl (A:=A5) (w:=w5) ⟨h5.sz,h5.df,ht,(hh.cJ (e := 3) (sz:=1)).sel [2,3,1,4,0]⟩
 by_cases h0:nx=0
 ·refine SB (nY s b5 bm 0 al d6 (ring s.c s.p m) nx (.slice none 0 0) rfl ⟨true,none⟩ m (.slice none 0 0) rfl [] 0 ⟨by omega,by simp,hnx⟩) hw h0 A3 w3 _ h3 ?_
  intro κ4 A4 w4 h4;refine rest al A4 w4 (h4.to (λq hq=>hq) (λhh=>?_));have e:dU nx=[]:=if_pos h0;rw[e,List.append_nil];exact hh.sel [0,2,1]
 ·refine Sz (nY s b5 bm 0 al d6 (ring s.c s.p m) nx (.slice none 0 0) rfl ⟨true,none⟩ m (.slice none 0 0) rfl [] 0 ⟨by omega,by simp,hnx⟩) hw h0 A3 w3 _ h3 ?_
  intro κ4 A4 w4 h4;refine rest _ A4 w4 (h4.to (λq hq=>hq) (λhh=>?_));have e:dU nx=[nx-1]:=if_neg h0;rw[e];exact(iO (ys:=[nx-1]) (hh.sel [2,0,1])).sel [1,0,2]
end Go.Proofs.YtbcnbofkgkheeaaGreat
namespace Go.Proofs.YtbcnbofkgkheeaaGreat
open Go.Ev Go.Proofs.Tryz
open Go.ChangeShapes Go.WideShapes Go.ChangeAt Go.RowKit Go.Deep
set_option maxRecDepth 100000
theorem rL(s:KL)(aJ:Bool):Calls prog 8 #[s.c0.v,.int .i64 s.p0,.bool aJ,s.bv,s.lv] s.W λe w'=>e=.returned (.bool true)/\Below s.W.heap.size s.W w':=by
 cases aJ with
 | true =>
  by_cases rF:s.bs.length>40
  ·exact mE (Ss s rF) (by kernel_rfl) (by simp) (by simp)
  by_cases GV:s.zs.length>30
  ·exact mE (Sw s rF GV) (by kernel_rfl) (by simp) (by simp)
  exact yM s (by omega) (by omega)
 | false =>
  by_cases rF:s.bs.length>40
  ·exact mE (Sv s rF) (by kernel_rfl) (by simp) (by simp)
  by_cases GV:s.zs.length>30
  ·exact mE (Sx s rF GV) (by kernel_rfl) (by simp) (by simp)
  exact yO s (by omega) (by omega)
end Go.Proofs.YtbcnbofkgkheeaaGreat
namespace Go.Proofs.YtbcnbofkgkheeaaGreat
open Go.Ev Go.Proofs.Tryz
open Go.RowKit
open Go.Ev (sy)
set_option maxRecDepth 8000
abbrev cA(rv:Value)(m:aG):aC:=aD 28 1 rv m.cells.length (aF m.cells)
theorem SQ{ctx:fQ}{w:World}{rv tk hd:Value}{m:aG}{ts hs:List Int}(h:ah ctx [cA rv m,aw tk ts,aw hd hs] w):∃ v cd,Ev.dec cd=v/\am 0 v=rv/\am 1 v=tk/\am 2 v=hd:=by
 obtain⟨a,ea⟩:=kD h;obtain⟨b,eb⟩:=kD (h.sel [1]);obtain⟨c,ec⟩:=kD (h.sel [2]);exact⟨_,_,DT (oL a (oL b c)),by rw[GY,ea],by rw[GZ,eb],by rw[Rf,ec]⟩
def p9(c:aT)(p:Nat)(x:cU)(tk hd:Value):Array Value:=#[.int .i64 (c.n:Int),.int .i64 (c.q:Int),.int .i64 c.g,.int .i64 c.m,.int .i64 c.t,.int .i64 c.s,.int .i64 (p:Int),.int .i64 x.gg,.int .i64 (x.st:Int),.int .u64 x.w,tk,hd]
theorem nq{w:World}{F:Nat->Prop}{c:aT}{p:Nat}(hp:p<c.n){x:cU}(hx:eC c x)(h0:x.st≠0){m:aG}(hm:bC c m){rv tk hd:Value}(h:bI [cA rv m,aw tk x.ts,aw hd x.hs] F w) :
  Calls prog 60 #[.agg (p9 c p x tk hd),.agg #[rv,.int .u64 m.ops]] w λe w'=>∃ v cd,Ev.dec cd=v/\e=.returned (.tuple #[.agg (p9 c p (af c p x m).1 (am 1 v) (am 2 v)),.agg #[am 0 v,.int .u64 (af c p x m).2.ops]])/\ah ⟨w,F⟩ [cA (am 0 v) (af c p x m).2,aw (am 1 v) (af c p x m).1.ts,aw (am 2 v) (af c p x m).1.hs] w':=by
 have hw:=hm.get (hm.en hp);have hq:=c.qb;have hst:=ah.start h;have lrv:ai rv=true:=aN hst;have cx:ai tk=true:=aN (hst.sel [1]);have cQ:ai hd=true:=aN (hst.sel [2]);have hb:=hm.big;have hts:=hx.ts;have hg:=hx.gg h0;have hl:=hm.len;have fin:∀ {x':cU} {m':aG} {rv' tk' hd':Value} {w1:World},ah ⟨w,F⟩ [cA rv' m',aw tk' x'.ts,aw hd' x'.hs] w1->∃ v cd,Ev.dec cd=v/\Ending.returned (.tuple #[.agg (p9 c p x' tk' hd'),.agg #[rv',.int .u64 m'.ops]])=.returned (.tuple #[.agg (p9 c p x' (am 1 v) (am 2 v)),.agg #[am 0 v,.int .u64 m'.ops]])/\ah ⟨w,F⟩ [cA (am 0 v) m',aw (am 1 v) x'.ts,aw (am 2 v) x'.hs] w1:=by
  intro x' m' rv' tk' hd' w1 hh;obtain⟨v,cd,e,e0,e1,e2⟩:=SQ hh;refine⟨v,cd,e,by rw[e0,e1,e2],?_⟩;rw[e0,e1,e2];exact hh
 obtain⟨st,gg,x0,ts,hs⟩:=x
 let s:S9:=⟨w,F,c,p,hp,gg,hg,x0,hx.w,rv,tk,hd,lrv,cx,cQ,m.cells,ts,hs,hl,by omega,by replace hts:ts.length<=c.q / 2:=hts;omega,m.ops⟩
 have vD:∀ (a:Nat) (v:Int),(m.put a v).cells.length=m.cells.length:=λa v=>by show(m.cells.set a v).length=_;simp
 match st,hx.st with
 | 0,_=>exact absurd rfl h0
 | 1,_ =>
  by_cases hz:cu (ld m (c.word p))≥(c.q:Int)
  ·rw[show af c p ⟨1,gg,x0,ts,hs⟩ m=(⟨4,gg,ld m (c.word p),[],hs⟩,m.tick) by simp only[af];rw[if_pos hz]]
   exact aB (WE s _ hw.2 hw.1 hz) (by kernel_rfl) h (by simp) (by simp[s,p9]) (λκ w1 h1=>fin (x':=⟨4,gg,ld m (c.word p),[],hs⟩) (m':=m.tick) (((h1.sel [0,2]).cJ (e := 3) (sz:=1)).sel [1,0,2]))
  ·rw[show af c p ⟨1,gg,x0,ts,hs⟩ m=(⟨2,gg,ld m (c.word p),[],hs⟩,m.tick) by simp only[af];rw[if_neg hz]]
   exact aB (WF s _ hw.2 hw.1 hz) (by kernel_rfl) h (by simp) (by simp[s,p9]) (λκ w1 h1=>fin (x':=⟨2,gg,ld m (c.word p),[],hs⟩) (m':=m.tick) (((h1.sel [0,2]).cJ (e := 3) (sz:=1)).sel [1,0,2]))
 | 2,_ =>
  refine aB (WG s (hm.lB hp _)) (by kernel_rfl) h (by simp) (by simp[s,p9]) (λκ w1 h1=>fin (x':=⟨3,gg,x0,ts,hs⟩) (m':=m.put (c.slot p (cq x0)) gg) ?_);show ah _ [aD _ 1 _ (m.put _ _).cells.length _,_,_] _;rw[vD];exact h1
 | 3,_ =>
  by_cases hz:ld m (c.word p)=x0
  ·rw[show af c p ⟨3,gg,x0,ts,hs⟩ m=(⟨0,gg,x0,ts,[]⟩,m.put (c.word p) (gF x0 1)) by simp only[af];rw[if_pos hz]]
   refine aB (WI s _ hw.2 hw.1 hz) (by kernel_rfl) h (by simp) (by simp[s,p9]) (λκ w1 h1=>fin (x':=⟨0,gg,x0,ts,[]⟩) (m':=m.put (c.word p) (gF x0 1)) ?_);show ah _ [aD _ 1 _ (m.put _ _).cells.length _,_,_] _;rw[vD];exact((h1.sel [0,1]).cJ (e := 3) (sz:=1)).sel [1,2,0]
  ·rw[show af c p ⟨3,gg,x0,ts,hs⟩ m=(⟨1,gg,x0,ts,hs⟩,m.tick) by simp only[af];rw[if_neg hz]]
   exact aB (WH s _ hw.2 hw.1 hz) (by kernel_rfl) h (by simp) (by simp[s,p9]) (λκ w1 h1=>fin (x':=⟨1,gg,x0,ts,hs⟩) (m':=m.tick) h1)
 | 4,_ =>
  have hw2:=hm.get (hm.lB hp (za c x0 ts.length));have ei:s.i4=za c x0 ts.length:=Nn c x0 ts.length;have hg2:m.cells[c.slot p s.i4]? = some (ld m (c.slot p (za c x0 ts.length))):=by rw[ei];exact hw2.1
  have il:∀ y:Int,(ts++[y]).length=ts.length+1:=λy=>by simp
  have ia:∀ y:Int,aO (ts++[y])=aO ts++[.int .i64 y]:=λy=>by simp[aO]
  by_cases hz:ts.length+1=c.q / 2
  ·rw[show af c p ⟨4,gg,x0,ts,hs⟩ m=(⟨5,gg,x0,ts++[IntKind.i64.wrap (ld m (c.slot p (za c x0 ts.length)))],hs⟩,m.tick) by simp only[af];rw[if_pos hz]]
   refine aB (WJ s _ hw2.2 hg2 (by exact congrArg Nat.cast hz)) (by kernel_rfl) h (by simp) (by simp[s,p9]) (λκ w1 h1=>fin (x':=⟨5,gg,x0,ts++[_],hs⟩) (m':=m.tick) ?_);show ah _ [_,aD _ 1 _ (ts++[_]).length (aO (ts++[_])),_] _;rw[il,ia];exact h1.sel [0,3,2]
  ·rw[show af c p ⟨4,gg,x0,ts,hs⟩ m=(⟨4,gg,x0,ts++[IntKind.i64.wrap (ld m (c.slot p (za c x0 ts.length)))],hs⟩,m.tick) by simp only[af];rw[if_neg hz]]
   refine aB (WK s _ hw2.2 hg2 (λe=>hz (Int.ofNat.inj e))) (by kernel_rfl) h (by simp) (by simp[s,p9]) (λκ w1 h1=>fin (x':=⟨4,gg,x0,ts++[_],hs⟩) (m':=m.tick) ?_);show ah _ [_,aD _ 1 _ (ts++[_]).length (aO (ts++[_])),_] _;rw[il,ia];exact h1.sel [0,3,2]
 | 5,_ =>
  have il:∀ y:Int,(ts++[y]).length=ts.length+1:=λy=>by simp
  have ia:∀ y:Int,aO (ts++[y])=aO ts++[.int .i64 y]:=λy=>by simp[aO]
  by_cases hz:ld m (c.word p)=x0
  ·rw[show af c p ⟨5,gg,x0,ts,hs⟩ m=(⟨0,gg,x0,ts,ts++[gg]⟩,m.put (c.word p) (gF x0 (-((c.q / 2:Nat):Int)))) by simp only[af];rw[if_pos hz]]
   refine aB (WM s _ hw.2 hw.1 hz) (by kernel_rfl) h (by simp) (by simp[s,p9]) (λκ w1 h1=>fin (x':=⟨0,gg,x0,ts,ts++[gg]⟩) (m':=m.put (c.word p) (gF x0 (-((c.q / 2:Nat):Int)))) ?_);show ah _ [aD _ 1 _ (m.put _ _).cells.length _,_,aD _ 1 _ (ts++[_]).length (aO (ts++[_]))] _;rw[vD,il,ia];exact h1.sel [0,1,3]
  ·rw[show af c p ⟨5,gg,x0,ts,hs⟩ m=(⟨1,gg,x0,ts,hs⟩,m.tick) by simp only[af];rw[if_neg hz]]
   exact aB (WL s _ hw.2 hw.1 hz) (by kernel_rfl) h (by simp) (by simp[s,p9]) (λκ w1 h1=>fin (x':=⟨1,gg,x0,ts,hs⟩) (m':=m.tick) h1)
end Go.Proofs.YtbcnbofkgkheeaaGreat
