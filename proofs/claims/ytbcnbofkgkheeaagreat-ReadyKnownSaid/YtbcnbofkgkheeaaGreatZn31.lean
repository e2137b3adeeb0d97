/- Part of a proof: see the last text. -/
import Derived.Test.YtbcnbofkgkheeaaGreatZn30
set_option linter.unusedSimpArgs false
set_option linter.unusedVariables false
namespace Go.Proofs.YtbcnbofkgkheeaaGreat
open Go.Ev Go.Proofs.Tryz
open Go.RowKit
open Go.Ev (sy)
set_option maxRecDepth 8000
attribute [local irreducible] dL
theorem XS.y7{x:XS}{m:aG}(hx:x.Ok m)(h:x.dm=true):x.aJ=true:=by
 obtain⟨xd,live⟩:=x;cases live with
 | none=>cases h
 | some y=>exact hx.1.symm.trans h
theorem XS.uM{x:XS}{m:aG}(hx:x.Ok m)(h:x.dm=false)(hd:x.aJ=true):x.aA=false/\x.yi 9=0:=by
 obtain⟨xd,live⟩:=x;cases live with
 | none=>exact⟨rfl,rfl⟩
 | some y =>
  have e:y.2.2.aJ=xd:=hx.1;have e2:y.2.2.aJ=false:=h;have e3:xd=true:=hd;rw[e2,e3]at e;cases e
theorem XS.calm{x:XS}(h:x.aA=false):x.yi 20=0:=by
 obtain⟨xd,live⟩:=x;cases live with
 | none=>rfl
 | some y =>
  obtain⟨c,p,k⟩:=y;obtain⟨aJ,gg,st,was,put⟩:=k;cases put with
  | none=>rfl
  | some z=>cases h
theorem XS.late{x:XS}{m:aG}(hx:x.Ok m)(h:x.aA=true):x.yi 9≠1/\x.yi 9≠2:=by
 obtain⟨xd,live⟩:=x;cases live with
 | none=>cases h
 | some y =>
  obtain⟨c,p,k⟩:=y;obtain⟨aJ,gg,st,was,put⟩:=k;cases put with
  | none=>cases h
  | some z =>
   have hp:=hx.2.2.1.Np;have h2:¬ (st=1\/st=2):=λhh=>by cases hp hh
   show((st:Nat):Int)≠1/\((st:Nat):Int)≠2;omega
theorem XS.still{x:XS}{m:aG}(hx:x.Ok m)(h:x.aA=true):(x.step m).1.aA=true:=by
 obtain⟨xd,live⟩:=x;cases live with
 | none=>cases h
 | some y =>
  obtain⟨c,p,k⟩:=y;obtain⟨aJ,gg,st,was,put⟩:=k;cases put with
  | none=>cases h
  | some z =>
   show(ae c p ⟨aJ,gg,st,was,some z⟩ m).1.put.isSome=true;unfold ae
   split
   ·rfl
   ·split
    ·rfl
    ·split<;>rfl
   ·rfl
   ·rfl
theorem XS.NV(x:XS)(m:aG):(x.step m).1.dm=x.dm:=by
 obtain⟨xd,live⟩:=x;cases live with
 | none=>rfl
 | some y=>exact iM
theorem ints_set(xs:List Int)(a:Nat)(v:Int):(aO xs).set (a*1) (.int .i64 v)=aO (xs.set a v):=by simp[aO,List.map_set]
theorem XS.GL{x:XS}{m:aG}(hx:x.Ok m):x.hands.length<=1000:=by
 have h:=XS.fv hx;cases hd:x.dm with
 | true =>
  rw[XS.gi (.inl hd)];omega
 | false =>
  by_cases h1:x.yi 9=1\/x.yi 9=2
  ·rw[XS.qW hd h1]
   exact(by decide:1<=1000)
  ·rw[XS.gi (.inr ⟨λe=>h1 (.inl e),λe=>h1 (.inr e)⟩)]
   omega
theorem XS.LH{x:XS}{m:aG}(hx:x.Ok m):x.over.length<=1000:=by
 have h:=XS.fv hx
 by_cases h0:x.yi 20=0
 ·rw[XS.hZ hx h0]
  omega
 ·rw[XS.yR hx h0]
  exact Nat.zero_le _
def iP(aJ:Bool)(bx:Nat):Value:=bif aJ then .iface 52 (.pointer (some ⟨bx,0,none⟩)) else .iface 42 (.pointer (some ⟨bx,0,none⟩))
theorem lK(aJ:Bool)(bx:Nat):ai (iP aJ bx)=true:=by cases aJ<;>rfl
abbrev rG(s:PL)(xv:Value)(yb bm br n:Nat):List (Nat×Value):=[(0,xv),(4,s.lv),(6,.pointer (some ⟨yb,0,none⟩)),(10,.bool false),(11,.pointer (some ⟨bm,0,none⟩)),(12,.pointer (some ⟨br,0,none⟩)),(13,.int .i64 ((n:Nat):Int))]
abbrev yB(yb:Nat)(x:XS)(d k:Bool)(tk hd:Value):aC:=aH yb (yL x d k tk hd) 49
abbrev rB(br:Nat)(rv:Value)(m:aG):aC:=aH br [rv,.int .u64 m.ops] 58
abbrev lQ(bx yb bm br:Nat)(x:XS)(m:aG)(rv tk hd:Value):List aC:=[yB yb x x.dm x.aA tk hd,rB br rv m,xA bx x,aj bm m,cA rv m,aw tk x.ts,aw hd x.hs]
abbrev Tw(s:PL){xv:Value}(dA:ai xv=true)(yb bm br n:Nat)(R:List aC)(j:Nat){vh vo:Value}(DL:ai vh=true)(DM:ai vo=true)(us:List Int)(Mf:us.length<=1000)(k0 bx:Nat)(x:XS)(m:aG){rv tk hd:Value}(lrv:ai rv=true)(cx:ai tk=true)(cQ:ai hd=true)(k:bu):PQ:=⟨s,xv,dA,yb,bm,br,n,R,j,vh,DL,vo,DM,us,Mf,k0,bx,x,m,rv,lrv,tk,cx,hd,cQ,k⟩
theorem eE:ai (.slice none 0 0)=true:=rfl
abbrev O8(s:PL){xv:Value}(dA:ai xv=true)(yb bm br n:Nat)(R:List aC)(j:Nat):PQ:=Tw s dA yb bm br n R j eE eE [] (Nat.zero_le _) 0 0 ⟨true,none⟩ ⟨[],0⟩ eE eE eE ⟨false,0,0⟩
abbrev SY(s:PL){xv:Value}(dA:ai xv=true)(yb bm br n:Nat)(R:List aC)(j:Nat){vh vo:Value}(DL:ai vh=true)(DM:ai vo=true)(us:List Int)(Mf:us.length<=1000)(k0:Nat):PQ:=Tw s dA yb bm br n R j DL DM us Mf k0 0 ⟨true,none⟩ ⟨[],0⟩ eE eE eE ⟨false,0,0⟩
abbrev LI(s:PL){xv:Value}(dA:ai xv=true)(yb bm br n:Nat)(R:List aC)(x:XS)(m:aG){rv tk hd:Value}(lrv:ai rv=true)(cx:ai tk=true)(cQ:ai hd=true)(k:bu):PQ:=Tw s dA yb bm br n R 0 eE eE [] (Nat.zero_le _) 0 0 x m lrv cx cQ k
abbrev pX(s:PL)(bx yb bm br n:Nat)(R:List aC)(j:Nat)(x:XS)(m:aG){rv tk hd:Value}(lrv:ai rv=true)(cx:ai tk=true)(cQ:ai hd=true):PQ:=Tw s eE yb bm br n R j eE eE [] (Nat.zero_le _) 0 bx x m lrv cx cQ ⟨false,0,0⟩
section
variable{s:PL}{bx yb bm br n:Nat}{x:XS}{m:aG}{rv tk hd:Value}{Q:Exit->Act->World->Prop}{A:Act}{w:World}
theorem LJ(hx:x.Ok m){j:Nat}(h:Ev.At ⟨s.W0,s.F0⟩ 157 (rG s (iP x.aJ bx) yb bm br n++[(14,.int .i64 ((j:Nat):Int))]) (lQ bx yb bm br x m rv tk hd) A w)
  (hok:∀ vh vo A1 w1,ai vh=true->ai vo=true->Ev.At ⟨s.W0,s.F0⟩ 157 (rG s (iP x.aJ bx) yb bm br n++[(14,.int .i64 ((j:Nat):Int)),(15,vh),(16,vo),(17,.int .i64 0)]) (aw vh x.hands::aw vo x.over::lQ bx yb bm br x m rv tk hd) A1 w1->dL prog (fM prog 13 [6,0,4,2,0,4] 4) Q A1 w1):dL prog (fM prog 13 [6,0,4,2,0,4] 0) Q A w:=by
 have hh:=h.hold;have lrv:ai rv=true:=aN (hh.sel [4]);have cx:ai tk=true:=aN (hh.sel [5]);have cQ:ai hd=true:=aN (hh.sel [6]);have hR:ah ⟨s.W0,s.F0⟩ [yB yb x x.dm x.aA tk hd,xA bx x,aw tk x.ts,aw hd x.hs,b_ [rB br rv m,aj bm m,cA rv m]] w:=(ah.shut (l:=[rB br rv m,aj bm m,cA rv m]) (m:=[yB yb x x.dm x.aA tk hd,xA bx x,aw tk x.ts,aw hd x.hs]) (hh.sel [1,3,4,0,2,5,6])).sel [1,2,3,4,0];have back:∀ {vh vo:Value} {d k:Bool} {w1:World},x.dm=d->x.aA=k->ah ⟨s.W0,s.F0⟩ [b_ [rB br rv m,aj bm m,cA rv m],yB yb x d k tk hd,aw vo x.over,aw hd x.hs,aw vh x.hands,xA bx x,aw tk x.ts] w1->ah ⟨s.W0,s.F0⟩ (aw vh x.hands::aw vo x.over::lQ bx yb bm br x m rv tk hd) w1:=by
  intro vh vo d k w1 hd' hk' h1;subst hd';subst hk';exact(ah.open (l:=[rB br rv m,aj bm m,cA rv m]) h1).sel [6,4,3,0,7,1,2,8,5]
 cases au:x.aJ with
 | true =>
  cases ce:x.dm with
  | true =>
   cases hk:x.aA with
   | false =>
    have hA2:=h.to (λq hq=>hq) (λ_=>hR);rw[au,ce,hk]at hA2;refine Lp (pX s bx yb bm br n _ j x m lrv cx cQ) hx ce au (XS.calm hk) A w _ hA2 ?_;intro κ A1 w1 hA1;refine hok (Ev.dec ((κ 403).getD 0)) (Ev.dec ((κ 407).getD 0)) A1 w1 (aV _) (aV _) ?_;rw[au];exact⟨hA1.sz,hA1.df,hA1.tm,back ce hk (hA1.hold.sel [6,0,1,2,3,4,5])⟩
   | true =>
    by_cases h20:x.yi 20=0
    ·
     have hA2:=h.to (λq hq=>hq) (λ_=>hR);rw[au,ce,hk]at hA2;refine Lq (pX s bx yb bm br n _ j x m lrv cx cQ) hx ce au h20 A w _ hA2 ?_;intro κ A1 w1 hA1;refine hok (Ev.dec ((κ 403).getD 0)) (Ev.dec ((κ 407).getD 0)) A1 w1 (aV _) (aV _) ?_;rw[au];exact⟨hA1.sz,hA1.df,hA1.tm,back ce hk (hA1.hold.sel [6,0,1,2,3,4,5])⟩
    ·
     have hA2:=h.to (λq hq=>hq) (λ_=>hR);rw[au,ce,hk]at hA2;refine Lr (pX s bx yb bm br n _ j x m lrv cx cQ) hx ce au h20 A w _ hA2 ?_;intro κ A1 w1 hA1;refine hok (Ev.dec ((κ 403).getD 0)) (Ev.dec ((κ 407).getD 0)) A1 w1 (aV _) (aV _) ?_;rw[au];exact⟨hA1.sz,hA1.df,hA1.tm,back ce hk (hA1.hold.sel [6,0,1,3,2,4,5])⟩
  | false =>
   obtain⟨hk,h9⟩:=XS.uM hx ce au;have hA2:=h.to (λq hq=>hq) (λ_=>hR);rw[au,ce,hk]at hA2;refine Ls (pX s bx yb bm br n _ j x m lrv cx cQ) hx ce au (show x.yi 9≠1/\x.yi 9≠2 by omega) (XS.calm hk) A w _ hA2 ?_;intro κ A1 w1 hA1;refine hok (Ev.dec ((κ 403).getD 0)) (Ev.dec ((κ 407).getD 0)) A1 w1 (aV _) (aV _) ?_;rw[au];exact⟨hA1.sz,hA1.df,hA1.tm,back ce hk (hA1.hold.sel [6,0,1,2,3,4,5])⟩
 | false =>
  have ce:x.dm=false:=by
   cases ce:x.dm with
   | false=>rfl
   | true=>rw[XS.y7 hx ce]at au;cases au
  cases hk:x.aA with
  | false =>
   by_cases h1:x.yi 9=1
   ·
    have hA2:=h.to (λq hq=>hq) (λ_=>hR);rw[au,ce,hk]at hA2;refine Lt (pX s bx yb bm br n _ j x m lrv cx cQ) hx ce au h1 (XS.calm hk) A w _ hA2 ?_;intro κ A1 w1 hA1;refine hok (Ev.dec ((κ 403).getD 0)) (Ev.dec ((κ 407).getD 0)) A1 w1 (aV _) (aV _) ?_;rw[au];exact⟨hA1.sz,hA1.df,hA1.tm,back ce hk (hA1.hold.sel [7,0,1,2,3,5,6])⟩
   ·by_cases h2:x.yi 9=2
    ·
     have hA2:=h.to (λq hq=>hq) (λ_=>hR);rw[au,ce,hk]at hA2;refine Lu (pX s bx yb bm br n _ j x m lrv cx cQ) hx ce au h2 (XS.calm hk) A w _ hA2 ?_;intro κ A1 w1 hA1;refine hok (Ev.dec ((κ 403).getD 0)) (Ev.dec ((κ 407).getD 0)) A1 w1 (aV _) (aV _) ?_;rw[au];exact⟨hA1.sz,hA1.df,hA1.tm,back ce hk (hA1.hold.sel [7,0,1,2,3,5,6])⟩
    ·
     have hA2:=h.to (λq hq=>hq) (λ_=>hR);rw[au,ce,hk]at hA2;refine Lw (pX s bx yb bm br n _ j x m lrv cx cQ) hx ce au ⟨h1,h2⟩ (XS.calm hk) A w _ hA2 ?_;intro κ A1 w1 hA1;refine hok (Ev.dec ((κ 403).getD 0)) (Ev.dec ((κ 407).getD 0)) A1 w1 (aV _) (aV _) ?_;rw[au];exact⟨hA1.sz,hA1.df,hA1.tm,back ce hk (hA1.hold.sel [6,0,1,2,3,4,5])⟩
  | true =>
   by_cases h20:x.yi 20=0
   ·
    have hA2:=h.to (λq hq=>hq) (λ_=>hR);rw[au,ce,hk]at hA2;refine Lx (pX s bx yb bm br n _ j x m lrv cx cQ) hx ce au (XS.late hx hk) h20 A w _ hA2 ?_;intro κ A1 w1 hA1;refine hok (Ev.dec ((κ 403).getD 0)) (Ev.dec ((κ 407).getD 0)) A1 w1 (aV _) (aV _) ?_;rw[au];exact⟨hA1.sz,hA1.df,hA1.tm,back ce hk (hA1.hold.sel [6,0,1,2,3,4,5])⟩
   ·
    have hA2:=h.to (λq hq=>hq) (λ_=>hR);rw[au,ce,hk]at hA2;refine Ly (pX s bx yb bm br n _ j x m lrv cx cQ) hx ce au (XS.late hx hk) h20 A w _ hA2 ?_;intro κ A1 w1 hA1;refine hok (Ev.dec ((κ 403).getD 0)) (Ev.dec ((κ 407).getD 0)) A1 w1 (aV _) (aV _) ?_;rw[au];exact⟨hA1.sz,hA1.df,hA1.tm,back ce hk (hA1.hold.sel [6,0,1,3,2,4,5])⟩
theorem GM{xv:Value}(dA:ai xv=true){vh vo:Value}(DL:ai vh=true)(DM:ai vo=true){j:Nat}{R:List aC}{xs:List Int}(hl:xs.length<=1000)(h:Ev.At ⟨s.W0,s.F0⟩ 157 (rG s xv yb bm br n++[(14,.int .i64 ((j:Nat):Int)),(15,vh),(16,vo),(17,.int .i64 (0))]) [b_ R,aw vh xs] A w)
  (hok:∀ A1 w1,Ev.At ⟨s.W0,s.F0⟩ 157 (rG s xv yb bm br n++[(14,.int .i64 ((j:Nat):Int)),(16,vo)]) [b_ R] A1 w1->dL prog (fM prog 13 [6,0,4,2,0,4] 5) Q A1 w1):dL prog (fM prog 13 [6,0,4,2,0,4] 4) Q A w:=by
 refine bY (id:=4) (by kernel_rfl) ?_;refine ek (by kernel_rfl) (λ(y:Nat×List Int) A w=>Ev.At ⟨s.W0,s.F0⟩ 157 (rG s xv yb bm br n++[(14,.int .i64 ((j:Nat):Int)),(15,vh),(16,vo),(17,.int .i64 (((y.1:Nat):Int)))]) [b_ R,aw vh y.2] A w/\y.1<=y.2.length/\y.2.length=xs.length) (λy=>xs.length-y.1) (x:=(0,xs)) ⟨h,Nat.zero_le _,rfl⟩ ?_;clear h;rintro⟨q,ys⟩ A w ⟨h,hq,hy⟩;replace hq:q<=ys.length:=hq;replace hy:ys.length=xs.length:=hy
 by_cases hlt:q<ys.length
 ·refine SU (SY s dA yb bm br n R j DL DM ys (by omega) q) hlt A w _ h ?_
  intro κ A1 w1 h1;refine bE (by kernel_rfl) ⟨(q+1,ys.set q 77),⟨h1.to (λq hq=>hq) (λhh=>?_),by show q+1<=(ys.set q 77).length;rw[List.length_set];exact hlt,by show(ys.set q 77).length=_;rw[List.length_set];exact hy⟩,by show xs.length-(q+1)<xs.length-q;omega⟩;show ah _ [b_ R,aD 3 1 vh (ys.set q 77).length (aO (ys.set q 77))] _;rw[List.length_set,← ints_set];exact hh
 ·refine SV (SY s dA yb bm br n R j DL DM ys (by omega) q) hlt A w _ h ?_
  intro κ A1 w1 h1;exact hok A1 w1 (h1.to (λq hq=>hq) (λhh=>hh.sel [0]))
theorem GN{xv:Value}(dA:ai xv=true){vh vo:Value}(DL:ai vh=true)(DM:ai vo=true){j:Nat}{R:List aC}{xs:List Int}(hl:xs.length<=1000)(h:Ev.At ⟨s.W0,s.F0⟩ 157 (rG s xv yb bm br n++[(14,.int .i64 ((j:Nat):Int)),(16,vo),(18,.int .i64 (0))]) [b_ R,aw vo xs] A w)
  (hok:∀ A1 w1,Ev.At ⟨s.W0,s.F0⟩ 157 (rG s xv yb bm br n++[(14,.int .i64 ((j:Nat):Int))]) [b_ R] A1 w1->dL prog (fM prog 13 [6,0,4,2,0,4] 7) Q A1 w1):dL prog (fM prog 13 [6,0,4,2,0,4] 6) Q A w:=by
 refine bY (id:=6) (by kernel_rfl) ?_;refine ek (by kernel_rfl) (λ(y:Nat×List Int) A w=>Ev.At ⟨s.W0,s.F0⟩ 157 (rG s xv yb bm br n++[(14,.int .i64 ((j:Nat):Int)),(16,vo),(18,.int .i64 (((y.1:Nat):Int)))]) [b_ R,aw vo y.2] A w/\y.1<=y.2.length/\y.2.length=xs.length) (λy=>xs.length-y.1) (x:=(0,xs)) ⟨h,Nat.zero_le _,rfl⟩ ?_;clear h;rintro⟨q,ys⟩ A w ⟨h,hq,hy⟩;replace hq:q<=ys.length:=hq;replace hy:ys.length=xs.length:=hy
 by_cases hlt:q<ys.length
 ·refine SW (SY s dA yb bm br n R j DL DM ys (by omega) q) hlt A w _ h ?_
  intro κ A1 w1 h1;refine bE (by kernel_rfl) ⟨(q+1,ys.set q 77),⟨h1.to (λq hq=>hq) (λhh=>?_),by show q+1<=(ys.set q 77).length;rw[List.length_set];exact hlt,by show(ys.set q 77).length=_;rw[List.length_set];exact hy⟩,by show xs.length-(q+1)<xs.length-q;omega⟩;show ah _ [b_ R,aD 3 1 vo (ys.set q 77).length (aO (ys.set q 77))] _;rw[List.length_set,← ints_set];exact hh
 ·refine SX (SY s dA yb bm br n R j DL DM ys (by omega) q) hlt A w _ h ?_
  intro κ A1 w1 h1;exact hok A1 w1 (h1.to (λq hq=>hq) (λhh=>hh.sel [0]))
theorem NW(hx:x.Ok m)(h:Ev.At ⟨s.W0,s.F0⟩ 157 (rG s (iP x.aJ bx) yb bm br n) (lQ bx yb bm br x m rv tk hd) A w)(hok:∀ A1 w1,Ev.At ⟨s.W0,s.F0⟩ 157 (rG s (iP x.aJ bx) yb bm br n) (lQ bx yb bm br x m rv tk hd) A1 w1->dL prog (fM prog 13 [6,0,4] 2) Q A1 w1):dL prog (fM prog 13 [6,0,4] 0) Q A w:=by
 have dA:=lK x.aJ bx;have h0:Ev.At ⟨s.W0,s.F0⟩ 157 (rG s (iP x.aJ bx) yb bm br n) [b_ (lQ bx yb bm br x m rv tk hd)] A w:=h.to (λq hq=>hq) (λhh=>ah.shut (l:=lQ bx yb bm br x m rv tk hd) (m:=[]) hh);refine Vi (O8 s dA yb bm br n _ 0) A w _ h0 ?_;intro κ A1 w1 h1;refine bY (id:=2) (by kernel_rfl) ?_;refine ek (by kernel_rfl) (λ(j:Nat) A w=>Ev.At ⟨s.W0,s.F0⟩ 157 (rG s (iP x.aJ bx) yb bm br n++[(14,.int .i64 ((j:Nat):Int))]) [b_ (lQ bx yb bm br x m rv tk hd)] A w/\j<=2) (λj=>2-j) (x:=0) ⟨h1,Nat.zero_le _⟩ ?_;clear h1 h0;rintro j A2 w2 ⟨h2,hj⟩
 by_cases hlt:j<2
 ·refine Vj (O8 s dA yb bm br n _ j) hlt A2 w2 _ h2 ?_
  intro κ A3 w3 h3;refine bY (id:=3) (by kernel_rfl) ?_;refine LJ hx (j:=j) (h3.to (λq hq=>hq) (λhh=>ah.open (l:=lQ bx yb bm br x m rv tk hd) (m:=[]) hh)) (λvh vo A4 w4 DL DM h4=>?_);refine GM dA DL DM (j:=j) (R:=aw vo x.over::lQ bx yb bm br x m rv tk hd) (XS.GL hx) (h4.to (λq hq=>hq) (λhh=>ah.shut (l:=aw vo x.over::lQ bx yb bm br x m rv tk hd) (m:=[aw vh x.hands]) (hh.sel [1,2,3,4,5,6,7,8,0]))) (λA5 w5 h5=>?_);refine XV (SY s dA yb bm br n _ j DL DM [] (Nat.zero_le _) 0) A5 w5 _ h5 ?_;intro κ A6 w6 h6;refine GN dA DL DM (j:=j) (R:=lQ bx yb bm br x m rv tk hd) (XS.LH hx) (h6.to (λq hq=>hq) (λhh=>ah.shut (l:=lQ bx yb bm br x m rv tk hd) (m:=[aw vo x.over]) ((ah.open (l:=aw vo x.over::lQ bx yb bm br x m rv tk hd) (m:=[]) hh).sel [1,2,3,4,5,6,7,0]))) (λA7 w7 h7=>?_);refine bE (by kernel_rfl) ?_;refine Vl (O8 s dA yb bm br n _ j) hlt A7 w7 _ h7 ?_;intro κ A8 w8 h8;exact bE (by kernel_rfl) ⟨j+1,⟨h8,hlt⟩,by omega⟩
 ·refine Vk (O8 s dA yb bm br n _ j) hlt A2 w2 _ h2 ?_
  intro κ A3 w3 h3;exact hok A3 w3 (h3.to (λq hq=>hq) (λhh=>ah.open (l:=lQ bx yb bm br x m rv tk hd) (m:=[]) hh))
theorem NY(hx:x.Ok m)(hm:ip m)(h:Ev.At ⟨s.W0,s.F0⟩ 157 (rG s (iP x.aJ bx) yb bm br n) (lQ bx yb bm br x m rv tk hd) A w)(hok:∀ A1 w1,Ev.At ⟨s.W0,s.F0⟩ 157 (rG s (iP x.aJ bx) yb bm br n) (lQ bx yb bm br x m rv tk hd) A1 w1->dL prog (fM prog 13 [6,0,4] 4) Q A1 w1):dL prog (fM prog 13 [6,0,4] 2) Q A w:=by
 have hl:=hm.len;have hh:=h.hold;have lrv:ai rv=true:=aN (hh.sel [4]);have cx:ai tk=true:=aN (hh.sel [5]);have cQ:ai hd=true:=aN (hh.sel [6]);have hR:ah ⟨s.W0,s.F0⟩ [yB yb x x.dm x.aA tk hd,rB br rv m,xA bx x,aj bm m,cA rv m,b_ [aw tk x.ts,aw hd x.hs]] w:=(ah.shut (l:=[aw tk x.ts,aw hd x.hs]) (m:=[yB yb x x.dm x.aA tk hd,rB br rv m,xA bx x,aj bm m,cA rv m]) (hh.sel [5,6,0,1,2,3,4])).sel [1,2,3,4,5,0];have back:∀ {d k:Bool} {w1:World},x.dm=d->x.aA=k->ah ⟨s.W0,s.F0⟩ [yB yb x d k tk hd,rB br rv m,aj bm m,cA rv m,xA bx x,b_ [aw tk x.ts,aw hd x.hs]] w1->ah ⟨s.W0,s.F0⟩ (lQ bx yb bm br x m rv tk hd) w1:=by
  intro d k w1 hd' hk' h1;subst hd';subst hk';exact(ah.open (l:=[aw tk x.ts,aw hd x.hs]) (h1.sel [5,0,1,2,3,4])).sel [2,3,6,4,5,0,1]
 cases au:x.aJ with
 | true =>
  cases ce:x.dm with
  | true =>
   cases hk:x.aA with
   | false =>
    by_cases hz:x.yi 9=0
    ·
     have hA2:=h.to (λq hq=>hq) (λ_=>hR);rw[au,ce,hk]at hA2;refine NA (pX s bx yb bm br n _ 0 x m lrv cx cQ) hx (show m.cells.length<=1000000 by omega) au hk hz A w _ hA2 ?_;intro κ A1 w1 hA1;refine hok A1 w1 ?_;rw[au];exact⟨hA1.sz,hA1.df,hA1.tm,back ce hk hA1.hold⟩
    ·
     have hA2:=h.to (λq hq=>hq) (λ_=>hR);rw[au,ce,hk]at hA2;refine NB (pX s bx yb bm br n _ 0 x m lrv cx cQ) hx (show m.cells.length<=1000000 by omega) au hk hz A w _ hA2 ?_;intro κ A1 w1 hA1;refine hok A1 w1 ?_;rw[au];exact⟨hA1.sz,hA1.df,hA1.tm,back ce hk hA1.hold⟩
   | true =>
    by_cases hz:x.yi 9=0
    ·
     have hA2:=h.to (λq hq=>hq) (λ_=>hR);rw[au,ce,hk]at hA2;refine NC (pX s bx yb bm br n _ 0 x m lrv cx cQ) hx (show m.cells.length<=1000000 by omega) au hk hz A w _ hA2 ?_;intro κ A1 w1 hA1;refine hok A1 w1 ?_;rw[au];exact⟨hA1.sz,hA1.df,hA1.tm,back ce hk hA1.hold⟩
    ·
     have hA2:=h.to (λq hq=>hq) (λ_=>hR);rw[au,ce,hk]at hA2;refine ND (pX s bx yb bm br n _ 0 x m lrv cx cQ) hx (show m.cells.length<=1000000 by omega) au hk hz A w _ hA2 ?_;intro κ A1 w1 hA1;refine hok A1 w1 ?_;rw[au];exact⟨hA1.sz,hA1.df,hA1.tm,back ce hk hA1.hold⟩
  | false =>
   obtain⟨hk,h9⟩:=XS.uM hx ce au
   by_cases hz:x.yi 9=0
   ·
    have hA2:=h.to (λq hq=>hq) (λ_=>hR);rw[au,ce,hk]at hA2;refine NE (pX s bx yb bm br n _ 0 x m lrv cx cQ) hx (show m.cells.length<=1000000 by omega) au hk hz A w _ hA2 ?_;intro κ A1 w1 hA1;refine hok A1 w1 ?_;rw[au];exact⟨hA1.sz,hA1.df,hA1.tm,back ce hk hA1.hold⟩
   ·
    have hA2:=h.to (λq hq=>hq) (λ_=>hR);rw[au,ce,hk]at hA2;refine NF (pX s bx yb bm br n _ 0 x m lrv cx cQ) hx (show m.cells.length<=1000000 by omega) au hk hz A w _ hA2 ?_;intro κ A1 w1 hA1;refine hok A1 w1 ?_;rw[au];exact⟨hA1.sz,hA1.df,hA1.tm,back ce hk hA1.hold⟩
 | false =>
  have ce:x.dm=false:=by
   cases ce:x.dm with
   | false=>rfl
   | true=>rw[XS.y7 hx ce]at au;cases au
  cases hk:x.aA with
  | false =>
   by_cases hz:x.yi 9=0
   ·
    have hA2:=h.to (λq hq=>hq) (λ_=>hR);rw[au,ce,hk]at hA2;refine NG (pX s bx yb bm br n _ 0 x m lrv cx cQ) hx (show m.cells.length<=1000000 by omega) au hk hz A w _ hA2 ?_;intro κ A1 w1 hA1;refine hok A1 w1 ?_;rw[au];exact⟨hA1.sz,hA1.df,hA1.tm,back ce hk hA1.hold⟩
   ·
    have hA2:=h.to (λq hq=>hq) (λ_=>hR);rw[au,ce,hk]at hA2;refine NH (pX s bx yb bm br n _ 0 x m lrv cx cQ) hx (show m.cells.length<=1000000 by omega) au hk hz A w _ hA2 ?_;intro κ A1 w1 hA1;refine hok A1 w1 ?_;rw[au];exact⟨hA1.sz,hA1.df,hA1.tm,back ce hk hA1.hold⟩
  | true =>
   by_cases hz:x.yi 9=0
   ·
    have hA2:=h.to (λq hq=>hq) (λ_=>hR);rw[au,ce,hk]at hA2;refine NI (pX s bx yb bm br n _ 0 x m lrv cx cQ) hx (show m.cells.length<=1000000 by omega) au hk hz A w _ hA2 ?_;intro κ A1 w1 hA1;refine hok A1 w1 ?_;rw[au];exact⟨hA1.sz,hA1.df,hA1.tm,back ce hk hA1.hold⟩
   ·
    have hA2:=h.to (λq hq=>hq) (λ_=>hR);rw[au,ce,hk]at hA2;refine NJ (pX s bx yb bm br n _ 0 x m lrv cx cQ) hx (show m.cells.length<=1000000 by omega) au hk hz A w _ hA2 ?_;intro κ A1 w1 hA1;refine hok A1 w1 ?_;rw[au];exact⟨hA1.sz,hA1.df,hA1.tm,back ce hk hA1.hold⟩
theorem NZ(hx:x.Ok m)(hm:ip m)(h:Ev.At ⟨s.W0,s.F0⟩ 157 (rG s (iP x.aJ bx) yb bm br n) (lQ bx yb bm br x m rv tk hd) A w)(hok:∀ N0 tk2 hd2 A1 w1,Ev.At ⟨s.W0,s.F0⟩ 157 (rG s (iP x.aJ bx) yb bm br n++[(19,.int .u64 m.ops)]) ([yB yb (x.step m).1 (x.step m).1.dm (x.step m).1.aA tk2 hd2,rB br N0 (x.step m).2,xA bx x,aj bm m,cA N0 (x.step m).2,aw tk2 (x.step m).1.ts,aw hd2 (x.step m).1.hs]) A1 w1->dL prog (fM prog 13 [6,0,4] 10) Q A1 w1):dL prog (fM prog 13 [6,0,4] 6) Q A w:=by
 have hl:=hm.len;have hh:=h.hold;have lrv:ai rv=true:=aN (hh.sel [4]);have cx:ai tk=true:=aN (hh.sel [5]);have cQ:ai hd=true:=aN (hh.sel [6]);have dA:=lK x.aJ bx;have hR:ah ⟨s.W0,s.F0⟩ [yB yb x x.dm x.aA tk hd,rB br rv m,aj bm m,cA rv m,aw tk x.ts,aw hd x.hs,b_ [xA bx x]] w:=(ah.shut (l:=[xA bx x]) (m:=[yB yb x x.dm x.aA tk hd,rB br rv m,aj bm m,cA rv m,aw tk x.ts,aw hd x.hs]) (hh.sel [2,0,1,3,4,5,6])).sel [1,2,3,4,5,6,0];have back:∀ {N0 tk2 hd2:Value} {d k:Bool} {w1:World},x.dm=d->(x.step m).1.aA=k->ah ⟨s.W0,s.F0⟩ [yB yb (x.step m).1 d k tk2 hd2,rB br N0 (x.step m).2,cA N0 (x.step m).2,aw tk2 (x.step m).1.ts,aw hd2 (x.step m).1.hs,aj bm m,b_ [xA bx x]] w1->ah ⟨s.W0,s.F0⟩ ([yB yb (x.step m).1 (x.step m).1.dm (x.step m).1.aA tk2 hd2,rB br N0 (x.step m).2,xA bx x,aj bm m,cA N0 (x.step m).2,aw tk2 (x.step m).1.ts,aw hd2 (x.step m).1.hs]) w1:=by
  intro N0 tk2 hd2 d k w1 hd' hk' h1;subst hd';subst hk';rw[XS.NV];exact(ah.open (l:=[xA bx x]) (h1.sel [6,0,1,2,3,4,5])).sel [1,2,0,6,3,4,5]
 cases ce:x.dm with
 | true =>
  cases hk:x.aA with
  | false =>
   cases hk2:(x.step m).1.aA with
   | false =>
    have hA2:=h.to (λq hq=>hq) (λ_=>hR);rw[ce,hk]at hA2;refine QL (LI s dA yb bm br n _ x m lrv cx cQ ⟨false,0,0⟩) hx (show m.cells.length<=1000000 by omega) hm ce hk hk2 A w _ hA2 ?_;intro κ A1 w1 hA1;exact hok _ _ _ A1 w1 ⟨hA1.sz,hA1.df,hA1.tm,back ce hk2 hA1.hold⟩
   | true =>
    have hA2:=h.to (λq hq=>hq) (λ_=>hR);rw[ce,hk]at hA2;refine QM (LI s dA yb bm br n _ x m lrv cx cQ ⟨false,0,0⟩) hx (show m.cells.length<=1000000 by omega) hm ce hk hk2 A w _ hA2 ?_;intro κ A1 w1 hA1;exact hok _ _ _ A1 w1 ⟨hA1.sz,hA1.df,hA1.tm,back ce hk2 hA1.hold⟩
  | true =>
   have hk2:=XS.still hx hk;have hA2:=h.to (λq hq=>hq) (λ_=>hR);rw[ce,hk]at hA2;refine QN (LI s dA yb bm br n _ x m lrv cx cQ ⟨false,0,0⟩) hx (show m.cells.length<=1000000 by omega) hm ce hk hk2 A w _ hA2 ?_;intro κ A1 w1 hA1;exact hok _ _ _ A1 w1 ⟨hA1.sz,hA1.df,hA1.tm,back ce hk2 hA1.hold⟩
 | false =>
  cases hk:x.aA with
  | false =>
   cases hk2:(x.step m).1.aA with
   | false =>
    have hA2:=h.to (λq hq=>hq) (λ_=>hR);rw[ce,hk]at hA2;refine QO (LI s dA yb bm br n _ x m lrv cx cQ ⟨false,0,0⟩) hx (show m.cells.length<=1000000 by omega) hm ce hk hk2 A w _ hA2 ?_;intro κ A1 w1 hA1;exact hok _ _ _ A1 w1 ⟨hA1.sz,hA1.df,hA1.tm,back ce hk2 hA1.hold⟩
   | true =>
    have hA2:=h.to (λq hq=>hq) (λ_=>hR);rw[ce,hk]at hA2;refine QP (LI s dA yb bm br n _ x m lrv cx cQ ⟨false,0,0⟩) hx (show m.cells.length<=1000000 by omega) hm ce hk hk2 A w _ hA2 ?_;intro κ A1 w1 hA1;exact hok _ _ _ A1 w1 ⟨hA1.sz,hA1.df,hA1.tm,back ce hk2 hA1.hold⟩
  | true =>
   have hk2:=XS.still hx hk;have hA2:=h.to (λq hq=>hq) (λ_=>hR);rw[ce,hk]at hA2;refine QQ (LI s dA yb bm br n _ x m lrv cx cQ ⟨false,0,0⟩) hx (show m.cells.length<=1000000 by omega) hm ce hk hk2 A w _ hA2 ?_;intro κ A1 w1 hA1;exact hok _ _ _ A1 w1 ⟨hA1.sz,hA1.df,hA1.tm,back ce hk2 hA1.hold⟩
theorem SZ(hx:x.Ok m)(hm:ip m)(ho:0<=m.ops/\m.ops<=100000)(h:Ev.At ⟨s.W0,s.F0⟩ 157 (rG s (iP x.aJ bx) yb bm br n++[(19,.int .u64 m.ops)]) ([yB yb (x.step m).1 (x.step m).1.dm (x.step m).1.aA tk hd,rB br rv (x.step m).2,xA bx x,aj bm m,cA rv (x.step m).2,aw tk (x.step m).1.ts,aw hd (x.step m).1.hs]) A w)(hok:∀ A1 w1,Ev.At ⟨s.W0,s.F0⟩ 157 (rG s (iP x.aJ bx) yb bm br n) (lQ bx yb bm br (x.step m).1 (x.step m).2 rv tk hd) A1 w1->dL prog (fM prog 13 [6,0,4] 12) Q A1 w1):dL prog (fM prog 13 [6,0,4] 10) Q A w:=by
 have hl:=hm.len;have hh:=h.hold;have lrv:ai rv=true:=aN (hh.sel [4]);have cx:ai tk=true:=aN (hh.sel [5]);have cQ:ai hd=true:=aN (hh.sel [6]);have hR:ah ⟨s.W0,s.F0⟩ [yB yb (x.step m).1 (x.step m).1.dm (x.step m).1.aA tk hd,rB br rv (x.step m).2,xA bx x,aj bm m,b_ [cA rv (x.step m).2,aw tk (x.step m).1.ts,aw hd (x.step m).1.hs]] w:=(ah.shut (l:=[cA rv (x.step m).2,aw tk (x.step m).1.ts,aw hd (x.step m).1.hs]) (m:=[yB yb (x.step m).1 (x.step m).1.dm (x.step m).1.aA tk hd,rB br rv (x.step m).2,xA bx x,aj bm m]) (hh.sel [4,5,6,0,1,2,3])).sel [1,2,3,4,0];have back:∀ {d k:Bool} {w1:World},(x.step m).1.dm=d->(x.step m).1.aA=k->ah ⟨s.W0,s.F0⟩ [yB yb (x.step m).1 d k tk hd,rB br rv (x.step m).2,xA bx (x.step m).1,aj bm (x.step m).2,b_ [cA rv (x.step m).2,aw tk (x.step m).1.ts,aw hd (x.step m).1.hs]] w1->ah ⟨s.W0,s.F0⟩ (lQ bx yb bm br (x.step m).1 (x.step m).2 rv tk hd) w1:=by
  intro d k w1 hd' hk' h1;subst hd';subst hk';exact(ah.open (l:=[cA rv (x.step m).2,aw tk (x.step m).1.ts,aw hd (x.step m).1.hs]) (h1.sel [4,0,1,2,3])).sel [3,4,5,6,0,1,2]
 have hso:=XS.step_ok hx hm;cases au:x.aJ with
 | true =>
  cases ce:(x.step m).1.dm with
  | true =>
   cases hk:(x.step m).1.aA with
   | false =>
    by_cases hz:(x.step m).1.yi 9=0
    ·
     have hA2:=h.to (λq hq=>hq) (λ_=>hR);rw[au,ce,hk]at hA2;refine NK (pX s bx yb bm br n _ 0 x m lrv cx cQ) hx (show m.cells.length<=1000000 by omega) au hz ho A w _ hA2 ?_;intro κ A1 w1 hA1;refine hok A1 w1 ?_;rw[au];exact⟨hA1.sz,hA1.df,hA1.tm,back ce hk hA1.hold⟩
    ·
     have hA2:=h.to (λq hq=>hq) (λ_=>hR);rw[au,ce,hk]at hA2;refine NL (pX s bx yb bm br n _ 0 x m lrv cx cQ) hx (show m.cells.length<=1000000 by omega) au hz ho A w _ hA2 ?_;intro κ A1 w1 hA1;refine hok A1 w1 ?_;rw[au];exact⟨hA1.sz,hA1.df,hA1.tm,back ce hk hA1.hold⟩
   | true =>
    by_cases hz:(x.step m).1.yi 9=0
    ·
     have hA2:=h.to (λq hq=>hq) (λ_=>hR);rw[au,ce,hk]at hA2;refine NM (pX s bx yb bm br n _ 0 x m lrv cx cQ) hx (show m.cells.length<=1000000 by omega) au hz ho A w _ hA2 ?_;intro κ A1 w1 hA1;refine hok A1 w1 ?_;rw[au];exact⟨hA1.sz,hA1.df,hA1.tm,back ce hk hA1.hold⟩
    ·
     have hA2:=h.to (λq hq=>hq) (λ_=>hR);rw[au,ce,hk]at hA2;refine NN (pX s bx yb bm br n _ 0 x m lrv cx cQ) hx (show m.cells.length<=1000000 by omega) au hz ho A w _ hA2 ?_;intro κ A1 w1 hA1;refine hok A1 w1 ?_;rw[au];exact⟨hA1.sz,hA1.df,hA1.tm,back ce hk hA1.hold⟩
  | false =>
   obtain⟨hk,h9⟩:=XS.uM hso.1 ce (hso.2.2.trans au)
   by_cases hz:(x.step m).1.yi 9=0
   ·
    have hA2:=h.to (λq hq=>hq) (λ_=>hR);rw[au,ce,hk]at hA2;refine NP (pX s bx yb bm br n _ 0 x m lrv cx cQ) hx (show m.cells.length<=1000000 by omega) au hz ho A w _ hA2 ?_;intro κ A1 w1 hA1;refine hok A1 w1 ?_;rw[au];exact⟨hA1.sz,hA1.df,hA1.tm,back ce hk hA1.hold⟩
   ·
    have hA2:=h.to (λq hq=>hq) (λ_=>hR);rw[au,ce,hk]at hA2;refine NQ (pX s bx yb bm br n _ 0 x m lrv cx cQ) hx (show m.cells.length<=1000000 by omega) au hz ho A w _ hA2 ?_;intro κ A1 w1 hA1;refine hok A1 w1 ?_;rw[au];exact⟨hA1.sz,hA1.df,hA1.tm,back ce hk hA1.hold⟩
 | false =>
  have ce:(x.step m).1.dm=false:=by
   cases ce:(x.step m).1.dm with
   | false=>rfl
   | true=>rw[← hso.2.2,XS.y7 hso.1 ce]at au;cases au
  cases hk:(x.step m).1.aA with
  | false =>
   by_cases hz:(x.step m).1.yi 9=0
   ·
    have hA2:=h.to (λq hq=>hq) (λ_=>hR);rw[au,ce,hk]at hA2;refine NR (pX s bx yb bm br n _ 0 x m lrv cx cQ) hx (show m.cells.length<=1000000 by omega) au hz ho A w _ hA2 ?_;intro κ A1 w1 hA1;refine hok A1 w1 ?_;rw[au];exact⟨hA1.sz,hA1.df,hA1.tm,back ce hk hA1.hold⟩
   ·
    have hA2:=h.to (λq hq=>hq) (λ_=>hR);rw[au,ce,hk]at hA2;refine NS (pX s bx yb bm br n _ 0 x m lrv cx cQ) hx (show m.cells.length<=1000000 by omega) au hz ho A w _ hA2 ?_;intro κ A1 w1 hA1;refine hok A1 w1 ?_;rw[au];exact⟨hA1.sz,hA1.df,hA1.tm,back ce hk hA1.hold⟩
  | true =>
   by_cases hz:(x.step m).1.yi 9=0
   ·
    have hA2:=h.to (λq hq=>hq) (λ_=>hR);rw[au,ce,hk]at hA2;refine NT (pX s bx yb bm br n _ 0 x m lrv cx cQ) hx (show m.cells.length<=1000000 by omega) au hz ho A w _ hA2 ?_;intro κ A1 w1 hA1;refine hok A1 w1 ?_;rw[au];exact⟨hA1.sz,hA1.df,hA1.tm,back ce hk hA1.hold⟩
   ·
    have hA2:=h.to (λq hq=>hq) (λ_=>hR);rw[au,ce,hk]at hA2;refine NU (pX s bx yb bm br n _ 0 x m lrv cx cQ) hx (show m.cells.length<=1000000 by omega) au hz ho A w _ hA2 ?_;intro κ A1 w1 hA1;refine hok A1 w1 ?_;rw[au];exact⟨hA1.sz,hA1.df,hA1.tm,back ce hk hA1.hold⟩
theorem N1(hx:x.Ok m)(hm:ip m)(ho:0<=m.ops/\m.ops<=100000)(hn:n<s.ps.length)(h:Ev.At ⟨s.W0,s.F0⟩ 157 (rG s (iP x.aJ bx) yb bm br n) (lQ bx yb bm br x m rv tk hd) A w)
  (hok:∀ m' rv' A1 w1,x.Ok m'->ip m'->0<=m'.ops/\m'.ops<=m.ops+1->Ev.At ⟨s.W0,s.F0⟩ 157 (rG s (iP x.aJ bx) yb bm br n) (lQ bx yb bm br x m' rv' tk hd) A1 w1->dL prog (fM prog 13 [6,0,4] 14) Q A1 w1):dL prog (fM prog 13 [6,0,4] 12) Q A w:=by
 have hl:=hm.len;have hh:=h.hold;have lrv:ai rv=true:=aN (hh.sel [4]);have dA:=lK x.aJ bx
 let R:List aC:=[yB yb x x.dm x.aA tk hd,xA bx x,aw tk x.ts,aw hd x.hs]
 have hR:ah ⟨s.W0,s.F0⟩ [rB br rv m,aj bm m,cA rv m,b_ R] w:=(ah.shut (l:=[yB yb x x.dm x.aA tk hd,xA bx x,aw tk x.ts,aw hd x.hs]) (m:=[rB br rv m,aj bm m,cA rv m]) (hh.sel [0,2,5,6,1,3,4])).sel [1,2,3,0];have back:∀ {rv':Value} {m':aG} {w1:World},ah ⟨s.W0,s.F0⟩ [rB br rv' m',aj bm m',cA rv' m',b_ R] w1->ah ⟨s.W0,s.F0⟩ (lQ bx yb bm br x m' rv' tk hd) w1:=by
  intro rv' m' w1 h1;exact(ah.open (l:=[yB yb x x.dm x.aA tk hd,xA bx x,aw tk x.ts,aw hd x.hs]) (h1.sel [3,0,1,2])).sel [0,4,1,5,6,2,3]
 have hA2:=h.to (λq hq=>hq) (λ_=>hR);have hk:s.ps[n]? = some s.ps[n]:=List.getElem?_eq_getElem hn;generalize s.ps[n]=k at hk;have hv:c7 k.v:=s.hv k (List.mem_of_getElem? hk);cases hon:k.on with
 | false =>
  refine Vo (LI s dA yb bm br n _ x m lrv eE eE k) (show m.cells.length<=1000000 by omega) hn hk hon A w _ hA2 ?_;intro κ A1 w1 hA1;exact hok m rv A1 w1 hx hm (by omega) ⟨hA1.sz,hA1.df,hA1.tm,back hA1.hold⟩
 | true =>
  by_cases h0:m.cells.length>0
  ·refine Vq (LI s dA yb bm br n _ x m lrv eE eE k) (show m.cells.length<=1000000 by omega) hn hk hon h0 A w _ hA2 ?_
   intro κ A1 w1 hA1;have e:IntKind.u64.wrap (m.ops+1)=m.ops+1:=uj (by omega) (by omega);refine hok (m.put (pick k.at' (m.cells.length:Int)).toNat k.v) (Ev.dec ((κ 407).getD 0)) A1 w1 (XS.Qs hx _ hv) (hm.put _ hv) ?_ ⟨hA1.sz,hA1.df,hA1.tm,back ?_⟩
   ·show 0<=IntKind.u64.wrap (m.ops+1)/\IntKind.u64.wrap (m.ops+1)<=m.ops+1
    omega
   ·have h3:=hA1.hold.sel [0,2,1,3]
    have el:(m.put (pick k.at' (m.cells.length:Int)).toNat k.v).cells.length=m.cells.length:=by show(m.cells.set _ _).length=_;simp
    show ah _ [_,_,aD _ 1 _ (m.put _ _).cells.length _,_] _;rw[el];exact h3
  ·refine Vp (LI s dA yb bm br n _ x m lrv eE eE k) (show m.cells.length<=1000000 by omega) hn hk hon h0 A w _ hA2 ?_
   intro κ A1 w1 hA1;exact hok m rv A1 w1 hx hm (by omega) ⟨hA1.sz,hA1.df,hA1.tm,back hA1.hold⟩
end
structure da(x:XS)(c:Cf):Prop where
 ok:∀ us,Fi c us->x.Ok ⟨us,((c.cn:Nat):Int)⟩
 aA:x.aA=false
 ts:x.ts=[]
 hs:x.hs=[]
theorem LK{s:PL}{bx yb bm br n:Nat}{x:XS}{m:aG}{rv tk hd:Value}{Q:Exit->Act->World->Prop}{A:Act}{w:World}(hx:x.Ok m)(hm:ip m)(ho:0<=m.ops/\m.ops<=1000+2*(n:Int))(hn:n<=s.ps.length)(h:Ev.At ⟨s.W0,s.F0⟩ 157 (rG s (iP x.aJ bx) yb bm br n) (lQ bx yb bm br x m rv tk hd) A w)
  (hend:∀ A1 w1,Ev.At ⟨s.W0,s.F0⟩ 157 [(10,.bool true)] [] A1 w1->Q .ret A1 w1)
  (hgo:∀ x' m' rv' tk' hd' A1 w1,n<s.ps.length->x'.Ok m'->ip m'->x'.aJ=x.aJ->0<=m'.ops/\m'.ops<=1000+2*((n+1:Nat):Int)->Ev.At ⟨s.W0,s.F0⟩ 157 (rG s (iP x'.aJ bx) yb bm br n) (lQ bx yb bm br x' m' rv' tk' hd') A1 w1->dL prog (fM prog 13 [6,0,4] 14) Q A1 w1) :
  dL prog (fM prog 13 [6,0,4] 0) Q A w:=by
 have dA:=lK x.aJ bx;have hlen:=s.hlen;refine NW hx h (λA1 w1 h1=>?_);refine NY hx hm h1 (λA2 w2 h2=>?_);have g2:Ev.At ⟨s.W0,s.F0⟩ 157 (rG s (iP x.aJ bx) yb bm br n) [b_ (lQ bx yb bm br x m rv tk hd)] A2 w2:=h2.to (λq hq=>hq) (λhh=>ah.shut (l:=lQ bx yb bm br x m rv tk hd) (m:=[]) hh);rcases Nat.lt_or_ge n s.ps.length with hlt | hge
 ·refine Vn (O8 s dA yb bm br n _ 0) hlt A2 w2 _ g2 ?_
  intro κ A3 w3 h3;have g3:Ev.At ⟨s.W0,s.F0⟩ 157 (rG s (iP x.aJ bx) yb bm br n) (lQ bx yb bm br x m rv tk hd) A3 w3:=h3.to (λq hq=>hq) (λhh=>ah.open (l:=lQ bx yb bm br x m rv tk hd) (m:=[]) hh);refine NZ hx hm g3 (λN0 tk2 hd2 A4 w4 h4=>?_);refine SZ hx hm ⟨ho.1,by omega⟩ h4 (λA5 w5 h5=>?_);have hs:=XS.step_ok hx hm;have hop:=x.dK (m:=m) ⟨ho.1,by omega⟩;rw[← hs.2.2]at h5;refine N1 hs.1 hs.2.1 ⟨by omega,by omega⟩ hlt h5 (λm' rv' A6 w6 hx' hm' ho' h6=>?_);exact hgo _ m' rv' tk2 hd2 A6 w6 hlt hx' hm' hs.2.2 ⟨ho'.1,by omega⟩ h6
 ·obtain rfl:n=s.ps.length:=by omega
  refine Vm (O8 s dA yb bm br _ _ 0) rfl A2 w2 _ g2 ?_;intro κ A3 w3 h3;exact hend A3 w3 (h3.to (λq hq=>hq) (λhh=>hh.sel []))
theorem LL(s:PL){x:XS}{bx:Nat}(hf:da x s.c)(h:bI [xA bx x] s.F0 s.W0) :
  Calls prog 13 #[iP x.aJ bx,.agg (yL x x.dm false (.slice none 0 0) (.slice none 0 0)).toArray,s.c.v,s.bv,s.lv] s.W0 λe w'=>e=.returned (.bool true)/\ah ⟨s.W0,s.F0⟩ [] w':=by
 have dA:=lK x.aJ bx;have go:∀ (d:Bool) (ce:x.dm=d) (A1:Act) (w1:World) (yb br:Nat) (v:Value),Ev.At ⟨s.W0,s.F0⟩ 157 [(0,iP x.aJ bx),(4,s.lv),(6,.pointer (some ⟨yb,0,none⟩)),(10,.bool false),(11,am 0 v),(12,.pointer (some ⟨br,0,none⟩)),(13,.int .i64 0)] [yB yb x d false (.slice none 0 0) (.slice none 0 0),aH br [am 1 v,.int .u64 ((s.c.cn:Nat):Int)] 58,vF s.c v,b_ [xA bx x]] A1 w1->dL prog (fM prog 13 [] 3) (bodyPostM Fence.wide 0 prog (jt prog 13) λe w'=>e=.returned (.bool true)/\ah ⟨s.W0,s.F0⟩ [] w') A1 w1:=by
  intro d ce A1 w1 yb br v h1;subst ce;obtain⟨us,hg,hh⟩:=ah.vt (h1.hold.sel [2,0,1,3]);have QI:=ah.open (l:=[nG (am 0 v) ⟨us,((s.c.cn:Nat):Int)⟩,aD 28 1 (am 1 v) us.length (aF us)]) hh;obtain⟨bm,e4,hh3⟩:=m8 QI;have X2:=(((ah.open (l:=[xA bx x]) (hh3.sel [4,0,1,2,3])).cJ (e := 3) (sz:=1)).cJ (e := 3) (sz:=1)).sel [5,6,2,3,4,0,1];have ht:=h1.tm;rw[e4]at ht;have hle:=hg.le;have hcn:=hg.len;have hx:=hf.ok us hg;refine bY (id:=0) (by kernel_rfl) ?_;refine ek (by kernel_rfl) (λ(y:Nat×XS×aG×Value×Value×Value) A w'=>Ev.At ⟨s.W0,s.F0⟩ 157 (rG s (iP y.2.1.aJ bx) yb bm br y.1) (lQ bx yb bm br y.2.1 y.2.2.1 y.2.2.2.1 y.2.2.2.2.1 y.2.2.2.2.2) A w'/\y.2.1.Ok y.2.2.1/\ip y.2.2.1/\(0<=y.2.2.1.ops/\y.2.2.1.ops<=1000+2*((y.1:Nat):Int))/\y.1<=s.ps.length) (λy=>s.ps.length+1-y.1) (x:=(0,x,⟨us,((s.c.cn:Nat):Int)⟩,am 1 v,.slice none 0 0,.slice none 0 0)) ⟨⟨h1.sz,h1.df,ht,?_⟩,hx,⟨hle,hg.u⟩,?_,Nat.zero_le _⟩ ?_
  ·show ah _ (lQ bx yb bm br x ⟨us,((s.c.cn:Nat):Int)⟩ (am 1 v) (.slice none 0 0) (.slice none 0 0)) w1
   unfold lQ;rw[hf.aA,hf.ts,hf.hs];exact X2
  ·show 0<=((s.c.cn:Nat):Int)/\((s.c.cn:Nat):Int)<=1000+2*((0:Nat):Int)
   omega
  ·rintro⟨n,x',m,rv,tk,hd⟩ A2 w2 ⟨h2,hx2,hm2,ho2,hn2⟩
   replace hn2:n<=s.ps.length:=hn2;have h2':Ev.At ⟨s.W0,s.F0⟩ 157 (rG s (iP x'.aJ bx) yb bm br n) [b_ (lQ bx yb bm br x' m rv tk hd)] A2 w2:=h2.to (λq hq=>hq) (λhh=>ah.shut (l:=lQ bx yb bm br x' m rv tk hd) (m:=[]) hh);refine XU (O8 s (lK x'.aJ bx) yb bm br n _ 0) hn2 A2 w2 _ h2' ?_;intro κ A3 w3 h3;refine bY (id:=1) (by kernel_rfl) ?_;refine LK (n:=n) hx2 hm2 ho2 hn2 (h3.to (λq hq=>hq) (λhh=>ah.open (l:=lQ bx yb bm br x' m rv tk hd) (m:=[]) hh)) (λA4 w4 h4=>?_) (λx3 m3 Vr tk3 hd3 A4 w4 hlt hx3 X3 X4 ho3 h4=>?_)
   ·exact h4.ret (by kernel_rfl) (List.mem_singleton.2 rfl) (λhh=>⟨rfl,hh⟩)
   ·refine bE (by kernel_rfl) ?_
    refine XW (O8 s (lK x3.aJ bx) yb bm br n _ 0) hlt A4 w4 _ (h4.to (λq hq=>hq) (λhh=>ah.shut (l:=lQ bx yb bm br x3 m3 Vr tk3 hd3) (m:=[]) hh)) ?_;intro κ A5 w5 h5;refine bE (by kernel_rfl) ⟨(n+1,x3,m3,Vr,tk3,hd3),⟨h5.to (λq hq=>hq) (λhh=>ah.open (l:=lQ bx yb bm br x3 m3 Vr tk3 hd3) (m:=[]) hh),hx3,X3,ho3,hlt⟩,?_⟩;show s.ps.length+1-(n+1)<s.ps.length+1-n;omega
 have hst:bI [b_ [xA bx x]] s.F0 s.W0:=Bf (l:=[xA bx x]) (m:=[]) h;refine cF (N:=157) (tm:=[(0,iP x.aJ bx),(1,.agg (yL x x.dm false (.slice none 0 0) (.slice none 0 0)).toArray),(2,s.c.v),(3,s.bv),(4,s.lv)]) (by kernel_rfl) hst (by simp) (by simp) (λA hA=>?_);cases ce:x.dm with
 | true =>
  rw[ce]at hA;refine Vg (LI s dA 0 0 0 0 [xA bx x] x ⟨[],0⟩ eE eE eE ⟨false,0,0⟩) A s.W0 _ hA ?_;intro κ A1 w1 h1;exact go true ce A1 w1 _ _ _ h1
 | false =>
  rw[ce]at hA;refine Vh (LI s dA 0 0 0 0 [xA bx x] x ⟨[],0⟩ eE eE eE ⟨false,0,0⟩) A s.W0 _ hA ?_;intro κ A1 w1 h1;exact go false ce A1 w1 _ _ _ h1
end Go.Proofs.YtbcnbofkgkheeaaGreat
