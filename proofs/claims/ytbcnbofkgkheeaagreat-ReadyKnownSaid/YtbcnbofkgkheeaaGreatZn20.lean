/- Part of a proof: see the last text. -/
import Derived.Test.YtbcnbofkgkheeaaGreatZn19
set_option linter.unusedSimpArgs false
set_option linter.unusedVariables false
namespace Go.Proofs.YtbcnbofkgkheeaaGreat
open Go.Ev Go.Proofs.Tryz
open Go.RowKit
open Go.Ev (sy iz uz wz iN uN wN pz dv fc fn ak vk vd kn pc cc cr cm cd fr)
set_option maxRecDepth 8000
attribute [local irreducible] dL
abbrev EQ:List dZ:=[(4,[sy 3,sy 4,sy 5,sy 6,sy 7,sy 8,sy 9,sy 2,sy 10,sy 11,sy 12,sy 0,sy 1],124)]
abbrev Jt:List (Nat×Value):=[(0,.pointer (some ⟨4,0,none⟩))]
abbrev Ju(hd:Value)(hs:List Int):List aC:=[aD 3 1 (hd) (hs.length) (aO hs)]
abbrev Jv(hd:Value)(hs:List Int):List aC:=[bP 403 (λv=>aD 3 1 v hs.length (aO hs)),bP 403 (λv=>aD 3 1 (hd) (hs.length) (aO hs))]
abbrev C'(c:aT)(p:Nat)(bp:Nat)(ww:Int)(k:Int)(gg:Int)(tk:Value)(hd:Value)(hs:List Int)(st:Nat):List aC:=[aH bp [iN c.n,iN c.q,iz c.g,iz c.m,iz c.t,iz c.s,iN p,iN st,uz ww,wz k,iz gg,tk,hd] 124,aD 3 1 (hd) (hs.length) (aO hs)]
abbrev Jw:List dZ:=[(4,[sy 2,sy 3,sy 4,sy 5,sy 6,sy 7,sy 8,iz 0,sy 9,sy 10,sy 11,sy 0,sy 1],124)]
abbrev Qn(c:aT)(p:Nat)(bp:Nat)(ww:Int)(k:Int)(gg:Int)(tk:Value)(hd:Value)(hs:List Int):List aC:=[aH bp [iN c.n,iN c.q,iz c.g,iz c.m,iz c.t,iz c.s,iN p,iz 0,uz ww,wz k,iz gg,tk,hd] 124,aD 3 1 (hd) (hs.length) (aO hs)]
theorem VR(W0:World)(F0:Nat->Prop)(c:aT)(p:Nat)(hp:p<c.n)(bp:Nat)(ww k gg:Int)(tk hd:Value)(cx:ai tk=true)(cQ:ai hd=true)(hs:List Int)(Tt:hs.length<=1000000)(st:Nat):aK prog 93 [] 0 10 ⟨W0,F0⟩ [(0,pz bp)] (C' c p bp ww k gg tk hd hs st) (λκ:ag=>(dv κ 403)) (λκ:ag=>[aH bp [iN c.n,iN c.q,iz c.g,iz c.m,iz c.t,iz c.s,iN p,iN st,uz ww,wz k,iz gg,tk,hd] 124,aD 3 1 (dv κ 403) hs.length (aO hs),aD 3 1 (hd) (hs.length) (aO hs)]):=(bU (c:=⟨W0,F0⟩) 5 (kn [tk,hd,iN (st),iN (c.n),iN (c.q),iz (c.g),iz (c.m),iz (c.t),iz (c.s),iN (p),uz (ww),wz (k),iz (gg)] (fc (by assumption) (fc (by assumption) fr)) [] [] [] fn fn fn W0 F0 [(Ju hd hs),(Jv hd hs)] [] [⟨68,[sy 1],0,some 403,.complex .f32 403 0,some 1⟩]) fn (fc (cd rfl [λv=>aD 3 1 v hs.length (aO hs),λv=>aD 3 1 (hd) (hs.length) (aO hs)] [0] [] (λw F ho hn hF=>wh Tt dq hn)) fn) rfl [(4,bp)] EQ EQ 1 rfl rfl Jt (.complex .f32 403 0)).conv (λκ w=>⟨(λ_ h=>h),(λ_ h=>aS (a:=λv=>aD 3 1 v hs.length (aO hs)) (λ_ _ _ _ _ h=>h) h),(λ_ h=>aS (a:=λv=>aD 3 1 (hd) (hs.length) (aO hs)) (λ_ _ _ _ _ h=>h) h),trivial⟩)
theorem WX(W0:World)(F0:Nat->Prop)(c:aT)(p:Nat)(hp:p<c.n)(bp:Nat)(ww k gg:Int)(tk hd:Value)(cx:ai tk=true)(cQ:ai hd=true)(hs:List Int)(Tt:hs.length<=1000000):aK prog 54 [] 0 18 ⟨W0,F0⟩ [(0,pz bp)] (Qn c p bp ww k gg tk hd hs) (λκ:ag=>(dv κ 403)) (λκ:ag=>[aH bp [iN c.n,iN c.q,iz c.g,iz c.m,iz c.t,iz c.s,iN p,iz 0,uz ww,wz k,iz gg,tk,hd] 124,aD 3 1 (dv κ 403) hs.length (aO hs),aD 3 1 (hd) (hs.length) (aO hs)]):=(bU (c:=⟨W0,F0⟩) 5 (kn [tk,hd,iN (c.n),iN (c.q),iz (c.g),iz (c.m),iz (c.t),iz (c.s),iN (p),uz (ww),wz (k),iz (gg)] (fc (by assumption) (fc (by assumption) fr)) [] [] [] fn fn fn W0 F0 [(Ju hd hs),(Jv hd hs)] [] [⟨68,[sy 1],0,some 403,.complex .f32 403 0,some 1⟩]) fn (fc (cd rfl [λv=>aD 3 1 v hs.length (aO hs),λv=>aD 3 1 (hd) (hs.length) (aO hs)] [0] [] (λw F ho hn hF=>wh Tt dq hn)) fn) rfl [(4,bp)] Jw Jw 1 rfl rfl Jt (.complex .f32 403 0)).conv (λκ w=>⟨(λ_ h=>h),(λ_ h=>aS (a:=λv=>aD 3 1 v hs.length (aO hs)) (λ_ _ _ _ _ h=>h) h),(λ_ h=>aS (a:=λv=>aD 3 1 (hd) (hs.length) (aO hs)) (λ_ _ _ _ _ h=>h) h),trivial⟩)
theorem WY(W0:World)(F0:Nat->Prop)(c:aT)(p:Nat)(hp:p<c.n)(bp:Nat)(ww k gg:Int)(tk hd:Value)(cx:ai tk=true)(cQ:ai hd=true)(hs:List Int)(Tt:hs.length<=1000000)(st:Nat)(hst:st≠0):aK prog 54 [] 0 18 ⟨W0,F0⟩ [(0,pz bp)] (C' c p bp ww k gg tk hd hs st) (λκ:ag=>(.slice none 0 0)) (λκ:ag=>(C' c p bp ww k gg tk hd hs st)):=(bU (c:=⟨W0,F0⟩) 5 (kn [tk,hd,iN (st),iN (c.n),iN (c.q),iz (c.g),iz (c.m),iz (c.t),iz (c.s),iN (p),uz (ww),wz (k),iz (gg)] (fc (by assumption) (fc (by assumption) fr)) [(.neq,sy 2,iz 0,.bool true)] [] [] (fc (λ_ _ _=>eY (by have q0:=c.z hp;first|(simp;done)|(simp;omega))) fn) fn fn W0 F0 [(Ju hd hs)] [] []) fn fn rfl [(4,bp)] EQ EQ 0 rfl rfl Jt (.slice none 0 0))
end Go.Proofs.YtbcnbofkgkheeaaGreat
namespace Go.Proofs.YtbcnbofkgkheeaaGreat
open Go.Ev Go.Proofs.Tryz
open Go.RowKit
structure aI where
 aJ:Bool
 gg:Int
 st:Nat
 was:Int
 put:Option cU
def aI.nx(k:aI):Int:=if k.aJ then 0 else k.gg+1
def ae(c:aT)(p:Nat)(k:aI)(m:aG):aI×aG :=
 match k.st with
 | 1=>(⟨k.aJ,k.gg,if k.aJ=true/\ld m (c.word p+1)=0 then 0 else 2,ld m (c.word p+1),k.put⟩,m.tick)
 | 2 =>
  if k.was=0 then (⟨k.aJ,k.gg,0,k.was,k.put⟩,m.put (c.word p+1) k.nx)
  else if 0<=IntKind.i64.wrap (k.was-1) then (⟨k.aJ,k.gg,3,k.was,some ⟨1,IntKind.i64.wrap (k.was-1),0,[],[IntKind.i64.wrap (k.was-1)]⟩⟩,m.put (c.word p+1) k.nx)
  else (⟨k.aJ,k.gg,0,k.was,some ⟨0,IntKind.i64.wrap (k.was-1),0,[],[]⟩⟩,m.put (c.word p+1) k.nx)
 | 3 =>
  match k.put with
  | some x=>(⟨k.aJ,k.gg,if (af c p x m).1.st=0 then 0 else 3,k.was,some (af c p x m).1⟩,(af c p x m).2)
  | none=>(k,m)
 | _=>(k,m)
structure eM(c:aT)(k:aI):Prop where
 st:k.st<=3
 gg:k.aJ=false->0<=k.gg/\k.gg<=9223372036854775807
 was:c7 k.was
 put:∀ x,k.put=some x->eC c x
 Np:k.st=1\/k.st=2->k.put=none
 p3:k.st=3->∃ x,k.put=some x/\x.st≠0
 p0:k.st=0->∀ x,k.put=some x->x.st=0
theorem eM.UB{c:aT}{k:aI}(h:eM c k):c7 k.nx:=by
 unfold aI.nx c7;cases hd:k.aJ with
 | true=>simp
 | false=>have:=h.gg hd;simp;omega
theorem Qo(n:Int):IntKind.i64.wrap n<=9223372036854775807:=by
 unfold IntKind.wrap;simp[IntKind.signed,IntKind.bits];omega
theorem rD{c:aT}{p:Nat}(hp:p<c.n){k:aI}{m:aG}(hk:eM c k)(hm:bC c m):eM c (ae c p k m).1/\bC c (ae c p k m).2:=by
 have hq:=c.qb;have hw:=hm.get (hm.lt_next hp);have hn:=hk.UB;have h1:=hk.st;have h2:=hk.gg;have h3:=hk.was;have h4:=hk.put;have h5:=hk.Np;have h6:=hk.p3;have h7:=hk.p0;obtain⟨aJ,gg,st,was,put⟩:=k
 match st,h1 with
 | 0,_=>exact⟨hk,hm⟩
 | 1,_ =>
  have e:put=none:=h5 (.inl rfl);subst e;refine⟨⟨?_,h2,hw.2,λx hx=>(by cases hx),λ_=>rfl,λh=>?_,λ_ x hx=>(by cases hx)⟩,hm.tick⟩
  ·show(if aJ=true/\ld m (c.word p+1)=0 then 0 else 2)<=3
   split<;>decide
  ·replace h:(if aJ=true/\ld m (c.word p+1)=0 then 0 else 2)=3:=h
   split at h<;>cases h
 | 2,_ =>
  have e:put=none:=h5 (.inr rfl);subst e;unfold ae;simp only
  split
  ·exact⟨⟨Nat.zero_le _,h2,h3,λx hx=>(by cases hx),λ_=>rfl,λh=>(by cases h),λ_ x hx=>(by cases hx)⟩,hm.put _ hn⟩
  ·split
   ·rename_i hg
    refine⟨⟨Nat.le_refl _,h2,h3,λx hx=>?_,λh=>(by rcases h with h | h<;>cases h),λ_=>⟨_,rfl,Nat.succ_ne_zero _⟩,λh=>(by cases h)⟩,hm.put _ hn⟩;cases hx;exact⟨show 1<=5 by decide,λ_=>⟨hg,Qo _⟩,show c7 0 by unfold c7;omega,Nat.zero_le _,λh=>(by cases h),show 1<=64 by decide⟩
   ·refine⟨⟨Nat.zero_le _,h2,h3,λx hx=>?_,λh=>(by rcases h with h | h<;>cases h),λh=>(by cases h),λ_ x hx=>(by cases hx;rfl)⟩,hm.put _ hn⟩
    cases hx;exact⟨Nat.zero_le _,λh=>absurd rfl h,show c7 0 by unfold c7;omega,Nat.zero_le _,λh=>(by cases h),Nat.zero_le _⟩
 | 3,_ =>
  obtain⟨x,e,hx0⟩:=h6 rfl;have e':put=some x:=e;subst e';have hp2:=C_ hp (h4 x rfl) hm;refine⟨⟨?_,h2,h3,λy hy=>?_,λh=>?_,λh=>?_,λh y hy=>?_⟩,hp2.2⟩
  ·show(if (af c p x m).1.st=0 then 0 else 3)<=3
   split<;>decide
  ·cases hy
   exact hp2.1
  ·replace h:(if (af c p x m).1.st=0 then 0 else 3)=1\/(if (af c p x m).1.st=0 then 0 else 3)=2:=h
   split at h<;>(rcases h with h | h<;>cases h)
  ·replace h:(if (af c p x m).1.st=0 then 0 else 3)=3:=h
   refine⟨_,rfl,λhz=>?_⟩;rw[if_pos hz]at h;cases h
  ·replace h:(if (af c p x m).1.st=0 then 0 else 3)=0:=h
   cases hy
   by_cases hz:(af c p x m).1.st=0
   ·exact hz
   ·rw[if_neg hz]at h
    cases h
def aI.holds(k:aI):List Int:=match k.put with | some x=>x.hs | none=>[]
def aI.hands(k:aI):List Int:=if k.aJ=false/\(k.st=1\/k.st=2) then [k.gg] else k.holds
def aI.over(k:aI):List Int:=match k.put with | some x=>if x.st=0 then x.hs else [] | none=>[]
end Go.Proofs.YtbcnbofkgkheeaaGreat
namespace Go.Proofs.YtbcnbofkgkheeaaGreat
open Go.Ev Go.Proofs.Tryz
open Go.RowKit
open Go.Ev (sy)
set_option maxRecDepth 8000
theorem jN{b:Nat}{x:Int}{c:fQ}{l:List aC}{w:World}(h:ah c (aH b [.int .i64 x] 3 :: l) w):ah c (aw (.slice (some ⟨b,0,none⟩) 1 1) [x]::l) w :=
 h.head (λF ⟨h1,h2⟩=>⟨rfl,.inr ⟨b,0,1,_,rfl,h1,h2,λi hi=>by
  have:i=0:=by simp at hi;omega
  subst this
  rfl,Nat.le_refl _,Nat.le_refl _⟩⟩)
section
variable{w:World}{F:Nat->Prop}{c:aT}{p:Nat}
theorem qG(hp:p<c.n){x:cU}(hx:eC c x){bp:Nat}(h:bI [cz c p bp x] F w) :
  Calls prog 93 #[.pointer (some ⟨bp,0,none⟩)] w λe w'=>∃ v cd,Ev.dec cd=v/\e=.returned v/\ah ⟨w,F⟩ [aw v x.hs,cz c p bp x] w':=by
 have WZ:=hx.hs
 by_cases h0:x.st=0
 ·obtain⟨k,tk,hd,cx,cQ,hh⟩:=wl h0 (ah.start h)
  obtain⟨F',n1,n2,n3⟩:=hh.ex;refine aB (VR w F' c p hp bp x.w k x.gg tk hd cx cQ x.hs (by omega) x.st) (by kernel_rfl) n1 (by simp) (by simp) (λκ w1 h1=>⟨_,_,rfl,rfl,?_⟩);exact(gG (k:=k) (tk:=tk) (hd:=hd) h0 cx ((h1.into (l:=[]) n2 n3).sel [0,2,1])).sel [1,0]
 ·obtain⟨k,tk,hd,cx,cQ,hh⟩:=t_ h0 (ah.start h)
  obtain⟨F',n1,n2,n3⟩:=hh.ex;obtain⟨F1,F2,k1,k2,k3,k4⟩:=cy (l:=[vz c p bp x k tk hd,aw hd x.hs]) n1;refine aB (VR w F1 c p hp bp x.w k x.gg tk hd cx cQ x.hs (by omega) x.st) (by kernel_rfl) k1 (by simp) (by simp) (λκ w1 h1=>⟨_,_,rfl,rfl,?_⟩);have h2:=(h1.frame k2 k3).into (l:=[]) n2 (λj hj=>n3 j ((k4 j).2 hj));exact(dT (k:=k) (tk:=tk) (hd:=hd) h0 cx (h2.sel [0,2,3,1])).sel [1,0]
theorem Bw(hp:p<c.n){x:cU}(hx:eC c x){bp:Nat}(h:bI [cz c p bp x] F w) :
  Calls prog 54 #[.pointer (some ⟨bp,0,none⟩)] w λe w'=>∃ v cd,Ev.dec cd=v/\e=.returned v/\ah ⟨w,F⟩ [aw v (if x.st=0 then x.hs else []),cz c p bp x] w':=by
 have WZ:=hx.hs
 by_cases h0:x.st=0
 ·obtain⟨k,tk,hd,cx,cQ,hh⟩:=wl h0 (ah.start h)
  obtain⟨F',n1,n2,n3⟩:=hh.ex;have n1':bI [aH bp [.int .i64 (c.n:Int),.int .i64 (c.q:Int),.int .i64 c.g,.int .i64 c.m,.int .i64 c.t,.int .i64 c.s,.int .i64 (p:Int),.int .i64 0,.int .u64 x.w,.int .u32 k,.int .i64 x.gg,tk,hd] 124,aD 3 1 hd x.hs.length (aO x.hs)] F' w:=by
   have e:vz c p bp x k tk hd=aH bp [.int .i64 (c.n:Int),.int .i64 (c.q:Int),.int .i64 c.g,.int .i64 c.m,.int .i64 c.t,.int .i64 c.s,.int .i64 (p:Int),.int .i64 0,.int .u64 x.w,.int .u32 k,.int .i64 x.gg,tk,hd] 124:=by unfold vz;rw[h0];rfl
   rw[e]at n1;exact n1
  refine aB (WX w F' c p hp bp x.w k x.gg tk hd cx cQ x.hs (by omega)) (by kernel_rfl) n1' (by simp) (by simp) (λκ w1 h1=>⟨_,_,rfl,rfl,?_⟩);rw[if_pos h0];have h2:=(h1.into (l:=[]) n2 n3).sel [0,2,1];have h3:ah ⟨w,F⟩ [cz c p bp x,aw (Ev.dec ((κ 403).getD 0)) x.hs] w1:=by
   refine gG (k:=k) (tk:=tk) (hd:=hd) h0 cx ?_;unfold vz;rw[h0];exact h2
  exact h3.sel [1,0]
 ·obtain⟨k,tk,hd,cx,cQ,hh⟩:=t_ h0 (ah.start h)
  obtain⟨F',n1,n2,n3⟩:=hh.ex;obtain⟨F1,F2,k1,k2,k3,k4⟩:=cy (l:=[vz c p bp x k tk hd,aw hd x.hs]) n1;refine aB (WY w F1 c p hp bp x.w k x.gg tk hd cx cQ x.hs (by omega) x.st h0) (by kernel_rfl) k1 (by simp) (by simp) (λκ w1 h1=>⟨_,_,cX,rfl,?_⟩);have h2:=(h1.frame k2 k3).into (l:=[]) n2 (λj hj=>n3 j ((k4 j).2 hj));rw[if_neg h0];exact((dT (k:=k) (tk:=tk) (hd:=hd) h0 cx (h2.sel [0,1,2])).cJ (e := 3) (sz:=1))
end
end Go.Proofs.YtbcnbofkgkheeaaGreat
namespace Go.Proofs.YtbcnbofkgkheeaaGreat
open Go.Ev Go.Proofs.Tryz
open Go.RowKit
open Go.Ev (sy iz uz wz iN uN wN pz dv fc fn ak vk vd kn pc cc cr cm cd fr)
set_option maxRecDepth 8000
attribute [local irreducible] dL
theorem ub{w:World}{F:Nat->Prop}{c:aT}{p:Nat}(hp:p<c.n){x:cU}(hx:eC c x)(h0:x.st≠0){m:aG}(hm:bC c m){bp bm:Nat}(hst:(af c p x m).1.st=0)(h:bI [cz c p bp x,aj bm m] F w) :
  Calls prog 100 #[.pointer (some ⟨bp,0,none⟩),.pointer (some ⟨bm,0,none⟩)] w λe w'=>e=.returned (.bool true)/\ah ⟨w,F⟩ [cz c p bp (af c p x m).1,aj bm (af c p x m).2] w':=by
 have:=Bv hp hx h0 hm h;rw[decide_eq_true hst]at this;exact this
theorem uc{w:World}{F:Nat->Prop}{c:aT}{p:Nat}(hp:p<c.n){x:cU}(hx:eC c x)(h0:x.st≠0){m:aG}(hm:bC c m){bp bm:Nat}(hst:(af c p x m).1.st≠0)(h:bI [cz c p bp x,aj bm m] F w) :
  Calls prog 100 #[.pointer (some ⟨bp,0,none⟩),.pointer (some ⟨bm,0,none⟩)] w λe w'=>e=.returned (.bool false)/\ah ⟨w,F⟩ [cz c p bp (af c p x m).1,aj bm (af c p x m).2] w':=by
 have:=Bv hp hx h0 hm h;rw[decide_eq_false hst]at this;exact this
structure KP where
 W0:World
 F0:Nat->Prop
 c:aT
 p:Nat
 hp:p<c.n
 nx:Int
 was:Int
 hw:c7 was
 g:Int
 bx:Nat
 bm:Nat
 m:aG
 hl:m.cells.length=4+c.off c.n
abbrev OE:List dZ:=[(4,[sy 0,sy 1,sy 2,sy 3,sy 4,sy 5,sy 6,sy 7,.bool true,iz 1,sy 8,.pointer none],77)]
abbrev Jx:List (Nat×Value):=[(0,.pointer (some ⟨4,0,none⟩)),(1,sy 9)]
abbrev kA(s:KP):List (Nat×Value):=[(0,pz s.bx),(1,pz s.bm)]
abbrev OG(s:KP):List aC:=[aH s.bx [iN s.c.n,iN s.c.q,iz s.c.g,iz s.c.m,iz s.c.t,iz s.c.s,iN s.p,uz s.nx,.bool true,iz 1,uz s.was,(.pointer none)] 77,aj s.bm s.m]
abbrev oD(s:KP):aC:=aj s.bm (s.m.put ((s.c.word s.p+1)) (s.nx))
abbrev qH(s:KP):List aC:=[oD s]
abbrev Jy:List dZ:=[(4,[sy 2,sy 3,sy 4,sy 5,sy 6,sy 7,sy 8,sy 9,.bool true,iz 2,sy 0,.pointer none],77)]
abbrev ud:List (Nat×Value):=[(0,.pointer (some ⟨4,0,none⟩)),(1,sy 10)]
abbrev Jz(s:KP):List aC:=[aH s.bx [iN s.c.n,iN s.c.q,iz s.c.g,iz s.c.m,iz s.c.t,iz s.c.s,iN s.p,uz s.nx,.bool true,iz 2,uz s.was,(.pointer none)] 77,aj s.bm s.m]
abbrev JA(s:KP):List Value:=[iN s.c.n,iN s.c.q,iz s.c.g,iz s.c.m,iz s.c.t,iz s.c.s,iN s.p,iz 0,.int .u64 0,.int .u32 0,(iz (IntKind.i64.wrap (s.was-1))),.slice none 0 0,.slice none 0 0]
abbrev Da:List dZ:=[(4,[sy 1,sy 2,sy 3,sy 4,sy 5,sy 6,sy 7,sy 8,.bool true,iz 3,sy 9,sy 0],77)]
abbrev ue(s:KP)(bp:Nat)(x:cU):aC:=cz s.c s.p bp (af s.c s.p x s.m).1
abbrev uf(s:KP)(x:cU):aC:=aj s.bm ((af s.c s.p x s.m).2)
abbrev yc(s:KP)(bp:Nat)(x:cU):List aC:=[(ue s bp x),(uf s x)]
abbrev JB(s:KP)(bp:Nat):aC:=aH s.bx [iN s.c.n,iN s.c.q,iz s.c.g,iz s.c.m,iz s.c.t,iz s.c.s,iN s.p,uz s.nx,.bool true,iz 3,uz s.was,pz bp] 77
abbrev JC(s:KP)(bp:Nat)(x:cU):List aC:=[(JB s bp),aj s.bm s.m,cz s.c s.p bp x]
abbrev JD:List dZ:=[(4,[sy 2,sy 3,sy 4,sy 5,sy 6,sy 7,sy 8,sy 9,.bool false,iz 2,sy 0,.pointer none,sy 10],75)]
abbrev yd:List (Nat×Value):=[(0,.pointer (some ⟨4,0,none⟩)),(1,sy 11)]
abbrev JE(s:KP):List aC:=[aH s.bx [iN s.c.n,iN s.c.q,iz s.c.g,iz s.c.m,iz s.c.t,iz s.c.s,iN s.p,uz s.nx,.bool false,iz 2,uz s.was,(.pointer none),iz s.g] 75,aj s.bm s.m]
abbrev Db:List dZ:=[(4,[sy 1,sy 2,sy 3,sy 4,sy 5,sy 6,sy 7,sy 8,.bool false,iz 3,sy 9,sy 0,sy 10],75)]
abbrev JF(s:KP)(bp:Nat):aC:=aH s.bx [iN s.c.n,iN s.c.q,iz s.c.g,iz s.c.m,iz s.c.t,iz s.c.s,iN s.p,uz s.nx,.bool false,iz 3,uz s.was,pz bp,iz s.g] 75
abbrev JG(s:KP)(bp:Nat)(x:cU):List aC:=[(JF s bp),aj s.bm s.m,cz s.c s.p bp x]
theorem W1(s:KP)(x:Int)(hxu:c7 x)(hxa:s.m.cells[s.c.word s.p+1]? = some x)(h1:(x)=0):aK prog 124 [] 0 14 ⟨s.W0,s.F0⟩ (kA s) (OG s) (λκ:ag=>(.bool true)) (λκ:ag=>[aH s.bx [iN s.c.n,iN s.c.q,iz s.c.g,iz s.c.m,iz s.c.t,iz s.c.s,iN s.p,uz s.nx,.bool true,iz 0,uz x,(.pointer none)] 77,aj s.bm s.m.tick]):=by have q0:=s.c.z s.hp;have q6:=s.hl;exact(bU (c:=⟨s.W0,s.F0⟩) 3 (kn [iN (s.c.n),iN (s.c.q),iz (s.c.g),iz (s.c.m),iz (s.c.t),iz (s.c.s),iN (s.p),uz (s.nx),uz (s.was),pz s.bm,iN (s.c.word s.p+1),uz (x)] fr [(.eql,sy 11,.int .u64 0,.bool true)] [] [] (fc (λ_ _ _=>aM (by first|(simpa using h1)|(simp;omega))) fn) fn fn s.W0 s.F0 [[aj s.bm s.m],[aj s.bm s.m.tick]] [] [⟨23,[.agg #[sy 0,sy 1,sy 2,sy 3,sy 4,sy 5],sy 6],0,none,sy 10,none⟩,⟨22,[sy 9,sy 10],0,none,sy 11,some 1⟩]) fn (fc (pc rfl (λw hb=>cW s.c s.p s.hp w)) (fc (cc rfl [aj s.bm s.m.tick] [0] [] (λw F ho hn hF=>cj hn hxa (oC hxa (by omega)))) fn)) rfl [(4,s.bx)] OE [(4,[sy 0,sy 1,sy 2,sy 3,sy 4,sy 5,sy 6,sy 7,.bool true,iz 0,sy 11,.pointer none],77)] 1 rfl rfl Jx (.bool true))
theorem W2(s:KP)(x:Int)(hxu:c7 x)(hxa:s.m.cells[s.c.word s.p+1]? = some x)(h1:¬ (x)=0):aK prog 124 [] 0 14 ⟨s.W0,s.F0⟩ (kA s) (OG s) (λκ:ag=>(.bool false)) (λκ:ag=>[aH s.bx [iN s.c.n,iN s.c.q,iz s.c.g,iz s.c.m,iz s.c.t,iz s.c.s,iN s.p,uz s.nx,.bool true,iz 2,uz x,(.pointer none)] 77,aj s.bm s.m.tick]):=by have q0:=s.c.z s.hp;have q6:=s.hl;exact(bU (c:=⟨s.W0,s.F0⟩) 3 (kn [iN (s.c.n),iN (s.c.q),iz (s.c.g),iz (s.c.m),iz (s.c.t),iz (s.c.s),iN (s.p),uz (s.nx),uz (s.was),pz s.bm,iN (s.c.word s.p+1),uz (x)] fr [(.eql,sy 11,.int .u64 0,.bool false)] [] [] (fc (λ_ _ _=>aM (by first|(simpa using h1)|(simp;omega))) fn) fn fn s.W0 s.F0 [[aj s.bm s.m],[aj s.bm s.m.tick]] [] [⟨23,[.agg #[sy 0,sy 1,sy 2,sy 3,sy 4,sy 5],sy 6],0,none,sy 10,none⟩,⟨22,[sy 9,sy 10],0,none,sy 11,some 1⟩]) fn (fc (pc rfl (λw hb=>cW s.c s.p s.hp w)) (fc (cc rfl [aj s.bm s.m.tick] [0] [] (λw F ho hn hF=>cj hn hxa (oC hxa (by omega)))) fn)) rfl [(4,s.bx)] OE [(4,[sy 0,sy 1,sy 2,sy 3,sy 4,sy 5,sy 6,sy 7,.bool true,iz 2,sy 11,.pointer none],77)] 1 rfl rfl Jx (.bool false))
theorem W3(s:KP):aK prog 124 [] 0 14 ⟨s.W0,s.F0⟩ (kA s) [aH s.bx [iN s.c.n,iN s.c.q,iz s.c.g,iz s.c.m,iz s.c.t,iz s.c.s,iN s.p,uz s.nx,.bool true,iz 2,.int .u64 0,(.pointer none)] 77,aj s.bm s.m] (λκ:ag=>(.bool true)) (λκ:ag=>[aH s.bx [iN s.c.n,iN s.c.q,iz s.c.g,iz s.c.m,iz s.c.t,iz s.c.s,iN s.p,uz s.nx,.bool true,iz 0,.int .u64 0,(.pointer none)] 77,oD s]):=by have q0:=s.c.z s.hp;have q6:=s.hl;exact(bU (c:=⟨s.W0,s.F0⟩) 3 (kn [iN (s.c.n),iN (s.c.q),iz (s.c.g),iz (s.c.m),iz (s.c.t),iz (s.c.s),iN (s.p),uz (s.nx),pz s.bm,iN (s.c.word s.p+1)] fr [] [] [] fn fn fn s.W0 s.F0 [[aj s.bm s.m],qH s] [] [⟨23,[.agg #[sy 0,sy 1,sy 2,sy 3,sy 4,sy 5],sy 6],0,none,sy 9,none⟩,⟨30,[sy 8,sy 9,sy 7],0,none,.tuple #[],some 1⟩]) fn (fc (pc rfl (λw hb=>cW s.c s.p s.hp w)) (fc (cc rfl [aj s.bm (s.m.put ((s.c.word s.p+1)) (s.nx))] [0] [] (λw F ho hn hF=>dI hn (by omega) (by omega) (s.nx))) fn)) rfl [(4,s.bx)] [(4,[sy 0,sy 1,sy 2,sy 3,sy 4,sy 5,sy 6,sy 7,.bool true,iz 2,.int .u64 0,.pointer none],77)] [(4,[sy 0,sy 1,sy 2,sy 3,sy 4,sy 5,sy 6,sy 7,.bool true,iz 0,.int .u64 0,.pointer none],77)] 1 rfl rfl [(0,.pointer (some ⟨4,0,none⟩)),(1,sy 8)] (.bool true))
theorem W4(s:KP)(hw0:s.was≠0)(hg:0<=IntKind.i64.wrap (s.was-1)):aK prog 124 [] 0 14 ⟨s.W0,s.F0⟩ (kA s) (Jz s) (λκ:ag=>(.bool false)) (λκ:ag=>[aH s.bx [iN s.c.n,iN s.c.q,iz s.c.g,iz s.c.m,iz s.c.t,iz s.c.s,iN s.p,uz s.nx,.bool true,iz 3,uz s.was,(pz ((κ 424).getD 0))] 77,aH ((κ 424).getD 0) [iN s.c.n,iN s.c.q,iz s.c.g,iz s.c.m,iz s.c.t,iz s.c.s,iN s.p,iz 1,.int .u64 0,.int .u32 0,(iz (IntKind.i64.wrap (s.was-1))),.slice none 0 0,(.slice (some ⟨((κ 428).getD 0),0,none⟩) 1 1)] 124,aH ((κ 428).getD 0) [(iz (IntKind.i64.wrap (s.was-1)))] 3,oD s]):=by have q0:=s.c.z s.hp;have q6:=s.hl;exact(bU (c:=⟨s.W0,s.F0⟩) 3 (kn [uz (s.was),uz (s.was-1),iN (s.c.n),iN (s.c.q),iz (s.c.g),iz (s.c.m),iz (s.c.t),iz (s.c.s),iN (s.p),uz (s.nx),pz s.bm,iN (s.c.word s.p+1),iz (IntKind.i64.wrap (s.was-1)),iN (s.c.word s.p)] fr [(.eql,sy 0,.int .u64 0,.bool false),(.sub,sy 0,.int .u64 1,sy 1),(.geq,sy 13,iz 0,.bool true),(.lss,sy 12,iz 0,.bool false)] [] [(.i64,sy 1,sy 12)] (fc (λ_ _ _=>aM (by first|(simp;done)|(simp;omega))) (fc (λ_ _ _=>bX (ct (by have:=s.hw;unfold c7 at this;omega) (by have:=s.hw;unfold c7 at this;omega))) (fc (λ_ _ _=>bG (by first|(simp;done)|(simp;omega))) (fc (λ_ _ _=>aQ (by first|(simp;done)|(simp;omega))) fn)))) fn (fc ⟨.u64,_,rfl,rfl⟩ fn) s.W0 s.F0 [[aj s.bm s.m],qH s] [] [⟨23,[.agg #[sy 2,sy 3,sy 4,sy 5,sy 6,sy 7],sy 8],0,none,sy 11,none⟩,⟨30,[sy 10,sy 11,sy 9],0,none,.tuple #[],some 1⟩,⟨5,[.agg #[sy 2,sy 3,sy 4,sy 5,sy 6,sy 7],sy 8],1,none,sy 13,none⟩]) fn (fc (pc rfl (λw hb=>cW s.c s.p s.hp w)) (fc (cc rfl [aj s.bm (s.m.put ((s.c.word s.p+1)) (s.nx))] [0] [] (λw F ho hn hF=>dI hn (by omega) (by omega) (s.nx))) (fc (pc rfl (λw hb=>dD s.c s.p s.hp w)) fn))) rfl [(4,s.bx)] Jy [(4,[sy 2,sy 3,sy 4,sy 5,sy 6,sy 7,sy 8,sy 9,.bool true,iz 3,sy 0,.pointer (some ⟨424,0,none⟩)],77),(424,[sy 2,sy 3,sy 4,sy 5,sy 6,sy 7,sy 8,iz 1,.int .u64 0,.int .u32 0,sy 12,.slice none 0 0,.slice (some ⟨428,0,none⟩) 1 1],124),(428,[sy 12],3)] 1 rfl rfl ud (.bool false))
theorem W5(s:KP)(hw0:s.was≠0)(hg:¬ 0<=IntKind.i64.wrap (s.was-1)):aK prog 124 [] 0 14 ⟨s.W0,s.F0⟩ (kA s) (Jz s) (λκ:ag=>(.bool true)) (λκ:ag=>[aH s.bx [iN s.c.n,iN s.c.q,iz s.c.g,iz s.c.m,iz s.c.t,iz s.c.s,iN s.p,uz s.nx,.bool true,iz 0,uz s.was,(pz ((κ 424).getD 0))] 77,aH ((κ 424).getD 0) (JA s) 124,oD s]):=by have q0:=s.c.z s.hp;have q6:=s.hl;exact(bU (c:=⟨s.W0,s.F0⟩) 3 (kn [uz (s.was),uz (s.was-1),iN (s.c.n),iN (s.c.q),iz (s.c.g),iz (s.c.m),iz (s.c.t),iz (s.c.s),iN (s.p),uz (s.nx),pz s.bm,iN (s.c.word s.p+1),iz (IntKind.i64.wrap (s.was-1)),iN (s.c.word s.p)] fr [(.eql,sy 0,.int .u64 0,.bool false),(.sub,sy 0,.int .u64 1,sy 1),(.geq,sy 13,iz 0,.bool true),(.lss,sy 12,iz 0,.bool true)] [] [(.i64,sy 1,sy 12)] (fc (λ_ _ _=>aM (by first|(simp;done)|(simp;omega))) (fc (λ_ _ _=>bX (ct (by have:=s.hw;unfold c7 at this;omega) (by have:=s.hw;unfold c7 at this;omega))) (fc (λ_ _ _=>bG (by first|(simp;done)|(simp;omega))) (fc (λ_ _ _=>aQ (by first|(simp;done)|(simp;omega))) fn)))) fn (fc ⟨.u64,_,rfl,rfl⟩ fn) s.W0 s.F0 [[aj s.bm s.m],qH s] [] [⟨23,[.agg #[sy 2,sy 3,sy 4,sy 5,sy 6,sy 7],sy 8],0,none,sy 11,none⟩,⟨30,[sy 10,sy 11,sy 9],0,none,.tuple #[],some 1⟩,⟨5,[.agg #[sy 2,sy 3,sy 4,sy 5,sy 6,sy 7],sy 8],1,none,sy 13,none⟩]) fn (fc (pc rfl (λw hb=>cW s.c s.p s.hp w)) (fc (cc rfl [aj s.bm (s.m.put ((s.c.word s.p+1)) (s.nx))] [0] [] (λw F ho hn hF=>dI hn (by omega) (by omega) (s.nx))) (fc (pc rfl (λw hb=>dD s.c s.p s.hp w)) fn))) rfl [(4,s.bx)] Jy [(4,[sy 2,sy 3,sy 4,sy 5,sy 6,sy 7,sy 8,sy 9,.bool true,iz 0,sy 0,.pointer (some ⟨424,0,none⟩)],77),(424,[sy 2,sy 3,sy 4,sy 5,sy 6,sy 7,sy 8,iz 0,.int .u64 0,.int .u32 0,sy 12,.slice none 0 0,.slice none 0 0],124)] 1 rfl rfl ud (.bool true))
theorem W6(s:KP)(bp:Nat)(x:cU)(hx:eC s.c x)(hx0:x.st≠0)(hm:bC s.c s.m)(hst:(af s.c s.p x s.m).1.st=0):aK prog 124 [] 0 14 ⟨s.W0,s.F0⟩ (kA s) (JC s bp x) (λκ:ag=>(.bool true)) (λκ:ag=>[aH s.bx [iN s.c.n,iN s.c.q,iz s.c.g,iz s.c.m,iz s.c.t,iz s.c.s,iN s.p,uz s.nx,.bool true,iz 0,uz s.was,pz bp] 77,(ue s bp x),(uf s x)]):=(bU (c:=⟨s.W0,s.F0⟩) 3 (kn [pz bp,iN (s.c.n),iN (s.c.q),iz (s.c.g),iz (s.c.m),iz (s.c.t),iz (s.c.s),iN (s.p),uz (s.nx),uz (s.was),pz s.bm] fr [] [] [] fn fn fn s.W0 s.F0 [[aj s.bm s.m,cz s.c s.p bp x],(yc s bp x)] [] [⟨100,[sy 0,sy 10],0,none,.bool true,some 1⟩]) fn (fc (cc rfl [cz s.c s.p bp (af s.c s.p x s.m).1,aj s.bm ((af s.c s.p x s.m).2)] [1,0] [] (λw F ho hn hF=>ub s.hp hx hx0 hm hst hn)) fn) rfl [(4,s.bx)] Da [(4,[sy 1,sy 2,sy 3,sy 4,sy 5,sy 6,sy 7,sy 8,.bool true,iz 0,sy 9,sy 0],77)] 1 rfl rfl ud (.bool true))
theorem W7(s:KP)(bp:Nat)(x:cU)(hx:eC s.c x)(hx0:x.st≠0)(hm:bC s.c s.m)(hst:(af s.c s.p x s.m).1.st≠0):aK prog 124 [] 0 14 ⟨s.W0,s.F0⟩ (kA s) (JC s bp x) (λκ:ag=>(.bool false)) (λκ:ag=>[(JB s bp),(ue s bp x),(uf s x)]):=(bU (c:=⟨s.W0,s.F0⟩) 3 (kn [pz bp,iN (s.c.n),iN (s.c.q),iz (s.c.g),iz (s.c.m),iz (s.c.t),iz (s.c.s),iN (s.p),uz (s.nx),uz (s.was),pz s.bm] fr [] [] [] fn fn fn s.W0 s.F0 [[aj s.bm s.m,cz s.c s.p bp x],(yc s bp x)] [] [⟨100,[sy 0,sy 10],0,none,.bool false,some 1⟩]) fn (fc (cc rfl [cz s.c s.p bp (af s.c s.p x s.m).1,aj s.bm ((af s.c s.p x s.m).2)] [1,0] [] (λw F ho hn hF=>uc s.hp hx hx0 hm hst hn)) fn) rfl [(4,s.bx)] Da Da 1 rfl rfl ud (.bool false))
theorem W8(s:KP)(x:Int)(hxu:c7 x)(hxa:s.m.cells[s.c.word s.p+1]? = some x):aK prog 92 [] 0 14 ⟨s.W0,s.F0⟩ (kA s) [aH s.bx [iN s.c.n,iN s.c.q,iz s.c.g,iz s.c.m,iz s.c.t,iz s.c.s,iN s.p,uz s.nx,.bool false,iz 1,uz s.was,(.pointer none),iz s.g] 75,aj s.bm s.m] (λκ:ag=>(.bool false)) (λκ:ag=>[aH s.bx [iN s.c.n,iN s.c.q,iz s.c.g,iz s.c.m,iz s.c.t,iz s.c.s,iN s.p,uz s.nx,.bool false,iz 2,uz x,(.pointer none),iz s.g] 75,aj s.bm s.m.tick]):=(bU (c:=⟨s.W0,s.F0⟩) 3 (kn [iN (s.c.n),iN (s.c.q),iz (s.c.g),iz (s.c.m),iz (s.c.t),iz (s.c.s),iN (s.p),uz (s.nx),uz (s.was),iz (s.g),pz s.bm,iN (s.c.word s.p+1),uz (x)] fr [] [] [] fn fn fn s.W0 s.F0 [[aj s.bm s.m],[aj s.bm s.m.tick]] [] [⟨23,[.agg #[sy 0,sy 1,sy 2,sy 3,sy 4,sy 5],sy 6],0,none,sy 11,none⟩,⟨22,[sy 10,sy 11],0,none,sy 12,some 1⟩]) fn (fc (pc rfl (λw hb=>cW s.c s.p s.hp w)) (fc (cc rfl [aj s.bm s.m.tick] [0] [] (λw F ho hn hF=>cj hn hxa (oC hxa (by have q0:=s.c.z s.hp;have q6:=s.hl;omega)))) fn)) rfl [(4,s.bx)] [(4,[sy 0,sy 1,sy 2,sy 3,sy 4,sy 5,sy 6,sy 7,.bool false,iz 1,sy 8,.pointer none,sy 9],75)] [(4,[sy 0,sy 1,sy 2,sy 3,sy 4,sy 5,sy 6,sy 7,.bool false,iz 2,sy 12,.pointer none,sy 9],75)] 1 rfl rfl ud (.bool false))
theorem W9(s:KP):aK prog 92 [] 0 14 ⟨s.W0,s.F0⟩ (kA s) [aH s.bx [iN s.c.n,iN s.c.q,iz s.c.g,iz s.c.m,iz s.c.t,iz s.c.s,iN s.p,uz s.nx,.bool false,iz 2,.int .u64 0,(.pointer none),iz s.g] 75,aj s.bm s.m] (λκ:ag=>(.bool true)) (λκ:ag=>[aH s.bx [iN s.c.n,iN s.c.q,iz s.c.g,iz s.c.m,iz s.c.t,iz s.c.s,iN s.p,uz s.nx,.bool false,iz 0,.int .u64 0,(.pointer none),iz s.g] 75,oD s]):=by have q0:=s.c.z s.hp;have q6:=s.hl;exact(bU (c:=⟨s.W0,s.F0⟩) 3 (kn [iN (s.c.n),iN (s.c.q),iz (s.c.g),iz (s.c.m),iz (s.c.t),iz (s.c.s),iN (s.p),uz (s.nx),iz (s.g),pz s.bm,iN (s.c.word s.p+1)] fr [] [] [] fn fn fn s.W0 s.F0 [[aj s.bm s.m],qH s] [] [⟨23,[.agg #[sy 0,sy 1,sy 2,sy 3,sy 4,sy 5],sy 6],0,none,sy 10,none⟩,⟨30,[sy 9,sy 10,sy 7],0,none,.tuple #[],some 1⟩]) fn (fc (pc rfl (λw hb=>cW s.c s.p s.hp w)) (fc (cc rfl [aj s.bm (s.m.put ((s.c.word s.p+1)) (s.nx))] [0] [] (λw F ho hn hF=>dI hn (by omega) (by omega) (s.nx))) fn)) rfl [(4,s.bx)] [(4,[sy 0,sy 1,sy 2,sy 3,sy 4,sy 5,sy 6,sy 7,.bool false,iz 2,.int .u64 0,.pointer none,sy 8],75)] [(4,[sy 0,sy 1,sy 2,sy 3,sy 4,sy 5,sy 6,sy 7,.bool false,iz 0,.int .u64 0,.pointer none,sy 8],75)] 1 rfl rfl Jx (.bool true))
theorem W_(s:KP)(hw0:s.was≠0)(hg:0<=IntKind.i64.wrap (s.was-1)):aK prog 92 [] 0 14 ⟨s.W0,s.F0⟩ (kA s) (JE s) (λκ:ag=>(.bool false)) (λκ:ag=>[aH s.bx [iN s.c.n,iN s.c.q,iz s.c.g,iz s.c.m,iz s.c.t,iz s.c.s,iN s.p,uz s.nx,.bool false,iz 3,uz s.was,(pz ((κ 424).getD 0)),iz s.g] 75,aH ((κ 424).getD 0) [iN s.c.n,iN s.c.q,iz s.c.g,iz s.c.m,iz s.c.t,iz s.c.s,iN s.p,iz 1,.int .u64 0,.int .u32 0,(iz (IntKind.i64.wrap (s.was-1))),.slice none 0 0,(.slice (some ⟨((κ 428).getD 0),0,none⟩) 1 1)] 124,aH ((κ 428).getD 0) [(iz (IntKind.i64.wrap (s.was-1)))] 3,oD s]):=by have q0:=s.c.z s.hp;have q6:=s.hl;exact(bU (c:=⟨s.W0,s.F0⟩) 3 (kn [uz (s.was),uz (s.was-1),iN (s.c.n),iN (s.c.q),iz (s.c.g),iz (s.c.m),iz (s.c.t),iz (s.c.s),iN (s.p),uz (s.nx),iz (s.g),pz s.bm,iN (s.c.word s.p+1),iz (IntKind.i64.wrap (s.was-1)),iN (s.c.word s.p)] fr [(.eql,sy 0,.int .u64 0,.bool false),(.sub,sy 0,.int .u64 1,sy 1),(.geq,sy 14,iz 0,.bool true),(.lss,sy 13,iz 0,.bool false)] [] [(.i64,sy 1,sy 13)] (fc (λ_ _ _=>aM (by first|(simp;done)|(simp;omega))) (fc (λ_ _ _=>bX (ct (by have:=s.hw;unfold c7 at this;omega) (by have:=s.hw;unfold c7 at this;omega))) (fc (λ_ _ _=>bG (by first|(simp;done)|(simp;omega))) (fc (λ_ _ _=>aQ (by first|(simp;done)|(simp;omega))) fn)))) fn (fc ⟨.u64,_,rfl,rfl⟩ fn) s.W0 s.F0 [[aj s.bm s.m],qH s] [] [⟨23,[.agg #[sy 2,sy 3,sy 4,sy 5,sy 6,sy 7],sy 8],0,none,sy 12,none⟩,⟨30,[sy 11,sy 12,sy 9],0,none,.tuple #[],some 1⟩,⟨5,[.agg #[sy 2,sy 3,sy 4,sy 5,sy 6,sy 7],sy 8],1,none,sy 14,none⟩]) fn (fc (pc rfl (λw hb=>cW s.c s.p s.hp w)) (fc (cc rfl [aj s.bm (s.m.put ((s.c.word s.p+1)) (s.nx))] [0] [] (λw F ho hn hF=>dI hn (by omega) (by omega) (s.nx))) (fc (pc rfl (λw hb=>dD s.c s.p s.hp w)) fn))) rfl [(4,s.bx)] JD [(4,[sy 2,sy 3,sy 4,sy 5,sy 6,sy 7,sy 8,sy 9,.bool false,iz 3,sy 0,.pointer (some ⟨424,0,none⟩),sy 10],75),(424,[sy 2,sy 3,sy 4,sy 5,sy 6,sy 7,sy 8,iz 1,.int .u64 0,.int .u32 0,sy 13,.slice none 0 0,.slice (some ⟨428,0,none⟩) 1 1],124),(428,[sy 13],3)] 1 rfl rfl yd (.bool false))
theorem Xa(s:KP)(hw0:s.was≠0)(hg:¬ 0<=IntKind.i64.wrap (s.was-1)):aK prog 92 [] 0 14 ⟨s.W0,s.F0⟩ (kA s) (JE s) (λκ:ag=>(.bool true)) (λκ:ag=>[aH s.bx [iN s.c.n,iN s.c.q,iz s.c.g,iz s.c.m,iz s.c.t,iz s.c.s,iN s.p,uz s.nx,.bool false,iz 0,uz s.was,(pz ((κ 424).getD 0)),iz s.g] 75,aH ((κ 424).getD 0) (JA s) 124,oD s]):=by have q0:=s.c.z s.hp;have q6:=s.hl;exact(bU (c:=⟨s.W0,s.F0⟩) 3 (kn [uz (s.was),uz (s.was-1),iN (s.c.n),iN (s.c.q),iz (s.c.g),iz (s.c.m),iz (s.c.t),iz (s.c.s),iN (s.p),uz (s.nx),iz (s.g),pz s.bm,iN (s.c.word s.p+1),iz (IntKind.i64.wrap (s.was-1)),iN (s.c.word s.p)] fr [(.eql,sy 0,.int .u64 0,.bool false),(.sub,sy 0,.int .u64 1,sy 1),(.geq,sy 14,iz 0,.bool true),(.lss,sy 13,iz 0,.bool true)] [] [(.i64,sy 1,sy 13)] (fc (λ_ _ _=>aM (by first|(simp;done)|(simp;omega))) (fc (λ_ _ _=>bX (ct (by have:=s.hw;unfold c7 at this;omega) (by have:=s.hw;unfold c7 at this;omega))) (fc (λ_ _ _=>bG (by first|(simp;done)|(simp;omega))) (fc (λ_ _ _=>aQ (by first|(simp;done)|(simp;omega))) fn)))) fn (fc ⟨.u64,_,rfl,rfl⟩ fn) s.W0 s.F0 [[aj s.bm s.m],qH s] [] [⟨23,[.agg #[sy 2,sy 3,sy 4,sy 5,sy 6,sy 7],sy 8],0,none,sy 12,none⟩,⟨30,[sy 11,sy 12,sy 9],0,none,.tuple #[],some 1⟩,⟨5,[.agg #[sy 2,sy 3,sy 4,sy 5,sy 6,sy 7],sy 8],1,none,sy 14,none⟩]) fn (fc (pc rfl (λw hb=>cW s.c s.p s.hp w)) (fc (cc rfl [aj s.bm (s.m.put ((s.c.word s.p+1)) (s.nx))] [0] [] (λw F ho hn hF=>dI hn (by omega) (by omega) (s.nx))) (fc (pc rfl (λw hb=>dD s.c s.p s.hp w)) fn))) rfl [(4,s.bx)] JD [(4,[sy 2,sy 3,sy 4,sy 5,sy 6,sy 7,sy 8,sy 9,.bool false,iz 0,sy 0,.pointer (some ⟨424,0,none⟩),sy 10],75),(424,[sy 2,sy 3,sy 4,sy 5,sy 6,sy 7,sy 8,iz 0,.int .u64 0,.int .u32 0,sy 13,.slice none 0 0,.slice none 0 0],124)] 1 rfl rfl yd (.bool true))
theorem Xb(s:KP)(bp:Nat)(x:cU)(hx:eC s.c x)(hx0:x.st≠0)(hm:bC s.c s.m)(hst:(af s.c s.p x s.m).1.st=0):aK prog 92 [] 0 14 ⟨s.W0,s.F0⟩ (kA s) (JG s bp x) (λκ:ag=>(.bool true)) (λκ:ag=>[aH s.bx [iN s.c.n,iN s.c.q,iz s.c.g,iz s.c.m,iz s.c.t,iz s.c.s,iN s.p,uz s.nx,.bool false,iz 0,uz s.was,pz bp,iz s.g] 75,(ue s bp x),(uf s x)]):=(bU (c:=⟨s.W0,s.F0⟩) 3 (kn [pz bp,iN (s.c.n),iN (s.c.q),iz (s.c.g),iz (s.c.m),iz (s.c.t),iz (s.c.s),iN (s.p),uz (s.nx),uz (s.was),iz (s.g),pz s.bm] fr [] [] [] fn fn fn s.W0 s.F0 [[aj s.bm s.m,cz s.c s.p bp x],(yc s bp x)] [] [⟨100,[sy 0,sy 11],0,none,.bool true,some 1⟩]) fn (fc (cc rfl [cz s.c s.p bp (af s.c s.p x s.m).1,aj s.bm ((af s.c s.p x s.m).2)] [1,0] [] (λw F ho hn hF=>ub s.hp hx hx0 hm hst hn)) fn) rfl [(4,s.bx)] Db [(4,[sy 1,sy 2,sy 3,sy 4,sy 5,sy 6,sy 7,sy 8,.bool false,iz 0,sy 9,sy 0,sy 10],75)] 1 rfl rfl yd (.bool true))
theorem Xc(s:KP)(bp:Nat)(x:cU)(hx:eC s.c x)(hx0:x.st≠0)(hm:bC s.c s.m)(hst:(af s.c s.p x s.m).1.st≠0):aK prog 92 [] 0 14 ⟨s.W0,s.F0⟩ (kA s) (JG s bp x) (λκ:ag=>(.bool false)) (λκ:ag=>[(JF s bp),(ue s bp x),(uf s x)]):=(bU (c:=⟨s.W0,s.F0⟩) 3 (kn [pz bp,iN (s.c.n),iN (s.c.q),iz (s.c.g),iz (s.c.m),iz (s.c.t),iz (s.c.s),iN (s.p),uz (s.nx),uz (s.was),iz (s.g),pz s.bm] fr [] [] [] fn fn fn s.W0 s.F0 [[aj s.bm s.m,cz s.c s.p bp x],(yc s bp x)] [] [⟨100,[sy 0,sy 11],0,none,.bool false,some 1⟩]) fn (fc (cc rfl [cz s.c s.p bp (af s.c s.p x s.m).1,aj s.bm ((af s.c s.p x s.m).2)] [1,0] [] (λw F ho hn hF=>uc s.hp hx hx0 hm hst hn)) fn) rfl [(4,s.bx)] Db Db 1 rfl rfl yd (.bool false))
end Go.Proofs.YtbcnbofkgkheeaaGreat
namespace Go.Proofs.YtbcnbofkgkheeaaGreat
open Go.Ev Go.Proofs.Tryz
open Go.RowKit
open Go.Ev (sy)
set_option maxRecDepth 8000
def jO(c:aT)(p:Nat)(k:aI)(pv:Value):List Value :=
 .int .i64 (c.n:Int)::.int .i64 (c.q:Int)::.int .i64 c.g::.int .i64 c.m::.int .i64 c.t::.int .i64 c.s::.int .i64 (p:Int)::.int .u64 k.nx::.bool k.aJ::.int .i64 (k.st:Int)::.int .u64 k.was::pv::cond k.aJ [] [.int .i64 k.gg]
def fC(aJ:Bool):TypeId:=cond aJ 77 75
def Bx(c:aT)(p bx:Nat)(k:aI)(bp:Nat):List aC :=
 match k.put with
 | none=>[aH bx (jO c p k (.pointer none)) (fC k.aJ)]
 | some x=>[aH bx (jO c p k (.pointer (some ⟨bp,0,none⟩))) (fC k.aJ),cz c p bp x]
def dt(c:aT)(p bx:Nat)(k:aI):aC:=Me (λ_:Nat=>True) (λbp=>b_ (Bx c p bx k bp))
section
variable{c:aT}{p bx:Nat}{k:aI}{x:cU}{ctx:fQ}{w:World}{l:List aC}
theorem dc(hn:k.put=none)(h:ah ctx (dt c p bx k::l) w):ah ctx (aH bx (jO c p k (.pointer none)) (fC k.aJ)::l) w:=by
 obtain⟨bp,_,hh⟩:=h.vt;have h2:=hh.open;simp only[Bx,hn]at h2;exact h2
theorem cG(hn:k.put=none)(h:ah ctx (aH bx (jO c p k (.pointer none)) (fC k.aJ)::l) w):ah ctx (dt c p bx k::l) w:=by
 refine ah.vu (0:Nat) trivial (ah.shut ?_);simp only[Bx,hn];exact h
theorem eH(hn:k.put=some x)(h:ah ctx (dt c p bx k::l) w):∃ bp,ah ctx (aH bx (jO c p k (.pointer (some ⟨bp,0,none⟩))) (fC k.aJ)::cz c p bp x::l) w:=by
 obtain⟨bp,_,hh⟩:=h.vt;have h2:=hh.open;simp only[Bx,hn]at h2;exact⟨bp,h2⟩
theorem cH{bp:Nat}(hn:k.put=some x)(h:ah ctx (aH bx (jO c p k (.pointer (some ⟨bp,0,none⟩))) (fC k.aJ)::cz c p bp x::l) w):ah ctx (dt c p bx k::l) w:=by
 refine ah.vu bp trivial (ah.shut ?_);simp only[Bx,hn];exact h
end
theorem By{w:World}{F:Nat->Prop}{c:aT}{p:Nat}(hp:p<c.n){k:aI}(hd:k.aJ=true)(hk:eM c k)(h0:k.st≠0){m:aG}(hm:bC c m){bx bm:Nat}(h:bI [dt c p bx k,aj bm m] F w) :
  Calls prog 124 #[.pointer (some ⟨bx,0,none⟩),.pointer (some ⟨bm,0,none⟩)] w λe w'=>e=.returned (.bool (decide ((ae c p k m).1.st=0)))/\ah ⟨w,F⟩ [dt c p bx (ae c p k m).1,aj bm (ae c p k m).2] w':=by
 have hw:=hm.get (hm.lt_next hp);obtain⟨aJ,gg,st,was,put⟩:=k;have hd':aJ=true:=hd;subst hd'
 match st,hk.st with
 | 0,_=>exact absurd rfl h0
 | 1,_ =>
  have e:put=none:=hk.Np (.inl rfl);subst e;obtain⟨F',n1,n2,n3⟩:=(dc rfl (ah.start h)).ex;have into:∀ {l:List aC} {w1:World},ah ⟨w,F'⟩ l w1->ah ⟨w,F⟩ l w1:=λhh=>hh.into (l:=[]) n2 n3
  let s:KP:=⟨w,F',c,p,hp,aI.nx ⟨true,gg,1,was,none⟩,was,hk.was,gg,bx,bm,m,hm.len⟩
  by_cases hx:ld m (c.word p+1)=0
  ·rw[show ae c p ⟨true,gg,1,was,none⟩ m=(⟨true,gg,0,ld m (c.word p+1),none⟩,m.tick) by simp[ae,hx]]
   refine aB (W1 s _ hw.2 hw.1 hx) (by kernel_rfl) n1 (by simp) (by simp[s]) (λκ w1 h1=>⟨rfl,?_⟩);exact cG (k:=⟨true,gg,0,ld m (c.word p+1),none⟩) rfl (into h1)
  ·rw[show ae c p ⟨true,gg,1,was,none⟩ m=(⟨true,gg,2,ld m (c.word p+1),none⟩,m.tick) by simp only[ae];rw[if_neg (λh=>hx h.2)]]
   refine aB (W2 s _ hw.2 hw.1 hx) (by kernel_rfl) n1 (by simp) (by simp[s]) (λκ w1 h1=>⟨rfl,?_⟩);exact cG (k:=⟨true,gg,2,ld m (c.word p+1),none⟩) rfl (into h1)
 | 2,_ =>
  have e:put=none:=hk.Np (.inr rfl);subst e;obtain⟨F',n1,n2,n3⟩:=(dc rfl (ah.start h)).ex;have into:∀ {l:List aC} {w1:World},ah ⟨w,F'⟩ l w1->ah ⟨w,F⟩ l w1:=λhh=>hh.into (l:=[]) n2 n3
  let s:KP:=⟨w,F',c,p,hp,aI.nx ⟨true,gg,2,was,none⟩,was,hk.was,gg,bx,bm,m,hm.len⟩
  by_cases hz:was=0
  ·subst hz
   rw[show ae c p ⟨true,gg,2,0,none⟩ m=(⟨true,gg,0,0,none⟩,m.put (c.word p+1) (aI.nx ⟨true,gg,2,0,none⟩)) by simp[ae]];refine aB (W3 s) (by kernel_rfl) n1 (by simp) (by simp[s]) (λκ w1 h1=>⟨rfl,?_⟩);exact cG (k:=⟨true,gg,0,0,none⟩) rfl (into h1)
  ·by_cases hg:0<=IntKind.i64.wrap (was-1)
   ·rw[show ae c p ⟨true,gg,2,was,none⟩ m=(⟨true,gg,3,was,some ⟨1,IntKind.i64.wrap (was-1),0,[],[IntKind.i64.wrap (was-1)]⟩⟩,m.put (c.word p+1) (aI.nx ⟨true,gg,2,was,none⟩)) by simp only[ae];rw[if_neg hz,if_pos hg]]
    refine aB (W4 s hz hg) (by kernel_rfl) n1 (by simp) (by simp[s]) (λκ w1 h1=>⟨rfl,?_⟩);have h2:=(jN ((into h1).sel [2,1,0,3])).cJ (e := 3) (sz:=1);have h3:=dT (x:=⟨1,IntKind.i64.wrap (was-1),0,[],[IntKind.i64.wrap (was-1)]⟩) (k:=0) (tk:=.slice none 0 0) (Nat.succ_ne_zero _) rfl (h2.sel [2,1,0,3,4]);exact cH (k:=⟨true,gg,3,was,some ⟨1,IntKind.i64.wrap (was-1),0,[],[IntKind.i64.wrap (was-1)]⟩⟩) rfl (h3.sel [1,0,2])
   ·rw[show ae c p ⟨true,gg,2,was,none⟩ m=(⟨true,gg,0,was,some ⟨0,IntKind.i64.wrap (was-1),0,[],[]⟩⟩,m.put (c.word p+1) (aI.nx ⟨true,gg,2,was,none⟩)) by simp only[ae];rw[if_neg hz,if_neg hg]]
    refine aB (W5 s hz hg) (by kernel_rfl) n1 (by simp) (by simp[s]) (λκ w1 h1=>⟨rfl,?_⟩);have h2:=(into h1).cJ (e := 3) (sz:=1);have h3:=gG (x:=⟨0,IntKind.i64.wrap (was-1),0,[],[]⟩) (k:=0) (tk:=.slice none 0 0) (hd:=.slice none 0 0) rfl rfl (h2.sel [2,0,1,3]);exact cH (k:=⟨true,gg,0,was,some ⟨0,IntKind.i64.wrap (was-1),0,[],[]⟩⟩) rfl (h3.sel [1,0,2])
 | 3,_ =>
  obtain⟨x,e,hx0⟩:=hk.p3 rfl;have e':put=some x:=e;subst e';obtain⟨bp,hh⟩:=eH rfl (ah.start h);obtain⟨F',n1,n2,n3⟩:=(hh.sel [0,2,1]).ex;have into:∀ {l:List aC} {w1:World},ah ⟨w,F'⟩ l w1->ah ⟨w,F⟩ l w1:=λhh=>hh.into (l:=[]) n2 n3
  let s:KP:=⟨w,F',c,p,hp,aI.nx ⟨true,gg,3,was,some x⟩,was,hk.was,gg,bx,bm,m,hm.len⟩
  by_cases hz:(af c p x m).1.st=0
  ·rw[show ae c p ⟨true,gg,3,was,some x⟩ m=(⟨true,gg,0,was,some (af c p x m).1⟩,(af c p x m).2) by simp only[ae];rw[if_pos hz]]
   refine aB (W6 s bp x (hk.put x rfl) hx0 hm hz) (by kernel_rfl) n1 (by simp) (by simp[s]) (λκ w1 h1=>⟨rfl,?_⟩);exact cH (k:=⟨true,gg,0,was,some (af c p x m).1⟩) rfl ((into h1).sel [0,1,2])
  ·rw[show ae c p ⟨true,gg,3,was,some x⟩ m=(⟨true,gg,3,was,some (af c p x m).1⟩,(af c p x m).2) by simp only[ae];rw[if_neg hz]]
   refine aB (W7 s bp x (hk.put x rfl) hx0 hm hz) (by kernel_rfl) n1 (by simp) (by simp[s]) (λκ w1 h1=>⟨rfl,?_⟩);exact cH (k:=⟨true,gg,3,was,some (af c p x m).1⟩) rfl ((into h1).sel [0,1,2])
theorem Dc{w:World}{F:Nat->Prop}{c:aT}{p:Nat}(hp:p<c.n){k:aI}(hd:k.aJ=false)(hk:eM c k)(h0:k.st≠0){m:aG}(hm:bC c m){bx bm:Nat}(h:bI [dt c p bx k,aj bm m] F w) :
  Calls prog 92 #[.pointer (some ⟨bx,0,none⟩),.pointer (some ⟨bm,0,none⟩)] w λe w'=>e=.returned (.bool (decide ((ae c p k m).1.st=0)))/\ah ⟨w,F⟩ [dt c p bx (ae c p k m).1,aj bm (ae c p k m).2] w':=by
 have hw:=hm.get (hm.lt_next hp);obtain⟨aJ,gg,st,was,put⟩:=k;have hd':aJ=false:=hd;subst hd'
 match st,hk.st with
 | 0,_=>exact absurd rfl h0
 | 1,_ =>
  have e:put=none:=hk.Np (.inl rfl);subst e;obtain⟨F',n1,n2,n3⟩:=(dc rfl (ah.start h)).ex;have into:∀ {l:List aC} {w1:World},ah ⟨w,F'⟩ l w1->ah ⟨w,F⟩ l w1:=λhh=>hh.into (l:=[]) n2 n3
  let s:KP:=⟨w,F',c,p,hp,aI.nx ⟨false,gg,1,was,none⟩,was,hk.was,gg,bx,bm,m,hm.len⟩
  rw[show ae c p ⟨false,gg,1,was,none⟩ m=(⟨false,gg,2,ld m (c.word p+1),none⟩,m.tick) by simp only[ae];rw[if_neg (λh=>by cases h.1)]];refine aB (W8 s _ hw.2 hw.1) (by kernel_rfl) n1 (by simp) (by simp[s]) (λκ w1 h1=>⟨rfl,?_⟩);exact cG (k:=⟨false,gg,2,ld m (c.word p+1),none⟩) rfl (into h1)
 | 2,_ =>
  have e:put=none:=hk.Np (.inr rfl);subst e;obtain⟨F',n1,n2,n3⟩:=(dc rfl (ah.start h)).ex;have into:∀ {l:List aC} {w1:World},ah ⟨w,F'⟩ l w1->ah ⟨w,F⟩ l w1:=λhh=>hh.into (l:=[]) n2 n3
  let s:KP:=⟨w,F',c,p,hp,aI.nx ⟨false,gg,2,was,none⟩,was,hk.was,gg,bx,bm,m,hm.len⟩
  by_cases hz:was=0
  ·subst hz
   rw[show ae c p ⟨false,gg,2,0,none⟩ m=(⟨false,gg,0,0,none⟩,m.put (c.word p+1) (aI.nx ⟨false,gg,2,0,none⟩)) by simp[ae]];refine aB (W9 s) (by kernel_rfl) n1 (by simp) (by simp[s]) (λκ w1 h1=>⟨rfl,?_⟩);exact cG (k:=⟨false,gg,0,0,none⟩) rfl (into h1)
  ·by_cases hg:0<=IntKind.i64.wrap (was-1)
   ·rw[show ae c p ⟨false,gg,2,was,none⟩ m=(⟨false,gg,3,was,some ⟨1,IntKind.i64.wrap (was-1),0,[],[IntKind.i64.wrap (was-1)]⟩⟩,m.put (c.word p+1) (aI.nx ⟨false,gg,2,was,none⟩)) by simp only[ae];rw[if_neg hz,if_pos hg]]
    refine aB (W_ s hz hg) (by kernel_rfl) n1 (by simp) (by simp[s]) (λκ w1 h1=>⟨rfl,?_⟩);have h2:=(jN ((into h1).sel [2,1,0,3])).cJ (e := 3) (sz:=1);have h3:=dT (x:=⟨1,IntKind.i64.wrap (was-1),0,[],[IntKind.i64.wrap (was-1)]⟩) (k:=0) (tk:=.slice none 0 0) (Nat.succ_ne_zero _) rfl (h2.sel [2,1,0,3,4]);exact cH (k:=⟨false,gg,3,was,some ⟨1,IntKind.i64.wrap (was-1),0,[],[IntKind.i64.wrap (was-1)]⟩⟩) rfl (h3.sel [1,0,2])
   ·rw[show ae c p ⟨false,gg,2,was,none⟩ m=(⟨false,gg,0,was,some ⟨0,IntKind.i64.wrap (was-1),0,[],[]⟩⟩,m.put (c.word p+1) (aI.nx ⟨false,gg,2,was,none⟩)) by simp only[ae];rw[if_neg hz,if_neg hg]]
    refine aB (Xa s hz hg) (by kernel_rfl) n1 (by simp) (by simp[s]) (λκ w1 h1=>⟨rfl,?_⟩);have h2:=(into h1).cJ (e := 3) (sz:=1);have h3:=gG (x:=⟨0,IntKind.i64.wrap (was-1),0,[],[]⟩) (k:=0) (tk:=.slice none 0 0) (hd:=.slice none 0 0) rfl rfl (h2.sel [2,0,1,3]);exact cH (k:=⟨false,gg,0,was,some ⟨0,IntKind.i64.wrap (was-1),0,[],[]⟩⟩) rfl (h3.sel [1,0,2])
 | 3,_ =>
  obtain⟨x,e,hx0⟩:=hk.p3 rfl;have e':put=some x:=e;subst e';obtain⟨bp,hh⟩:=eH rfl (ah.start h);obtain⟨F',n1,n2,n3⟩:=(hh.sel [0,2,1]).ex;have into:∀ {l:List aC} {w1:World},ah ⟨w,F'⟩ l w1->ah ⟨w,F⟩ l w1:=λhh=>hh.into (l:=[]) n2 n3
  let s:KP:=⟨w,F',c,p,hp,aI.nx ⟨false,gg,3,was,some x⟩,was,hk.was,gg,bx,bm,m,hm.len⟩
  by_cases hz:(af c p x m).1.st=0
  ·rw[show ae c p ⟨false,gg,3,was,some x⟩ m=(⟨false,gg,0,was,some (af c p x m).1⟩,(af c p x m).2) by simp only[ae];rw[if_pos hz]]
   refine aB (Xb s bp x (hk.put x rfl) hx0 hm hz) (by kernel_rfl) n1 (by simp) (by simp[s]) (λκ w1 h1=>⟨rfl,?_⟩);exact cH (k:=⟨false,gg,0,was,some (af c p x m).1⟩) rfl ((into h1).sel [0,1,2])
  ·rw[show ae c p ⟨false,gg,3,was,some x⟩ m=(⟨false,gg,3,was,some (af c p x m).1⟩,(af c p x m).2) by simp only[ae];rw[if_neg hz]]
   refine aB (Xc s bp x (hk.put x rfl) hx0 hm hz) (by kernel_rfl) n1 (by simp) (by simp[s]) (λκ w1 h1=>⟨rfl,?_⟩);exact cH (k:=⟨false,gg,3,was,some (af c p x m).1⟩) rfl ((into h1).sel [0,1,2])
end Go.Proofs.YtbcnbofkgkheeaaGreat
