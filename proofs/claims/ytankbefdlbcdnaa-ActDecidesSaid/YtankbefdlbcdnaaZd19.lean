/- Part of a proof: see the last text. -/
import Derived.Test.YtankbefdlbcdnaaZd17
import Derived.Test.YtankbefdlbcdnaaZd18
set_option linter.unusedSimpArgs false
set_option linter.unusedVariables false
namespace Go.Proofs.Ytankbefdlbcdnaa
open Go.Ev Go.Proofs.Try
open Go.RowKit
open Go.Ev (iz iN pz)
def EI(l:List Int)(f:Int->Option Lk)(i:Nat):Int:=if i<l.length then l.getD i 0 else (ku f (l.getD (l.length-1) 0)).b
theorem bY.links{l:List Int}{hd tl:Int}{f:Int->Option Lk}(h:bY l hd tl f):∀ i,i<l.length->f (EI l f i)=some ⟨(ku f (EI l f i)).a,EI l f (i+1),decide (0<i),decide (i+1<l.length)⟩:=by
 intro i hi;have hg:l[i]? = some (l.getD i 0):=by rw[List.getD_eq_getElem?_getD,List.getElem?_eq_getElem hi];rfl
 have hc:EI l f i=l.getD i 0:=if_pos hi;obtain⟨a,b,h1,h2,h3,h4⟩:=h.at' i _ hg;rw[hc];unfold ku;rw[h1,Option.getD_some];simp only[Option.some.injEq,Lk.mk.injEq,true_and,and_true];unfold EI
 by_cases hi2:i+1<l.length
 ·rw[if_pos hi2]
  exact h4 _ (by rw[List.getD_eq_getElem?_getD,List.getElem?_eq_getElem hi2];rfl)
 ·rw[if_neg hi2,show l.length-1=i by omega]
  unfold ku;rw[h1,Option.getD_some]
theorem bY.Ig{l:List Int}{hd tl:Int}{f:Int->Option Lk}(h:bY l hd tl f)(i:Nat):nZ (EI l f i):=by
 unfold EI
 split
 ·rename_i hi
  have:=h.rng (l.getD i 0) (by rw[List.getD_eq_getElem?_getD,List.getElem?_eq_getElem hi];exact List.getElem_mem hi);exact aV (by omega) (by omega)
 ·unfold ku
  generalize l.getD (l.length-1) 0=x;cases hx:f x with
  | none=>exact aV (by decide) (by decide)
  | some k =>
   by_cases hm:x ∈ l
   ·obtain⟨j,hj⟩:=List.getElem?_of_mem hm
    obtain⟨a,b,h1,h2,h3,_⟩:=h.at' j x hj;rw[hx]at h1;cases h1;exact aV (by show _<=b;omega) (by show b<=_;omega)
   ·rw[h.no x hm]at hx
    cases hx
section
variable{w:World}{F:Nat->Prop}{bs m b:Nat}{xs:List Value}{f:Int->Option Lk}{hd tl:Int}
abbrev fa(w:World)(F:Nat->Prop)(bs:Nat)(xs:List Value)(m b:Nat)(f:Int->Option Lk)(l:List Int)(hw:∀ i,nZ (EI l f i))(hm:m+4<=66)(hl:l.length<=12):FA:=⟨w,F,bs,xs,m,b,l.length,f,λi=>(ku f (EI l f i)).a,EI l f,hw,⟨hm,hl⟩⟩
abbrev fZ(v:Value)(l:List Int):aK:=aO 3 1 v l.length (aB l)
theorem JM(hm:m+4<=66)(h0:xs[m]? = some (.map none))(h:bu [sA bs xs] F w) :
  Calls prog 40 #[sP bs m] w λe w'=>∃ v cd,Ev.dec cd=v/\e=.returned v/\ay ⟨w,F⟩ [fZ v [],sA bs xs] w' :=
 ao (Nz ⟨w,F,bs,xs,m,0,0,λ_=>none,λ_=>0,λ_=>0,λ_=>aV (by decide) (by decide),⟨hm,by decide⟩⟩ h0) (by kernel_rfl) h (by simp) (by simp) (λκ w1 hh=>⟨_,_,kS,rfl,(hh.pG (e := 3) (sz:=1))⟩)
theorem JN(l:List Int)(hm:m+4<=66)(hl:l.length<=12)(L:fM xs m (some b) l hd tl f)(h:bu [sA bs xs,bX b l.length f] F w) :
  Calls prog 40 #[sP bs m] w λe w'=>∃ v cd,Ev.dec cd=v/\e=.returned v/\ay ⟨w,F⟩ [fZ v l,sA bs xs,bX b l.length f] w':=by
 have hw:=L.rep.Ig;have hc:=L.rep.links
 match l,hl with
 | [],hl=>exact ao (fa0 (fa w F bs xs m b f [] hw hm hl) L.v rfl hc) (by kernel_rfl) h (by simp) (by simp) (λκ w1 hh=>⟨_,_,kS,rfl,(hh.pG (e := 3) (sz:=1))⟩)
 | [x0],hl =>
  have e:=L.rep.hd x0 rfl;subst e;exact ao (fa1 (fa w F bs xs m b f [hd] hw hm hl) L.v rfl hc L.h) (by kernel_rfl) h (by simp) (by simp) (λκ w1 hh=>⟨_,(κ 427).getD 0,rfl,rfl,hh.sel [2,0,1]⟩)
 | [x0,x1],hl =>
  have e:=L.rep.hd x0 rfl;subst e;exact ao (fa2 (fa w F bs xs m b f [hd,x1] hw hm hl) L.v rfl hc L.h) (by kernel_rfl) h (by simp) (by simp) (λκ w1 hh=>⟨_,(κ 439).getD 0,rfl,rfl,hh.sel [2,0,1]⟩)
 | [x0,x1,x2],hl =>
  have e:=L.rep.hd x0 rfl;subst e;exact ao (fa3 (fa w F bs xs m b f [hd,x1,x2] hw hm hl) L.v rfl hc L.h) (by kernel_rfl) h (by simp) (by simp) (λκ w1 hh=>⟨_,(κ 451).getD 0,rfl,rfl,hh.sel [2,0,1]⟩)
 | [x0,x1,x2,x3],hl =>
  have e:=L.rep.hd x0 rfl;subst e;exact ao (fa4 (fa w F bs xs m b f [hd,x1,x2,x3] hw hm hl) L.v rfl hc L.h) (by kernel_rfl) h (by simp) (by simp) (λκ w1 hh=>⟨_,(κ 463).getD 0,rfl,rfl,hh.sel [2,0,1]⟩)
 | [x0,x1,x2,x3,x4],hl =>
  have e:=L.rep.hd x0 rfl;subst e;exact ao (fa5 (fa w F bs xs m b f [hd,x1,x2,x3,x4] hw hm hl) L.v rfl hc L.h) (by kernel_rfl) h (by simp) (by simp) (λκ w1 hh=>⟨_,(κ 475).getD 0,rfl,rfl,hh.sel [2,0,1]⟩)
 | [x0,x1,x2,x3,x4,x5],hl =>
  have e:=L.rep.hd x0 rfl;subst e;exact ao (fa6 (fa w F bs xs m b f [hd,x1,x2,x3,x4,x5] hw hm hl) L.v rfl hc L.h) (by kernel_rfl) h (by simp) (by simp) (λκ w1 hh=>⟨_,(κ 487).getD 0,rfl,rfl,hh.sel [2,0,1]⟩)
 | [x0,x1,x2,x3,x4,x5,x6],hl =>
  have e:=L.rep.hd x0 rfl;subst e;exact ao (fa7 (fa w F bs xs m b f [hd,x1,x2,x3,x4,x5,x6] hw hm hl) L.v rfl hc L.h) (by kernel_rfl) h (by simp) (by simp) (λκ w1 hh=>⟨_,(κ 499).getD 0,rfl,rfl,hh.sel [2,0,1]⟩)
 | [x0,x1,x2,x3,x4,x5,x6,x7],hl =>
  have e:=L.rep.hd x0 rfl;subst e;exact ao (Nx (fa w F bs xs m b f [hd,x1,x2,x3,x4,x5,x6,x7] hw hm hl) L.v rfl hc L.h) (by kernel_rfl) h (by simp) (by simp) (λκ w1 hh=>⟨_,(κ 511).getD 0,rfl,rfl,hh.sel [2,0,1]⟩)
 | [x0,x1,x2,x3,x4,x5,x6,x7,x8],hl =>
  have e:=L.rep.hd x0 rfl;subst e;exact ao (Ny (fa w F bs xs m b f [hd,x1,x2,x3,x4,x5,x6,x7,x8] hw hm hl) L.v rfl hc L.h) (by kernel_rfl) h (by simp) (by simp) (λκ w1 hh=>⟨_,(κ 523).getD 0,rfl,rfl,hh.sel [2,0,1]⟩)
 | [x0,x1,x2,x3,x4,x5,x6,x7,x8,x9],hl =>
  have e:=L.rep.hd x0 rfl;subst e;exact ao (Le (fa w F bs xs m b f [hd,x1,x2,x3,x4,x5,x6,x7,x8,x9] hw hm hl) L.v rfl hc L.h) (by kernel_rfl) h (by simp) (by simp) (λκ w1 hh=>⟨_,(κ 535).getD 0,rfl,rfl,hh.sel [2,0,1]⟩)
 | [x0,x1,x2,x3,x4,x5,x6,x7,x8,x9,x10],hl =>
  have e:=L.rep.hd x0 rfl;subst e;exact ao (Lg (fa w F bs xs m b f [hd,x1,x2,x3,x4,x5,x6,x7,x8,x9,x10] hw hm hl) L.v rfl hc L.h) (by kernel_rfl) h (by simp) (by simp) (λκ w1 hh=>⟨_,(κ 547).getD 0,rfl,rfl,hh.sel [2,0,1]⟩)
 | [x0,x1,x2,x3,x4,x5,x6,x7,x8,x9,x10,NA],hl =>
  have e:=L.rep.hd x0 rfl;subst e;exact ao (Lh (fa w F bs xs m b f [hd,x1,x2,x3,x4,x5,x6,x7,x8,x9,x10,NA] hw hm hl) L.v rfl hc L.h) (by kernel_rfl) h (by simp) (by simp) (λκ w1 hh=>⟨_,(κ 559).getD 0,rfl,rfl,hh.sel [2,0,1]⟩)
end
theorem tn:Cr prog 71 3 3 where
 ht:=underlying71
 hk:=underlying3
 he:=underlying3
 hz:=λw=>by
  obtain⟨i,i1,i2,i3,i4⟩:=aT;exact @Ev.em cP _ _ _ _ i1 i3 w
theorem jd:∃ i,prog.info? 76 = some i/\i.size=4/\True/\True:=by
 have h:(prog.info? 76).map (λi=>i.size)=some 4:=by kernel_rfl
 cases hi:prog.info? 76 with
 | none=>rw[hi]at h;cases h
 | some i =>
  rw[hi]at h;exact⟨i,rfl,by simpa using h,trivial,trivial⟩
section
variable{w:World}{F:Nat->Prop}{bs m:Nat}{xs:List Value}{f:Int->Option Lk}{x hd tl:Int}{lv:Value}{l:List Int}
theorem F6(hm:m+4<=66)(hx:0<=x/\x<4096)(hmx:m+3<=xs.length)(L:fM xs m none l hd tl f)(h:bu [sA bs xs,lE lv x] F w) :
  Calls prog 67 #[sP bs m,lv] w λe w'=>∃ v cd,Ev.dec cd=v/\e=.returned (.int .i64 0)/\ay ⟨w,F⟩ [sA bs (d6 (xs.set m v) m [] x),tg v 1 (eF [] tl (λ_=>none) x)] w' :=
 (Ie hm hx hmx L h).mono λe w' ⟨b,he,hh⟩=>⟨.map (some b),_,j5 b,he,((hh.sel [1,0]).head (b:=tg (.map (some b)) 1 (eF [] tl (λ_=>none) x)) (λG h1=>⟨b,rfl,h1⟩)).sel [1,0]⟩
end
end Go.Proofs.Ytankbefdlbcdnaa
namespace Go.Proofs.Ytankbefdlbcdnaa
open Go.Ev Go.Proofs.Try
open Go.RowKit
open Go.Ev (sy iz uz wz iN uN wN pz dv fc fn ak vk vd kn pc cc cr cm cd fr)
set_option maxRecDepth 8000
attribute [local irreducible] dF
structure SQ where
 W0:World
 F0:Nat->Prop
 bs:Nat
 xs:List Value
 hxs:xs.length=66
 k:Nat
 bw:Nat
 nw:Nat
 fw:Int->Option Int
 g:Int
 nn:Int
 hnn:xs[0+64]? = some (.int .i64 nn)
 G6:xs[0+65]? = some (.map (some bw))
 cnt:Int
 bl:Nat
 l:List Int
 hd:Int
 tl:Int
 f:Int->Option Lk
 h:k<4/\(0<=g/\g<4096)/\(k:Int)<nn/\nn<=16/\nw<=1000000/\0<=cnt/\cnt<1073741824
theorem SQ.z(q:SQ):q.k<4/\(0<=q.g/\q.g<4096)/\(q.k:Int)<q.nn/\q.nn<=16/\q.nw<=1000000/\0<=q.cnt/\q.cnt<1073741824/\q.nw<maxLen:=by
 have h:=q.h;have h2:q.nw<maxLen:=by unfold maxLen;omega
 exact⟨h.1,h.2.1,h.2.2.1,h.2.2.2.1,h.2.2.2.2.1,h.2.2.2.2.2.1,h.2.2.2.2.2.2,h2⟩
abbrev gC(q:SQ):aK:=aO 79 1 (ap q.bs 66) 66 (q.xs)
abbrev eH(q:SQ):aK:=Ev.mapA prog 3 3 (q.bw) (q.nw) (q.fw)
abbrev jQ(q:SQ):List aK:=[gC q,eH q]
abbrev G7(q:SQ):List aK:=[aO 79 1 (ap q.bs 66) (66) ((q.xs).set (0+0+(q.k)*4+3) (iz ((q.cnt)-1))),eH q]
abbrev C2(q:SQ):List (Nat×Value):=[(0,(au (ap q.bs 66) (0))),(1,iN q.k),(2,iz q.g)]
abbrev q9(q:SQ):List aK:=[gC q,eH q,bX q.bl (q.l.length) (q.f)]
abbrev C4(q:SQ):aK:=Ev.mapA prog 3 3 (q.bw) (q.nw+1) (Ev.upd (q.fw) (q.g) (some ((q.k:Nat):Int)))
abbrev C5(q:SQ):List aK:=[gC q,C4 q,bX q.bl (q.l.length) (q.f)]
abbrev tp(q:SQ):List (Nat×Value):=[(0,(au (ap q.bs 66) (0))),(1,iN q.k),(2,iz q.g),(10,(au (ap q.bs 66) (0+0+(q.k)*4)))]
abbrev C6(q:SQ):List aK:=[gC q,C4 q]
abbrev C7(q:SQ):aK:=aO 79 1 (ap q.bs 66) (66) ((q.xs).set (0+0+(q.k)*4+3) (iz ((q.cnt)+1)))
abbrev C8(q:SQ):List aK:=[C7 q,eH q]
abbrev pM(q:SQ):List (Nat×Value):=[(0,(au (ap q.bs 66) (0))),(1,iN q.k)]
abbrev C9(q:SQ):List aK:=[gC q,eH q,bX q.bl (0) (q.f)]
abbrev C_(q:SQ):List aK:=[C7 q,bX q.bl (0) (q.f),eH q]
abbrev C'(q:SQ):List aK:=[gC q,eH q,bX q.bl (q.l.length+1) (q.f)]
abbrev Da(q:SQ):List aK:=[sA q.bs (AJ q.xs (0+0+(q.k)*4+0) q.l q.f q.g),bX q.bl q.l.length (C0 q.l q.f q.g),Ev.mapA prog 3 3 (q.bw) (q.nw) (Ev.upd (q.fw) (q.g) none)]
theorem NB(q:SQ)(hc:q.xs[0+0+(q.k)*4+3]? = some (.int .i64 q.cnt))(hp:0<q.cnt)(h1:(q.fw) (q.g)=none):aI prog 56 [] 0 56 ⟨q.W0,q.F0⟩ (C2 q) (jQ q) (λκ:ag=>(.tuple #[.bool true,iz 0])) (λκ:ag=>(G7 q)):=by have z:=q.z;exact(br (c:=⟨q.W0,q.F0⟩) 40 (kn [au (ap q.bs 66) (0),au (ap q.bs 66) (0+64),au (ap q.bs 66) (0+65),au (ap q.bs 66) (0+0),au (ap q.bs 66) (0+0+(q.k)*4),au (ap q.bs 66) (0+0+(q.k)*4+3),ap q.bs 66,iN (q.k),iz (q.g),iz (q.nn),.map (some q.bw),iz (q.cnt),iz ((q.cnt)-1)] (fc (ae _ _) (fc (ae _ _) (fc (ae _ _) (fc (ae _ _) (fc (ae _ _) (fc (ae _ _) fr)))))) [(.geq,sy 7,iz 0,.bool true),(.lss,sy 7,sy 9,.bool true),(.gtr,sy 11,iz 0,.bool true),(.sub,sy 11,iz 1,sy 12)] [] [] (fc (λ_ _ _=>aP (by first|(simp;done)|(simp;omega))) (fc (λ_ _ _=>ax (by first|(simp;done)|(simp;omega))) (fc (λ_ _ _=>bJ (by first|(simp;done)|(simp;omega))) (fc (λ_ _ _=>jE (by exact aM (by omega) (by omega))) fn)))) fn fn q.W0 q.F0 [jQ q,G7 q] [⟨[20,24],[sy 0,.pointer none],none,0,none,.bool false,none⟩,⟨[9],[sy 0],none,0,none,sy 0,none⟩,⟨[7,79,1],[sy 0],none,0,none,sy 1,none⟩,⟨[1,3],[sy 1],none,0,none,sy 9,none⟩,⟨[7,79,2],[sy 0],none,0,none,sy 2,none⟩,⟨[1,71],[sy 2],none,0,none,sy 10,none⟩,⟨[5,71,1],[sy 10,sy 8],none,0,none,.tuple #[iz 0,.bool false],none⟩,⟨[7,79,0],[sy 0],none,0,none,sy 3,none⟩,⟨[3,77],[sy 3,sy 7],none,0,none,sy 4,none⟩,⟨[9],[sy 4],none,0,none,sy 4,none⟩,⟨[7,76,1],[sy 4],none,0,none,sy 5,none⟩,⟨[1,3],[sy 5],none,0,none,sy 11,none⟩,⟨[2,3],[sy 5,sy 12],none,0,none,undef,some 1⟩] []) (fc (b5 rfl (by kernel_rfl)) (fc (ai rfl) (fc (by exact af (ci:=1) (fo:=64) rfl rfl (by omega) dJ rfl rfl) (fc (by exact ah (ci:=1) (m:=0+64) (x:=(iz q.nn)) rfl rfl aG q.hnn (by decide) rfl (λι=>(vk (by kernel_rfl) (by kernel_rfl)))) (fc (by exact af (ci:=1) (fo:=65) rfl rfl (by omega) oH rfl rfl) (fc (by exact ah (ci:=1) (m:=0+65) (x:=(.map (some q.bw))) rfl rfl mB q.G6 (by decide) rfl (λι=>(vk (by kernel_rfl) (by kernel_rfl)))) (fc (by exact jK tn (ci:=2) rfl rfl rfl rfl (by first | assumption | exact aV (by omega) (by omega)) h1) (fc (by exact af (ci:=1) (fo:=0) rfl rfl (by omega) fg rfl rfl) (fc (by obtain⟨i,i1,i2,i3,i4⟩:=jd;exact hH (ci:=1) (j:=(q.k)) rfl rfl (by omega) underlying77 i1 i2 rfl rfl (by omega) rfl) (fc (ai rfl) (fc (by exact af (ci:=1) (fo:=3) rfl rfl (by omega) kj rfl rfl) (fc (by exact ah (ci:=1) (m:=0+0+(q.k)*4+3) (x:=(iz q.cnt)) rfl rfl aG hc (by simp;omega) rfl (λι=>(vk (by kernel_rfl) (by kernel_rfl)))) (fc (by exact bD (ci:=1) (m:=0+0+(q.k)*4+3) (x:=(iz ((q.cnt)-1))) rfl rfl rfl bE (by simp;omega) rfl (cu rfl) rfl) fn))))))))))))) fn rfl [] [] [] 1 rfl rfl [(0,sy 0),(1,sy 7),(2,sy 8)] (.tuple #[.bool true,iz 0]))
theorem Li(q:SQ)(hc:q.xs[0+0+(q.k)*4+3]? = some (.int .i64 q.cnt))(hp:q.cnt=0)(h1:(q.fw) (q.g)=none):dH prog 56 [] 0 12 56 ⟨q.W0,q.F0⟩ (C2 q) (q9 q) .normal (λκ:ag=>(tp q)) (λκ:ag=>(C5 q)):=by have z:=q.z;exact(tr (c:=⟨q.W0,q.F0⟩) (kn [au (ap q.bs 66) (0),au (ap q.bs 66) (0+64),au (ap q.bs 66) (0+65),au (ap q.bs 66) (0+0),au (ap q.bs 66) (0+0+(q.k)*4),au (ap q.bs 66) (0+0+(q.k)*4+3),ap q.bs 66,iN (q.k),iz (q.g),iz (q.nn),.map (some q.bw),iz (q.cnt)] (fc (ae _ _) (fc (ae _ _) (fc (ae _ _) (fc (ae _ _) (fc (ae _ _) (fc (ae _ _) fr)))))) [(.geq,sy 7,iz 0,.bool true),(.lss,sy 7,sy 9,.bool true),(.gtr,sy 11,iz 0,.bool false)] [] [] (fc (λ_ _ _=>aP (by first|(simp;done)|(simp;omega))) (fc (λ_ _ _=>ax (by first|(simp;done)|(simp;omega))) (fc (λ_ _ _=>bJ (by first|(simp;done)|(simp;omega))) fn))) fn fn q.W0 q.F0 [q9 q,C5 q] [⟨[20,24],[sy 0,.pointer none],none,0,none,.bool false,none⟩,⟨[9],[sy 0],none,0,none,sy 0,none⟩,⟨[7,79,1],[sy 0],none,0,none,sy 1,none⟩,⟨[1,3],[sy 1],none,0,none,sy 9,none⟩,⟨[7,79,2],[sy 0],none,0,none,sy 2,none⟩,⟨[1,71],[sy 2],none,0,none,sy 10,none⟩,⟨[5,71,1],[sy 10,sy 8],none,0,none,.tuple #[iz 0,.bool false],none⟩,⟨[7,79,0],[sy 0],none,0,none,sy 3,none⟩,⟨[3,77],[sy 3,sy 7],none,0,none,sy 4,none⟩,⟨[9],[sy 4],none,0,none,sy 4,none⟩,⟨[7,76,1],[sy 4],none,0,none,sy 5,none⟩,⟨[1,3],[sy 5],none,0,none,sy 11,none⟩,⟨[6,71],[sy 10,sy 8,sy 7],none,0,none,undef,some 1⟩] []) (fc (b5 rfl (by kernel_rfl)) (fc (ai rfl) (fc (by exact af (ci:=1) (fo:=64) rfl rfl (by omega) dJ rfl rfl) (fc (by exact ah (ci:=1) (m:=0+64) (x:=(iz q.nn)) rfl rfl aG q.hnn (by decide) rfl (λι=>(vk (by kernel_rfl) (by kernel_rfl)))) (fc (by exact af (ci:=1) (fo:=65) rfl rfl (by omega) oH rfl rfl) (fc (by exact ah (ci:=1) (m:=0+65) (x:=(.map (some q.bw))) rfl rfl mB q.G6 (by decide) rfl (λι=>(vk (by kernel_rfl) (by kernel_rfl)))) (fc (by exact jK tn (ci:=2) rfl rfl rfl rfl (by first | assumption | exact aV (by omega) (by omega)) h1) (fc (by exact af (ci:=1) (fo:=0) rfl rfl (by omega) fg rfl rfl) (fc (by obtain⟨i,i1,i2,i3,i4⟩:=jd;exact hH (ci:=1) (j:=(q.k)) rfl rfl (by omega) underlying77 i1 i2 rfl rfl (by omega) rfl) (fc (ai rfl) (fc (by exact af (ci:=1) (fo:=3) rfl rfl (by omega) kj rfl rfl) (fc (by exact ah (ci:=1) (m:=0+0+(q.k)*4+3) (x:=(iz q.cnt)) rfl rfl aG hc (by simp;omega) rfl (λι=>(vk (by kernel_rfl) (by kernel_rfl)))) (fc (by exact za tn (ci:=2) (x:=((q.k:Nat):Int)) rfl rfl rfl rfl rfl (by first | assumption | exact aV (by omega) (by omega)) (by omega) (λι y h=>kL tn h) (by first | assumption | exact aV (by omega) (by omega))) fn))))))))))))) fn rfl [] [] [] 1 rfl rfl [(0,sy 0),(1,sy 7),(2,sy 8)] [(0,sy 0),(1,sy 7),(2,sy 8),(10,sy 4)] .normal)
theorem Lj(q:SQ)(hc:q.xs[0+0+(q.k)*4+3]? = some (.int .i64 q.cnt))(hp:q.cnt=0)(h1:(q.fw) (q.g)=none):dH prog 56 [] 0 12 56 ⟨q.W0,q.F0⟩ (C2 q) (jQ q) .normal (λκ:ag=>(tp q)) (λκ:ag=>(C6 q)):=by have z:=q.z;exact(tr (c:=⟨q.W0,q.F0⟩) (kn [au (ap q.bs 66) (0),au (ap q.bs 66) (0+64),au (ap q.bs 66) (0+65),au (ap q.bs 66) (0+0),au (ap q.bs 66) (0+0+(q.k)*4),au (ap q.bs 66) (0+0+(q.k)*4+3),ap q.bs 66,iN (q.k),iz (q.g),iz (q.nn),.map (some q.bw),iz (q.cnt)] (fc (ae _ _) (fc (ae _ _) (fc (ae _ _) (fc (ae _ _) (fc (ae _ _) (fc (ae _ _) fr)))))) [(.geq,sy 7,iz 0,.bool true),(.lss,sy 7,sy 9,.bool true),(.gtr,sy 11,iz 0,.bool false)] [] [] (fc (λ_ _ _=>aP (by first|(simp;done)|(simp;omega))) (fc (λ_ _ _=>ax (by first|(simp;done)|(simp;omega))) (fc (λ_ _ _=>bJ (by first|(simp;done)|(simp;omega))) fn))) fn fn q.W0 q.F0 [jQ q,C6 q] [⟨[20,24],[sy 0,.pointer none],none,0,none,.bool false,none⟩,⟨[9],[sy 0],none,0,none,sy 0,none⟩,⟨[7,79,1],[sy 0],none,0,none,sy 1,none⟩,⟨[1,3],[sy 1],none,0,none,sy 9,none⟩,⟨[7,79,2],[sy 0],none,0,none,sy 2,none⟩,⟨[1,71],[sy 2],none,0,none,sy 10,none⟩,⟨[5,71,1],[sy 10,sy 8],none,0,none,.tuple #[iz 0,.bool false],none⟩,⟨[7,79,0],[sy 0],none,0,none,sy 3,none⟩,⟨[3,77],[sy 3,sy 7],none,0,none,sy 4,none⟩,⟨[9],[sy 4],none,0,none,sy 4,none⟩,⟨[7,76,1],[sy 4],none,0,none,sy 5,none⟩,⟨[1,3],[sy 5],none,0,none,sy 11,none⟩,⟨[6,71],[sy 10,sy 8,sy 7],none,0,none,undef,some 1⟩] []) (fc (b5 rfl (by kernel_rfl)) (fc (ai rfl) (fc (by exact af (ci:=1) (fo:=64) rfl rfl (by omega) dJ rfl rfl) (fc (by exact ah (ci:=1) (m:=0+64) (x:=(iz q.nn)) rfl rfl aG q.hnn (by decide) rfl (λι=>(vk (by kernel_rfl) (by kernel_rfl)))) (fc (by exact af (ci:=1) (fo:=65) rfl rfl (by omega) oH rfl rfl) (fc (by exact ah (ci:=1) (m:=0+65) (x:=(.map (some q.bw))) rfl rfl mB q.G6 (by decide) rfl (λι=>(vk (by kernel_rfl) (by kernel_rfl)))) (fc (by exact jK tn (ci:=2) rfl rfl rfl rfl (by first | assumption | exact aV (by omega) (by omega)) h1) (fc (by exact af (ci:=1) (fo:=0) rfl rfl (by omega) fg rfl rfl) (fc (by obtain⟨i,i1,i2,i3,i4⟩:=jd;exact hH (ci:=1) (j:=(q.k)) rfl rfl (by omega) underlying77 i1 i2 rfl rfl (by omega) rfl) (fc (ai rfl) (fc (by exact af (ci:=1) (fo:=3) rfl rfl (by omega) kj rfl rfl) (fc (by exact ah (ci:=1) (m:=0+0+(q.k)*4+3) (x:=(iz q.cnt)) rfl rfl aG hc (by simp;omega) rfl (λι=>(vk (by kernel_rfl) (by kernel_rfl)))) (fc (by exact za tn (ci:=2) (x:=((q.k:Nat):Int)) rfl rfl rfl rfl rfl (by first | assumption | exact aV (by omega) (by omega)) (by omega) (λι y h=>kL tn h) (by first | assumption | exact aV (by omega) (by omega))) fn))))))))))))) fn rfl [] [] [] 1 rfl rfl [(0,sy 0),(1,sy 7),(2,sy 8)] [(0,sy 0),(1,sy 7),(2,sy 8),(10,sy 4)] .normal)
theorem Ll(q:SQ)(hL:fM q.xs (0+0+(q.k)*4+0) (some q.bl) q.l q.hd q.tl q.f)(hgl:q.g ∉ q.l)(hll:q.l.length<=4000):aI prog 56 [] 12 56 ⟨q.W0,q.F0⟩ (tp q) (q9 q) (λκ:ag=>(.tuple #[.bool false,iz 0])) (λκ:ag=>[lE (dv κ 403) q.g,sA q.bs (d6 q.xs (0+0+(q.k)*4+0) q.l q.g),bX q.bl (q.l.length+1) (eF q.l q.tl q.f q.g),eH q]):=by have z:=q.z;exact(br (c:=⟨q.W0,q.F0⟩) 5 (kn [au (ap q.bs 66) (0),au (ap q.bs 66) (0+0+(q.k)*4),au (ap q.bs 66) (0+0+(q.k)*4+0),ap q.bs 66,iN (q.k),iz (q.g)] (fc (ae _ _) (fc (ae _ _) (fc (ae _ _) fr))) [] [] [] fn fn fn q.W0 q.F0 [q9 q,[gC q,eH q,bX q.bl (q.l.length) (q.f),ce 403 (λv=>aO 3 1 v 1 [iz q.g])],[ce 403 (λv=>lE v q.g),sA q.bs (d6 q.xs (0+0+(q.k)*4+0) q.l q.g),bX q.bl (q.l.length+1) (eF q.l q.tl q.f q.g),eH q]] [⟨[9],[sy 1],none,0,none,sy 1,none⟩,⟨[7,76,0],[sy 1],none,0,none,sy 2,none⟩,⟨[24,37],[sy 5],none,0,some 403,.complex .f32 403 0,some 1⟩] [⟨67,[sy 2,.complex .f32 403 0],1,none,iz 0,some 2⟩]) (fc (ai rfl) (fc (by exact af (ci:=1) (fo:=0) rfl rfl (by omega) gU rfl rfl) (fc (by obtain⟨i,i1,i2,i3,i4⟩:=aT;exact ki rfl rfl underlying37 i1 i2 i3 rfl (cu rfl) rfl) fn))) (fc (FSq (c:=⟨q.W0,q.F0⟩) (kN:=[aO 79 1 (ap q.bs 66) 66 (q.xs),bX q.bl (q.l.length) (q.f),ce 403 (λv=>aO 3 1 v 1 [iz q.g])]) (lp:=λv=>[aO 79 1 (ap q.bs 66) 66 (q.xs),bX q.bl (q.l.length) (q.f),aO 3 1 v 1 [iz q.g]]) (args:=λv=>[(au (ap q.bs 66) (0+0+(q.k)*4+0)),v]) [λv=>lE v q.g] [sA q.bs (d6 q.xs (0+0+(q.k)*4+0) q.l q.g),bX q.bl (q.l.length+1) (eF q.l q.tl q.f q.g)] [0,2,3] [1] rfl rfl rfl rfl (s5 (λ_ _ _ _ h=>h) (s5 (λ_ _ _ _ h=>h) (qX (λ_ _ _ _ _ h=>h) nr))) (np (v:=(au (ap q.bs 66) (0+0+(q.k)*4+0))) (args:=λv=>[v]) (cu rfl) (f_ (ak (by kernel_rfl) (by kernel_rfl)))) (λι=>(vk (by kernel_rfl) (by kernel_rfl))) (λv w F ho hn hF=>(Id q.bl (by omega) q.z.2.1 hgl hll hL hn).mono (λ_ _ h=>⟨h.1,h.2.sel [2,0,1]⟩))) fn) rfl [] [] [] 2 rfl rfl [(0,sy 0),(1,sy 4),(2,sy 5),(10,sy 1)] (.tuple #[.bool false,iz 0])).conv (λκ w=>⟨(λ_ h=>bN (a:=λv=>lE v q.g) (λ_ _ _ _ _ h=>h) h),(λ_ h=>h),(λ_ h=>h),(λ_ h=>h),trivial⟩)
theorem Lm(q:SQ)(hL:fM q.xs (0+0+(q.k)*4+0) none q.l q.hd q.tl q.f)(hgl:q.g ∉ q.l)(hll:q.l.length<=4000):aI prog 56 [] 12 56 ⟨q.W0,q.F0⟩ (tp q) (jQ q) (λκ:ag=>(.tuple #[.bool false,iz 0])) (λκ:ag=>[sA q.bs (d6 (q.xs.set (0+0+(q.k)*4+0) (dv κ 407)) (0+0+(q.k)*4+0) [] q.g),tg (dv κ 407) 1 (eF [] q.tl (λ_=>none) q.g),eH q]):=by have z:=q.z;exact(br (c:=⟨q.W0,q.F0⟩) 5 (kn [au (ap q.bs 66) (0),au (ap q.bs 66) (0+0+(q.k)*4),au (ap q.bs 66) (0+0+(q.k)*4+0),ap q.bs 66,iN (q.k),iz (q.g)] (fc (ae _ _) (fc (ae _ _) (fc (ae _ _) fr))) [] [] [] fn fn fn q.W0 q.F0 [jQ q,[gC q,eH q,ce 403 (λv=>aO 3 1 v 1 [iz q.g])],[ce 407 (λv=>sA q.bs (d6 (q.xs.set (0+0+(q.k)*4+0) v) (0+0+(q.k)*4+0) [] q.g)),ce 407 (λv=>tg v 1 (eF [] q.tl (λ_=>none) q.g)),eH q]] [⟨[9],[sy 1],none,0,none,sy 1,none⟩,⟨[7,76,0],[sy 1],none,0,none,sy 2,none⟩,⟨[24,37],[sy 5],none,0,some 403,.complex .f32 403 0,some 1⟩] [⟨67,[sy 2,.complex .f32 403 0],1,some 407,iz 0,some 2⟩]) (fc (ai rfl) (fc (by exact af (ci:=1) (fo:=0) rfl rfl (by omega) gU rfl rfl) (fc (by obtain⟨i,i1,i2,i3,i4⟩:=aT;exact ki rfl rfl underlying37 i1 i2 i3 rfl (cu rfl) rfl) fn))) (fc (by exact zi (c:=⟨q.W0,q.F0⟩) (kN:=[aO 79 1 (ap q.bs 66) 66 (q.xs),ce 403 (λv=>aO 3 1 v 1 [iz q.g])]) (lp:=λv=>[aO 79 1 (ap q.bs 66) 66 (q.xs),aO 3 1 v 1 [iz q.g]]) (args:=λv=>[(au (ap q.bs 66) (0+0+(q.k)*4+0)),v]) (ret:=λv=>.int .i64 0) [λv=>sA q.bs (d6 (q.xs.set (0+0+(q.k)*4+0) v) (0+0+(q.k)*4+0) [] q.g),λv=>tg v 1 (eF [] q.tl (λ_=>none) q.g)] [0,2] [1] rfl rfl rfl rfl (s5 (λ_ _ _ _ h=>h) (qX (λ_ _ _ _ _ h=>h) nr)) (np (v:=(au (ap q.bs 66) (0+0+(q.k)*4+0))) (args:=λv=>[v]) (cu rfl) (f_ (ak (by kernel_rfl) (by kernel_rfl)))) (λι cd hcd=>(vk (by kernel_rfl) (by kernel_rfl))) (λv w F ho hn hF=>F6 (by omega) q.z.2.1 (by rw[q.hxs];omega) hL hn)) fn) rfl [] [] [] 2 rfl rfl [(0,sy 0),(1,sy 4),(2,sy 5),(10,sy 1)] (.tuple #[.bool false,iz 0])).conv (λκ w=>⟨(λ_ h=>bN (a:=λv=>sA q.bs (d6 (q.xs.set (0+0+(q.k)*4+0) v) (0+0+(q.k)*4+0) [] q.g)) (λ_ _ _ _ _ h=>h) h),(λ_ h=>bN (a:=λv=>tg v 1 (eF [] q.tl (λ_=>none) q.g)) (λ_ _ _ _ _ h=>h) h),(λ_ h=>h),trivial⟩)
theorem Ln(q:SQ)(hc:q.xs[0+0+(q.k)*4+3]? = some (.int .i64 q.cnt))(hL:fM q.xs (0+0+(q.k)*4+0) none [] q.hd q.tl q.f):aI prog 57 [] 0 47 ⟨q.W0,q.F0⟩ (pM q) (jQ q) (λκ:ag=>(.tuple #[iz 0,.bool false,iz 0])) (λκ:ag=>(C8 q)):=by have z:=q.z;exact(br (c:=⟨q.W0,q.F0⟩) 40 (kn [au (ap q.bs 66) (0),au (ap q.bs 66) (0+64),au (ap q.bs 66) (0+0),au (ap q.bs 66) (0+0+(q.k)*4),au (ap q.bs 66) (0+0+(q.k)*4+0),au (ap q.bs 66) (0+0+(q.k)*4+3),ap q.bs 66,iN (q.k),iz (q.nn),iz (q.cnt),iz ((q.cnt)+1)] (fc (ae _ _) (fc (ae _ _) (fc (ae _ _) (fc (ae _ _) (fc (ae _ _) (fc (ae _ _) fr)))))) [(.geq,sy 7,iz 0,.bool true),(.lss,sy 7,sy 8,.bool true),(.eql,sy 9,iz 1073741824,.bool false),(.add,sy 9,iz 1,sy 10)] [] [] (fc (λ_ _ _=>aP (by first|(simp;done)|(simp;omega))) (fc (λ_ _ _=>ax (by first|(simp;done)|(simp;omega))) (fc (λ_ _ _=>bL (by first|(simp;done)|(simp;omega))) (fc (λ_ _ _=>bM (by exact aM (by omega) (by omega))) fn)))) fn fn q.W0 q.F0 [jQ q,jQ q,C8 q] [⟨[20,24],[sy 0,.pointer none],none,0,none,.bool false,none⟩,⟨[9],[sy 0],none,0,none,sy 0,none⟩,⟨[7,79,1],[sy 0],none,0,none,sy 1,none⟩,⟨[1,3],[sy 1],none,0,none,sy 8,none⟩,⟨[7,79,0],[sy 0],none,0,none,sy 2,none⟩,⟨[3,77],[sy 2,sy 7],none,0,none,sy 3,none⟩,⟨[9],[sy 3],none,0,none,sy 3,none⟩,⟨[7,76,0],[sy 3],none,0,none,sy 4,none⟩,⟨[9],[sy 3],none,1,none,sy 3,none⟩,⟨[7,76,1],[sy 3],none,1,none,sy 5,none⟩,⟨[1,3],[sy 5],none,1,none,sy 9,none⟩,⟨[2,3],[sy 5,sy 10],none,1,none,undef,some 2⟩] [⟨68,[sy 4],0,none,.tuple #[iz 0,.bool false],some 1⟩]) (fc (b5 rfl (by kernel_rfl)) (fc (ai rfl) (fc (by exact af (ci:=1) (fo:=64) rfl rfl (by omega) dJ rfl rfl) (fc (by exact ah (ci:=1) (m:=0+64) (x:=(iz q.nn)) rfl rfl aG q.hnn (by decide) rfl (λι=>(vk (by kernel_rfl) (by kernel_rfl)))) (fc (by exact af (ci:=1) (fo:=0) rfl rfl (by omega) fg rfl rfl) (fc (by obtain⟨i,i1,i2,i3,i4⟩:=jd;exact hH (ci:=1) (j:=(q.k)) rfl rfl (by omega) underlying77 i1 i2 rfl rfl (by omega) rfl) (fc (ai rfl) (fc (by exact af (ci:=1) (fo:=0) rfl rfl (by omega) gU rfl rfl) (fc (ai rfl) (fc (by exact af (ci:=1) (fo:=3) rfl rfl (by omega) kj rfl rfl) (fc (by exact ah (ci:=1) (m:=0+0+(q.k)*4+3) (x:=(iz q.cnt)) rfl rfl aG hc (by simp;omega) rfl (λι=>(vk (by kernel_rfl) (by kernel_rfl)))) (fc (by exact bD (ci:=1) (m:=0+0+(q.k)*4+3) (x:=(iz ((q.cnt)+1))) rfl rfl rfl bE (by simp;omega) rfl (cu rfl) rfl) fn)))))))))))) (fc (cc rfl [aO 79 1 (ap q.bs 66) 66 (q.xs)] [0] [1] (λw F ho hn hF=>CN (by omega) hL.v hn)) fn) rfl [] [] [] 2 rfl rfl [(0,sy 0),(1,sy 7)] (.tuple #[iz 0,.bool false,iz 0]))
theorem Lp(q:SQ)(hc:q.xs[0+0+(q.k)*4+3]? = some (.int .i64 q.cnt))(hL:fM q.xs (0+0+(q.k)*4+0) (some q.bl) [] q.hd q.tl q.f):aI prog 57 [] 0 47 ⟨q.W0,q.F0⟩ (pM q) (C9 q) (λκ:ag=>(.tuple #[iz 0,.bool false,iz 0])) (λκ:ag=>(C_ q)):=by have z:=q.z;exact(br (c:=⟨q.W0,q.F0⟩) 40 (kn [au (ap q.bs 66) (0),au (ap q.bs 66) (0+64),au (ap q.bs 66) (0+0),au (ap q.bs 66) (0+0+(q.k)*4),au (ap q.bs 66) (0+0+(q.k)*4+0),au (ap q.bs 66) (0+0+(q.k)*4+3),ap q.bs 66,iN (q.k),iz (q.nn),iz (q.cnt),iz ((q.cnt)+1)] (fc (ae _ _) (fc (ae _ _) (fc (ae _ _) (fc (ae _ _) (fc (ae _ _) (fc (ae _ _) fr)))))) [(.geq,sy 7,iz 0,.bool true),(.lss,sy 7,sy 8,.bool true),(.eql,sy 9,iz 1073741824,.bool false),(.add,sy 9,iz 1,sy 10)] [] [] (fc (λ_ _ _=>aP (by first|(simp;done)|(simp;omega))) (fc (λ_ _ _=>ax (by first|(simp;done)|(simp;omega))) (fc (λ_ _ _=>bL (by first|(simp;done)|(simp;omega))) (fc (λ_ _ _=>bM (by exact aM (by omega) (by omega))) fn)))) fn fn q.W0 q.F0 [C9 q,[gC q,bX q.bl (0) (q.f),eH q],C_ q] [⟨[20,24],[sy 0,.pointer none],none,0,none,.bool false,none⟩,⟨[9],[sy 0],none,0,none,sy 0,none⟩,⟨[7,79,1],[sy 0],none,0,none,sy 1,none⟩,⟨[1,3],[sy 1],none,0,none,sy 8,none⟩,⟨[7,79,0],[sy 0],none,0,none,sy 2,none⟩,⟨[3,77],[sy 2,sy 7],none,0,none,sy 3,none⟩,⟨[9],[sy 3],none,0,none,sy 3,none⟩,⟨[7,76,0],[sy 3],none,0,none,sy 4,none⟩,⟨[9],[sy 3],none,1,none,sy 3,none⟩,⟨[7,76,1],[sy 3],none,1,none,sy 5,none⟩,⟨[1,3],[sy 5],none,1,none,sy 9,none⟩,⟨[2,3],[sy 5,sy 10],none,1,none,undef,some 2⟩] [⟨68,[sy 4],0,none,.tuple #[iz 0,.bool false],some 1⟩]) (fc (b5 rfl (by kernel_rfl)) (fc (ai rfl) (fc (by exact af (ci:=1) (fo:=64) rfl rfl (by omega) dJ rfl rfl) (fc (by exact ah (ci:=1) (m:=0+64) (x:=(iz q.nn)) rfl rfl aG q.hnn (by decide) rfl (λι=>(vk (by kernel_rfl) (by kernel_rfl)))) (fc (by exact af (ci:=1) (fo:=0) rfl rfl (by omega) fg rfl rfl) (fc (by obtain⟨i,i1,i2,i3,i4⟩:=jd;exact hH (ci:=1) (j:=(q.k)) rfl rfl (by omega) underlying77 i1 i2 rfl rfl (by omega) rfl) (fc (ai rfl) (fc (by exact af (ci:=1) (fo:=0) rfl rfl (by omega) gU rfl rfl) (fc (ai rfl) (fc (by exact af (ci:=1) (fo:=3) rfl rfl (by omega) kj rfl rfl) (fc (by exact ah (ci:=1) (m:=0+0+(q.k)*4+3) (x:=(iz q.cnt)) rfl rfl aG hc (by simp;omega) rfl (λι=>(vk (by kernel_rfl) (by kernel_rfl)))) (fc (by exact bD (ci:=1) (m:=0+0+(q.k)*4+3) (x:=(iz ((q.cnt)+1))) rfl rfl rfl bE (by simp;omega) rfl (cu rfl) rfl) fn)))))))))))) (fc (cc rfl [aO 79 1 (ap q.bs 66) 66 (q.xs),bX q.bl (0) (q.f)] [0,2] [1] (λw F ho hn hF=>CO q.bl (by omega) hL.v hn)) fn) rfl [] [] [] 2 rfl rfl [(0,sy 0),(1,sy 7)] (.tuple #[iz 0,.bool false,iz 0]))
theorem Lq(q:SQ)(hL:fM q.xs (0+0+(q.k)*4+0) (some q.bl) (q.g::q.l) q.hd q.tl q.f)(hll:q.l.length<=4000)(hw:q.fw q.g=some (q.k:Int)):aI prog 57 [] 0 47 ⟨q.W0,q.F0⟩ (pM q) (C' q) (λκ:ag=>(.tuple #[iz q.g,.bool true,iz 0])) (λκ:ag=>(Da q)):=by have z:=q.z;obtain⟨i,i1,i2,i3,i4⟩:=jd;exact(br (c:=⟨q.W0,q.F0⟩) 40 (kn [au (ap q.bs 66) (0),au (ap q.bs 66) (0+64),au (ap q.bs 66) (0+0),au (ap q.bs 66) (0+0+(q.k)*4),au (ap q.bs 66) (0+0+(q.k)*4+0),au (ap q.bs 66) (0+65),ap q.bs 66,iN (q.k),iz (q.nn),iz (q.g),.map (some q.bw)] (fc (ae _ _) (fc (ae _ _) (fc (ae _ _) (fc (ae _ _) (fc (ae _ _) (fc (ae _ _) fr)))))) [(.geq,sy 7,iz 0,.bool true),(.lss,sy 7,sy 8,.bool true)] [] [] (fc (λ_ _ _=>aP (by first|(simp;done)|(simp;omega))) (fc (λ_ _ _=>ax (by first|(simp;done)|(simp;omega))) fn)) fn fn q.W0 q.F0 [C' q,[gC q,bX q.bl (q.l.length+1) (q.f),eH q],[gC q,bX q.bl (q.l.length+1) (q.f),Ev.mapA prog 3 3 (q.bw) (q.nw) (Ev.upd (q.fw) (q.g) none)],Da q] [⟨[20,24],[sy 0,.pointer none],none,0,none,.bool false,none⟩,⟨[9],[sy 0],none,0,none,sy 0,none⟩,⟨[7,79,1],[sy 0],none,0,none,sy 1,none⟩,⟨[1,3],[sy 1],none,0,none,sy 8,none⟩,⟨[7,79,0],[sy 0],none,0,none,sy 2,none⟩,⟨[3,77],[sy 2,sy 7],none,0,none,sy 3,none⟩,⟨[9],[sy 3],none,0,none,sy 3,none⟩,⟨[7,76,0],[sy 3],none,0,none,sy 4,none⟩,⟨[20,24],[sy 0,.pointer none],none,1,none,.bool false,none⟩,⟨[9],[sy 0],none,1,none,sy 0,none⟩,⟨[7,79,2],[sy 0],none,1,none,sy 5,none⟩,⟨[1,71],[sy 5],none,1,none,sy 10,none⟩,⟨[5,71,1],[sy 10,sy 9],none,1,none,.tuple #[sy 7,.bool true],none⟩,⟨[12,71,3],[sy 10,sy 9],none,1,none,.tuple #[],some 2⟩,⟨[9],[sy 0],none,2,none,sy 0,none⟩,⟨[7,79,0],[sy 0],none,2,none,sy 2,none⟩,⟨[3,77],[sy 2,sy 7],none,2,none,sy 3,none⟩,⟨[7,76,0],[sy 3],none,2,none,sy 4,none⟩] [⟨68,[sy 4],0,none,.tuple #[sy 9,.bool true],some 1⟩,⟨78,[sy 4,sy 9],2,none,.bool true,some 3⟩]) (fc (b5 rfl (by kernel_rfl)) (fc (ai rfl) (fc (by exact af (ci:=1) (fo:=64) rfl rfl (by omega) dJ rfl rfl) (fc (by exact ah (ci:=1) (m:=0+64) (x:=(iz q.nn)) rfl rfl aG q.hnn (by decide) rfl (λι=>(vk (by kernel_rfl) (by kernel_rfl)))) (fc (by exact af (ci:=1) (fo:=0) rfl rfl (by omega) fg rfl rfl) (fc (by exact hH (ci:=1) (j:=(q.k)) rfl rfl (by omega) underlying77 i1 i2 rfl rfl (by omega) rfl) (fc (ai rfl) (fc (by exact af (ci:=1) (fo:=0) rfl rfl (by omega) gU rfl rfl) (fc (b5 rfl (by kernel_rfl)) (fc (ai rfl) (fc (by exact af (ci:=1) (fo:=65) rfl rfl (by omega) oH rfl rfl) (fc (by exact ah (ci:=1) (m:=0+65) (x:=(.map (some q.bw))) rfl rfl mB q.G6 (by decide) rfl (λι=>(vk (by kernel_rfl) (by kernel_rfl)))) (fc (by exact sT tn (ci:=3) rfl rfl rfl rfl (by first | assumption | exact aV (by omega) (by omega)) hw rfl) (fc (by exact FG tn (ci:=3) rfl rfl rfl rfl rfl rfl (by first | assumption | exact aV (by omega) (by omega))) (fc (ai rfl) (fc (by exact af (ci:=1) (fo:=0) rfl rfl (by omega) fg rfl rfl) (fc (by exact hH (ci:=1) (j:=(q.k)) rfl rfl (by omega) underlying77 i1 i2 rfl rfl (by omega) rfl) (fc (by exact af (ci:=1) (fo:=0) rfl rfl (by omega) gU rfl rfl) fn)))))))))))))))))) (fc (by exact cc rfl [aO 79 1 (ap q.bs 66) 66 (q.xs),bX q.bl (q.l.length+1) (q.f)] [0,2] [1] (λw F ho hn hF=>eY q.bl (by omega) (by omega) (by omega) hL.v (by rw[hL.h,hL.rep.hd q.g rfl]) hn)) (fc (cc rfl [sA q.bs (AJ q.xs (0+0+(q.k)*4+0) q.l q.f q.g),bX q.bl q.l.length (C0 q.l q.f q.g)] [0,1] [2] (λw F ho hn hF=>AK (by omega) hll hL hn)) fn)) rfl [] [] [] 3 rfl rfl [(0,sy 0),(1,sy 7)] (.tuple #[sy 9,.bool true,iz 0]))
theorem Lr(q:SQ)(hL:fM q.xs (0+0+(q.k)*4+0) none q.l q.hd q.tl q.f)(hll:q.l.length<=12):aI prog 15 [] 0 20 ⟨q.W0,q.F0⟩ (pM q) (jQ q) (λκ:ag=>(dv κ 403)) (λκ:ag=>[fZ (dv κ 403) [],gC q,eH q]):=by have z:=q.z;exact(br (c:=⟨q.W0,q.F0⟩) 40 (kn [au (ap q.bs 66) (0),au (ap q.bs 66) (0+64),au (ap q.bs 66) (0+0),au (ap q.bs 66) (0+0+(q.k)*4),au (ap q.bs 66) (0+0+(q.k)*4+0),ap q.bs 66,iN (q.k),iz (q.nn)] (fc (ae _ _) (fc (ae _ _) (fc (ae _ _) (fc (ae _ _) (fc (ae _ _) fr))))) [(.geq,sy 6,iz 0,.bool true),(.lss,sy 6,sy 7,.bool true)] [] [] (fc (λ_ _ _=>aP (by first|(simp;done)|(simp;omega))) (fc (λ_ _ _=>ax (by first|(simp;done)|(simp;omega))) fn)) fn fn q.W0 q.F0 [jQ q,[ce 403 (λv=>fZ v []),gC q,eH q]] [⟨[20,24],[sy 0,.pointer none],none,0,none,.bool false,none⟩,⟨[9],[sy 0],none,0,none,sy 0,none⟩,⟨[7,79,1],[sy 0],none,0,none,sy 1,none⟩,⟨[1,3],[sy 1],none,0,none,sy 7,none⟩,⟨[7,79,0],[sy 0],none,0,none,sy 2,none⟩,⟨[3,77],[sy 2,sy 6],none,0,none,sy 3,none⟩,⟨[7,76,0],[sy 3],none,0,none,sy 4,none⟩] [⟨40,[sy 4],0,some 403,.complex .f32 403 0,some 1⟩]) (fc (b5 rfl (by kernel_rfl)) (fc (ai rfl) (fc (by exact af (ci:=1) (fo:=64) rfl rfl (by omega) dJ rfl rfl) (fc (by exact ah (ci:=1) (m:=0+64) (x:=(iz q.nn)) rfl rfl aG q.hnn (by decide) rfl (λι=>(vk (by kernel_rfl) (by kernel_rfl)))) (fc (by exact af (ci:=1) (fo:=0) rfl rfl (by omega) fg rfl rfl) (fc (by obtain⟨i,i1,i2,i3,i4⟩:=jd;exact hH (ci:=1) (j:=(q.k)) rfl rfl (by omega) underlying77 i1 i2 rfl rfl (by omega) rfl) (fc (by exact af (ci:=1) (fo:=0) rfl rfl (by omega) gU rfl rfl) fn))))))) (fc (cm rfl [λv=>fZ v []] [aO 79 1 (ap q.bs 66) 66 (q.xs)] [0] [1] (λw F ho hn hF=>JM (by omega) hL.v hn)) fn) rfl [] [] [] 1 rfl rfl [(0,sy 0),(1,sy 6)] (.complex .f32 403 0)).conv (λκ w=>⟨(λ_ h=>bN (a:=λv=>fZ v []) (λ_ _ _ _ _ h=>h) h),(λ_ h=>h),(λ_ h=>h),trivial⟩)
theorem Ls(q:SQ)(hL:fM q.xs (0+0+(q.k)*4+0) (some q.bl) q.l q.hd q.tl q.f)(hll:q.l.length<=12):aI prog 15 [] 0 20 ⟨q.W0,q.F0⟩ (pM q) (q9 q) (λκ:ag=>(dv κ 403)) (λκ:ag=>[fZ (dv κ 403) q.l,gC q,bX q.bl (q.l.length) (q.f),eH q]):=by have z:=q.z;exact(br (c:=⟨q.W0,q.F0⟩) 40 (kn [au (ap q.bs 66) (0),au (ap q.bs 66) (0+64),au (ap q.bs 66) (0+0),au (ap q.bs 66) (0+0+(q.k)*4),au (ap q.bs 66) (0+0+(q.k)*4+0),ap q.bs 66,iN (q.k),iz (q.nn)] (fc (ae _ _) (fc (ae _ _) (fc (ae _ _) (fc (ae _ _) (fc (ae _ _) fr))))) [(.geq,sy 6,iz 0,.bool true),(.lss,sy 6,sy 7,.bool true)] [] [] (fc (λ_ _ _=>aP (by first|(simp;done)|(simp;omega))) (fc (λ_ _ _=>ax (by first|(simp;done)|(simp;omega))) fn)) fn fn q.W0 q.F0 [q9 q,[ce 403 (λv=>fZ v q.l),gC q,bX q.bl (q.l.length) (q.f),eH q]] [⟨[20,24],[sy 0,.pointer none],none,0,none,.bool false,none⟩,⟨[9],[sy 0],none,0,none,sy 0,none⟩,⟨[7,79,1],[sy 0],none,0,none,sy 1,none⟩,⟨[1,3],[sy 1],none,0,none,sy 7,none⟩,⟨[7,79,0],[sy 0],none,0,none,sy 2,none⟩,⟨[3,77],[sy 2,sy 6],none,0,none,sy 3,none⟩,⟨[7,76,0],[sy 3],none,0,none,sy 4,none⟩] [⟨40,[sy 4],0,some 403,.complex .f32 403 0,some 1⟩]) (fc (b5 rfl (by kernel_rfl)) (fc (ai rfl) (fc (by exact af (ci:=1) (fo:=64) rfl rfl (by omega) dJ rfl rfl) (fc (by exact ah (ci:=1) (m:=0+64) (x:=(iz q.nn)) rfl rfl aG q.hnn (by decide) rfl (λι=>(vk (by kernel_rfl) (by kernel_rfl)))) (fc (by exact af (ci:=1) (fo:=0) rfl rfl (by omega) fg rfl rfl) (fc (by obtain⟨i,i1,i2,i3,i4⟩:=jd;exact hH (ci:=1) (j:=(q.k)) rfl rfl (by omega) underlying77 i1 i2 rfl rfl (by omega) rfl) (fc (by exact af (ci:=1) (fo:=0) rfl rfl (by omega) gU rfl rfl) fn))))))) (fc (cm rfl [λv=>fZ v q.l] [aO 79 1 (ap q.bs 66) 66 (q.xs),bX q.bl (q.l.length) (q.f)] [0,2] [1] (λw F ho hn hF=>JN q.l (by omega) hll hL hn)) fn) rfl [] [] [] 1 rfl rfl [(0,sy 0),(1,sy 6)] (.complex .f32 403 0)).conv (λκ w=>⟨(λ_ h=>bN (a:=λv=>fZ v q.l) (λ_ _ _ _ _ h=>h) h),(λ_ h=>h),(λ_ h=>h),(λ_ h=>h),trivial⟩)
end Go.Proofs.Ytankbefdlbcdnaa
namespace Go.Proofs.Ytankbefdlbcdnaa
open Go.Ev Go.Proofs.Try
open Go.RowKit
open Go.Ev (iz iN pz)
attribute [local irreducible] dF
structure xE where
 o:Option Nat
 l:List Int
 hd:Int
 tl:Int
 f:Int->Option Lk
abbrev tV(z:xE):aK:=M5 z.o z.l.length z.f
abbrev qz(bw nw:Nat)(fw:Int->Option Int):aK:=Ev.mapA prog 3 3 bw nw fw
abbrev km(k:Nat):Nat:=0+0+k*4
def xE.At(z:xE)(xs:List Value)(k:Nat):Prop:=fM xs (km k+0) z.o z.l z.hd z.tl z.f
structure Cells(xs:List Value)(nn:Int)(bw:Nat):Prop where
 len:xs.length=66
 cn:xs[0+64]? = some (.int .i64 nn)
 cw:xs[0+65]? = some (.map (some bw))
 cb:nn<=16
section
variable{w:World}{F:Nat->Prop}{bs bw nw k:Nat}{xs:List Value}{fw:Int->Option Int}{g nn cnt:Int}{z:xE}
abbrev sq(w:World)(F:Nat->Prop)(bs:Nat)(xs:List Value)(k bw nw:Nat)(fw:Int->Option Int)(g nn cnt:Int)(C:Cells xs nn bw)(bl:Nat)(l:List Int)(hd tl:Int)(f:Int->Option Lk)(h:k<4/\(0<=g/\g<4096)/\(k:Int)<nn/\nw<=1000000/\0<=cnt/\cnt<1073741824):SQ :=
 ⟨w,F,bs,xs,C.len,k,bw,nw,fw,g,nn,C.cn,C.cw,cnt,bl,l,hd,tl,f,⟨h.1,h.2.1,h.2.2.1,C.cb,h.2.2.2.1,h.2.2.2.2.1,h.2.2.2.2.2⟩⟩
theorem Db(C:Cells xs nn bw)(hk:k<4)(hn:(k:Int)<nn)(hg:0<=g/\g<4096)(hw:nw<=1000000)(hf:fw g=none)(hc:xs[km k+3]? = some (.int .i64 cnt))(hp:0<cnt/\cnt<1073741824)(h:bu [sA bs xs,qz bw nw fw] F w) :
  Calls prog 56 #[sP bs 0,iN k,iz g] w λe w'=>e=.returned (.tuple #[.bool true,.int .i64 0])/\ay ⟨w,F⟩ [sA bs (xs.set (km k+3) (iz (cnt-1))),qz bw nw fw] w' :=
 ao (NB (sq w F bs xs k bw nw fw g nn cnt C 0 [] 0 0 (λ_=>none) ⟨hk,hg,hn,hw,by omega,hp.2⟩) hc hp.1 hf) (by kernel_rfl) h (by simp) (by simp) (λκ w1 hh=>⟨rfl,hh⟩)
theorem bS{c:eO}{l:List aK}{w:World}(h:ay c l w):ay c (Cv::l) w:=by
 obtain⟨F,h1,h2,h3⟩:=h.ex;exact⟨⟨_,cf (a:=Cv) (Fa:=λ_=>False) (λj hj=>hj) h1 (λj hj=>hj.elim) (λj hj=>hj.elim),h2,λj hj=>hj.elim (λh=>h.elim) (h3 j)⟩⟩
theorem Dc{xs:List Value}{m:Nat}{v:Value}(h:xs[m]? = some v):xs.set m v=xs:=by
 refine List.ext_getElem? (λi=>?_);rw[List.getElem?_set]
 split
 ·rename_i e
  subst e;have hlt:=(List.getElem?_eq_some_iff.1 h).1;rw[if_pos hlt,h]
 ·rfl
theorem Dd(C:Cells xs nn bw)(hk:k<4)(hn:(k:Int)<nn)(hg:0<=g/\g<4096)(hw:nw<=999999)(hf:fw g=none)(hc:xs[km k+3]? = some (.int .i64 0))(L:z.At xs k)(hgl:g ∉ z.l)(hll:z.l.length<=4000)(h:bu [sA bs xs,qz bw nw fw,tV z] F w) :
  Calls prog 56 #[sP bs 0,iN k,iz g] w λe w'=>∃ v cd,Ev.dec cd=v/\e=.returned (.tuple #[.bool false,.int .i64 0])/\ay ⟨w,F⟩ [sA bs (d6 (xs.set (km k+0) v) (km k+0) z.l g),qz bw (nw+1) (Ev.upd fw g (some (k:Int))),tg v (z.l.length+1) (eF z.l z.tl z.f g)] w':=by
 obtain⟨o,l,hd,tl,f⟩:=z;refine bx (N:=56) (tm:=[(0,sP bs 0),(1,iN k),(2,iz g)]) (by kernel_rfl) h (by simp) (by simp) (λA hA=>?_);cases o with
 | none =>
  have hl:l=[]:=L.no rfl;subst hl;have hf0:f=λ_=>none:=funext λy=>L.rep.no y (by simp)
  subst hf0;refine Lj (sq w F bs xs k bw nw fw g nn 0 C 0 [] hd tl (λ_=>none) ⟨hk,hg,hn,by omega,by decide,by decide⟩) hc rfl hf A w _ (hA.to (λq hq=>hq) (λhh=>hh.sel [0,1])) ?_;intro κ A1 w1 h1;refine Lm (sq w F bs xs k bw (nw+1) (Ev.upd fw g (some (k:Int))) g nn 0 C 0 [] hd tl (λ_=>none) ⟨hk,hg,hn,by omega,by decide,by decide⟩) L hgl hll A1 w1 _ h1 ?_;intro κ2 w2 h2;exact⟨_,(κ2 407).getD 0,rfl,rfl,h2.sel [0,2,1]⟩
 | some b =>
  refine Li (sq w F bs xs k bw nw fw g nn 0 C b l hd tl f ⟨hk,hg,hn,by omega,by decide,by decide⟩) hc rfl hf A w _ hA ?_;intro κ A1 w1 h1;refine Ll (sq w F bs xs k bw (nw+1) (Ev.upd fw g (some (k:Int))) g nn 0 C b l hd tl f ⟨hk,hg,hn,by omega,by decide,by decide⟩) L hgl hll A1 w1 _ h1 ?_;intro κ2 w2 h2;refine⟨.map (some b),_,j5 b,rfl,?_⟩;rw[Dc (xs:=xs) (m:=km k+0) (v:=.map (some b)) L.v];exact((h2.sel [2,1,3]).head (b:=tg (.map (some b)) (l.length+1) (eF l tl f g)) (λG h1=>⟨b,rfl,h1⟩)).sel [1,2,0]
theorem AL(C:Cells xs nn bw)(hk:k<4)(hn:(k:Int)<nn)(hw:nw<=999999)(hc:xs[km k+3]? = some (.int .i64 cnt))(hp:0<=cnt/\cnt<1073741824)(L:z.At xs k)(hl:z.l=[])(h:bu [sA bs xs,qz bw nw fw,tV z] F w) :
  Calls prog 57 #[sP bs 0,iN k] w λe w'=>e=.returned (.tuple #[.int .i64 0,.bool false,.int .i64 0])/\ay ⟨w,F⟩ [sA bs (xs.set (km k+3) (iz (cnt+1))),qz bw nw fw,tV z] w':=by
 obtain⟨o,l,hd,tl,f⟩:=z;obtain rfl:l=[]:=hl;refine bx (N:=47) (tm:=[(0,sP bs 0),(1,iN k)]) (by kernel_rfl) h (by simp) (by simp) (λA hA=>?_);cases o with
 | none =>
  refine Ln (sq w F bs xs k bw nw fw 0 nn cnt C 0 [] hd tl f ⟨hk,by decide,hn,by omega,hp.1,hp.2⟩) hc L A w _ (hA.to (λq hq=>hq) (λhh=>hh.sel [0,1])) ?_;intro κ w1 h1;exact⟨rfl,(bS h1).sel [1,2,0]⟩
 | some b =>
  refine Lp (sq w F bs xs k bw nw fw 0 nn cnt C b [] hd tl f ⟨hk,by decide,hn,by omega,hp.1,hp.2⟩) hc L A w _ hA ?_;intro κ w1 h1;exact⟨rfl,h1.sel [0,2,1]⟩
theorem De{r:List Int}(C:Cells xs nn bw)(hk:k<4)(hn:(k:Int)<nn)(hg:0<=g/\g<4096)(hw:nw<=999999)(L:z.At xs k)(hl:z.l=g::r)(hll:r.length<=4000)(hf:fw g=some (k:Int))(h:bu [sA bs xs,qz bw nw fw,tV z] F w) :
  Calls prog 57 #[sP bs 0,iN k] w λe w'=>e=.returned (.tuple #[iz g,.bool true,.int .i64 0])/\ay ⟨w,F⟩ [sA bs (AJ xs (km k+0) r z.f g),qz bw nw (Ev.upd fw g none),M5 z.o r.length (C0 r z.f g)] w':=by
 obtain⟨o,l,hd,tl,f⟩:=z;obtain rfl:l=g::r:=hl;cases o with
 | none=>cases L.no rfl
 | some b=>exact ao (Lq (sq w F bs xs k bw nw fw g nn 0 C b r hd tl f ⟨hk,hg,hn,by omega,by decide,by decide⟩) L hll hf) (by kernel_rfl) h (by simp) (by simp) (λκ w1 hh=>⟨rfl,hh.sel [0,2,1]⟩)
theorem xF(C:Cells xs nn bw)(hk:k<4)(hn:(k:Int)<nn)(hw:nw<=999999)(L:z.At xs k)(hll:z.l.length<=12)(h:bu [sA bs xs,qz bw nw fw,tV z] F w) :
  Calls prog 15 #[sP bs 0,iN k] w λe w'=>∃ v cd,Ev.dec cd=v/\e=.returned v/\ay ⟨w,F⟩ [fZ v z.l,sA bs xs,qz bw nw fw,tV z] w':=by
 obtain⟨o,l,hd,tl,f⟩:=z;refine bx (N:=20) (tm:=[(0,sP bs 0),(1,iN k)]) (by kernel_rfl) h (by simp) (by simp) (λA hA=>?_);cases o with
 | none =>
  obtain rfl:l=[]:=L.no rfl;refine Lr (sq w F bs xs k bw nw fw 0 nn 0 C 0 [] hd tl f ⟨hk,by decide,hn,by omega,by decide,by decide⟩) L hll A w _ (hA.to (λq hq=>hq) (λhh=>hh.sel [0,1])) ?_;intro κ w1 h1;exact⟨_,(κ 403).getD 0,rfl,rfl,(bS h1).sel [1,2,3,0]⟩
 | some b =>
  refine Ls (sq w F bs xs k bw nw fw 0 nn 0 C b l hd tl f ⟨hk,by decide,hn,by omega,by decide,by decide⟩) L hll A w _ hA ?_;intro κ w1 h1;exact⟨_,(κ 403).getD 0,rfl,rfl,h1.sel [0,1,3,2]⟩
end
end Go.Proofs.Ytankbefdlbcdnaa
namespace Go.Proofs.Ytankbefdlbcdnaa
open Go.Ev Go.Proofs.Try
open Go.RowKit
open Go.Ev (iz iN pz)
theorem nB{P:Program}{fn:FuncId}{args:Array Value}{R:Ending->World->Prop}{F:Nat->Prop}{w:World}{l r:List aK}(h:ay ⟨w,F⟩ (l++r) w)(H:∀ G,bu l G w->(∀ (m:List aK) (w':World),ay ⟨w,G⟩ m w'->ay ⟨w,F⟩ (m++r) w')->Calls P fn args w R):Calls P fn args w R:=by
 obtain⟨F1,n1,n2,n3⟩:=h.ex;obtain⟨A,B,k1,k2,k3,k4⟩:=cC n1;exact H A k1 (λm w' hh=>(hh.frame k2 k3).into (l:=[]) n2 (λj hj=>n3 j ((k4 j).2 hj)))
theorem q_{c:eO}{l m:List aK}{w:World}(h:ay c (l++m) w):ay c (m++l) w:=by
 obtain⟨F1,n1,n2,n3⟩:=h.ex;obtain⟨A,B,k1,k2,k3,k4⟩:=cC n1;exact⟨⟨F1,dk (dB k2 k1 (λj h1 h2=>k3 j h2 h1)) (λj=>by rw[k4 j];exact Or.comm),n2,n3⟩⟩
theorem F7{c:eO}{l l' m:List aK}{w:World}(h:ay c (l++m) w)(t:∀ c',ay c' l w->ay c' l' w):ay c (l'++m) w:=by
 obtain⟨F1,n1,n2,n3⟩:=h.ex;obtain⟨A,B,k1,k2,k3,k4⟩:=cC n1;exact((t ⟨w,A⟩ (ay.start k1)).frame k2 k3).into (l:=[]) n2 (λj hj=>n3 j ((k4 j).2 hj))
def zL(z:Nat->xE):List aK:=[tV (z 0),tV (z 1),tV (z 2),tV (z 3)]
def zR(z:Nat->xE)(k:Nat):List aK:=(zL z).eraseIdx k
def aZ{α:Type}(z:Nat->α)(k:Nat)(y:α):Nat->α:=λi=>if i=k then y else z i
theorem Ih{c:eO}{a b:aK}{z:Nat->xE}{k:Nat}{w:World}(hk:k<4)(h:ay c (a::b::zL z) w):ay c ([a,b,tV (z k)]++zR z k) w:=by
 match k,hk with
 | 0,_=>exact h.sel [0,1,2,3,4,5]
 | 1,_=>exact h.sel [0,1,3,2,4,5]
 | 2,_=>exact h.sel [0,1,4,2,3,5]
 | 3,_=>exact h.sel [0,1,5,2,3,4]
theorem Ii{c:eO}{a b:aK}{z:Nat->xE}{k:Nat}{y:xE}{w:World}(hk:k<4)(h:ay c ([a,b,tV y]++zR z k) w):ay c (a::b::zL (aZ z k y)) w:=by
 match k,hk with
 | 0,_=>exact h.sel [0,1,2,3,4,5]
 | 1,_=>exact h.sel [0,1,3,2,4,5]
 | 2,_=>exact h.sel [0,1,3,4,2,5]
 | 3,_=>exact h.sel [0,1,3,4,5,2]
structure Sem where
 nn:Nat
 ct:Nat->Nat
 ln:Nat->List Int
 nw:Nat
structure Sem.Ok(s:Sem):Prop where
 n1:s.nn<=4
 ct:∀ k,k<4->s.ct k<=100000
 len:∀ k,k<4->(s.ln k).length<=12
 rng:∀ k,k<4->∀ g ∈ s.ln k,0<=g/\g<4096
 vj:∀ i j,i<4->j<4->i≠j->∀ g ∈ s.ln i,g ∉ s.ln j
 nw:s.nw<=99999
structure ky where
 bw:Nat
 fw:Int->Option Int
 xs:List Value
 z:Nat->xE
structure ky.Fits(i:ky)(s:Sem):Prop where
 c:Cells i.xs (s.nn:Int) i.bw
 z:∀ k,k<4->(i.z k).At i.xs k/\(i.z k).l=s.ln k/\i.xs[km k+3]? = some (.int .i64 (s.ct k:Int))
 w:∀ k,k<4->∀ g ∈ s.ln k,i.fw g=some (k:Int)
 no:∀ g,(∀ k,k<4->g ∉ s.ln k)->i.fw g=none
abbrev qA(bs:Nat)(i:ky)(nw:Nat):List aK:=sA bs i.xs::qz i.bw nw i.fw::zL i.z
def F8(bs:Nat)(s:Sem):aK:=Jt (λi:ky=>i.Fits s) (λi=>CF (qA bs i s.nw))
def aQ(bs:Nat)(s:Sem):aK where
 p:=λ_ F w=>(F8 bs s).p (λ_=>none) F w
 keep:=λ_ F w w' hk h=>(F8 bs s).keep (λ_=>none) F w w' hk h
 mono:=λ_ _ _ _ _ h=>h
section
variable{c:eO}{l:List aK}{w:World}{bs:Nat}{s:Sem}{F:Nat->Prop}
theorem Df(h:ay c (aQ bs s::l) w):∃ i:ky,i.Fits s/\ay c (qA bs i s.nw++l) w:=by
 have h1:ay c (F8 bs s::l) w:=h.head (λF h=>h);obtain⟨i,hi,h2⟩:=ay.Ju (a:=λi:ky=>CF (qA bs i s.nw)) h1;exact⟨i,hi,h2.open⟩
theorem dO{i:ky}(hi:i.Fits s)(h:ay c (qA bs i s.nw++l) w):ay c (aQ bs s::l) w:=by
 have h2:ay c (F8 bs s::l) w:=ay.Jv (a:=λi:ky=>CF (qA bs i s.nw)) i hi h.shut;exact h2.head (λF h=>h)
theorem iC{fn:FuncId}{args:Array Value}{R:Ending->World->Prop}{k:Nat}(hk:k<4)(h:bu [aQ bs s] F w)
  (H:∀ (i:ky) (G:Nat->Prop),i.Fits s->bu [sA bs i.xs,qz i.bw s.nw i.fw,tV (i.z k)] G w->(∀ (m:List aK) (xs':List Value) (F9:Nat) (Ga:Int->Option Int) (y:xE) (w':World),ay ⟨w,G⟩ (sA bs xs'::qz i.bw F9 Ga::tV y::m) w'->ay ⟨w,F⟩ (qA bs ⟨i.bw,Ga,xs',aZ i.z k y⟩ F9++m) w')->Calls prog fn args w R):Calls prog fn args w R:=by
 obtain⟨i,hi,h1⟩:=Df (ay.start h);rw[List.append_nil]at h1;refine nB (Ih hk h1) (λG n1 n2=>H i G hi n1 (λm xs' F9 Ga y w' hh=>?_));have h3:=n2 _ _ hh;have h4:ay ⟨w,F⟩ ((zR i.z k++[sA bs xs',qz i.bw F9 Ga,tV y])++m) w':=by
  have:=q_ (l:=[sA bs xs',qz i.bw F9 Ga,tV y]++m) (m:=zR i.z k) h3
  rwa [← List.append_assoc]at this
 exact F7 h4 (λc' h5=>Ii hk (q_ h5))
end
end Go.Proofs.Ytankbefdlbcdnaa
