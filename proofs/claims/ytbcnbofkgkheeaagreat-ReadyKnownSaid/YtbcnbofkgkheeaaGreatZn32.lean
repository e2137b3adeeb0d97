/- Part of a proof: see the last text. -/
import Derived.Test.YtbcnbofkgkheeaaGreatZn31
import Derived.Test.YtbcnbofkgkheeaaGreatZn10
import Derived.Test.YtbcnbofkgkheeaaGreatZn17
import Derived.Deep.Slices
import Derived.ChangeSame
import Derived.Test.YtbcnbofkgkheeaaGreatZn16
import Derived.Test.YtbcnbofkgkheeaaGreatZn26
import Derived.Test.YtbcnbofkgkheeaaGreatZn23
set_option linter.unusedSectionVars false
set_option linter.unusedSimpArgs false
set_option linter.unusedVariables false
namespace Go.Proofs.YtbcnbofkgkheeaaGreat
open Go.Ev Go.Proofs.Tryz
open Go.RowKit
open Go.Ev (sy iz uz wz iN uN wN pz dv fc fn ak vk vd kn pc cc cr cm cd fr)
set_option maxRecDepth 8000
attribute [local irreducible] dL
structure LP where
 W:World
 lv:Value
 ps:List bu
 hl:lT 3 lv ps.length (ps.flatMap bu.cells) W
 hv:∀ k ∈ ps,c7 k.v
 bv:Value
 bs:List Int
 hs:lT 1 bv bs.length (hJ bs) W
 hz:∀ i,0<=bs.getD i 0/\bs.getD i 0<256
theorem S0(c:aT){p:Nat}(hp:p<c.n)(w:World):Calls prog 18 #[c.v,.int .i64 (p:Int)] w λe w'=>e=.returned (.agg (yL (cD c p) true false (.slice none 0 0) (.slice none 0 0)).toArray)/\Below w.heap.size w w':=IX c p hp w
theorem S1(c:aT){p:Nat}(hp:p<c.n){gg:Int}(hg:0<=gg)(w:World):Calls prog 15 #[c.v,.int .i64 (p:Int),.int .i64 gg] w λe w'=>e=.returned (.agg (yL (cE c p gg) false false (.slice none 0 0) (.slice none 0 0)).toArray)/\Below w.heap.size w w':=IZ c p hp gg hg w
theorem BN(c:aT){aJ:Bool}{g:Int}(hg:aJ=false->0<=g/\g<=9223372036854775807):eM c ⟨aJ,g,1,0,none⟩ :=
 ⟨show 1<=3 by decide,hg,show c7 0 by unfold c7;omega,(λx h=>by cases h),(λ_=>rfl),(λh=>by cases h),(λh=>by cases h)⟩
theorem BO(c:aT){us:List Int}{o:Int}(h:Fi c.cf us):bC c ⟨us,o⟩:=⟨(h.good c rfl).len,h.u⟩
theorem N2(c:aT){p:Nat}(hp:p<c.n):da (cD c p) c.cf:=⟨λus h=>⟨rfl,hp,BN c (λh=>by cases h),BO c h⟩,rfl,rfl,rfl⟩
theorem N3(c:aT){p:Nat}(hp:p<c.n){g:Int}(hg:0<=g/\g<=9223372036854775807):da (cE c p g) c.cf:=⟨λus h=>⟨rfl,hp,BN c (λ_=>hg),BO c h⟩,rfl,rfl,rfl⟩
theorem fH(d:Bool)(c:Cf):da ⟨d,none⟩ c:=⟨λus h=>trivial,rfl,rfl,rfl⟩
theorem QR{w0 w:World}{X:Nat->Prop}(ho:jZ w0 X w){j:Nat}(hj:j<w0.heap.size)(hx:¬ X j):j<w.heap.size:=by
 have:=ho j hj hx;rw[Array.getElem?_eq_getElem hj]at this;exact(Array.getElem?_eq_some_iff.1 this).1
theorem gj(s:LP)(c:Cf)(hlp:s.ps.length<=60)(hlb:s.bs.length<=40){x:XS}(hf:da x c){d:Bool}(hd:x.dm=d){v:Value}{w:World}{F:Nat->Prop}(ho:jZ s.W (λ_=>False) w)(hF:∀ j,F j->False\/s.W.heap.size<=j)(h:bI [xW x v] F w) :
  Calls prog 13 #[(bif x.aJ then .iface 52 v else .iface 42 v),.agg (yL x d false (.slice none 0 0) (.slice none 0 0)).toArray,c.v,s.bv,s.lv] w λe w'=>e=.returned (.bool true)/\ah ⟨w,F⟩ [] w':=by
 subst hd;obtain⟨bx,rfl,hh⟩:=yn (ah.start h);obtain⟨F',n1,n2,n3⟩:=hh.ex;have hoff:∀ j,j<s.W.heap.size->¬ False->¬ F' j:=λj hj _ hf'=>by
  rcases n3 j hf' with h' | h'
  ·rcases hF j h' with h'' | h''
   ·exact h''
   ·omega
  ·have:=QR ho hj (λh=>h)
   have h2:w.heap.size<=j:=h';omega
 let q:PL:=⟨w,F',s.lv,s.ps,s.hl.old ho (fF _),s.hl.R1 (X:=λ_=>False) (fF _) hoff,hlp,s.hv,c,s.bv,s.bs,s.hs.old ho (fF _),s.hs.R1 (X:=λ_=>False) (fF _) hoff,by omega,s.hz⟩
 refine(LL q hf n1).mono ?_;rintro e w' ⟨rfl,h1⟩;exact⟨rfl,h1.into (l:=[]) n2 n3⟩
abbrev n0(c:aT):Value:=(.agg #[iN c.n,iN c.q,iz c.g,iz c.m,iz c.t,iz c.s])
abbrev O9:Value:=(.agg #[(iz ((⟨true,none⟩:XS).yi 0)),(iz ((⟨true,none⟩:XS).yi 1)),(iz ((⟨true,none⟩:XS).yi 2)),(iz ((⟨true,none⟩:XS).yi 3)),(iz ((⟨true,none⟩:XS).yi 4)),(iz ((⟨true,none⟩:XS).yi 5)),(iz ((⟨true,none⟩:XS).yi 6)),(iz ((⟨true,none⟩:XS).yi 7)),.bool false,(iz ((⟨true,none⟩:XS).yi 9)),(uz ((⟨true,none⟩:XS).yi 10)),.bool false,(iz ((⟨true,none⟩:XS).yi 12)),(iz ((⟨true,none⟩:XS).yi 13)),(iz ((⟨true,none⟩:XS).yi 14)),(iz ((⟨true,none⟩:XS).yi 15)),(iz ((⟨true,none⟩:XS).yi 16)),(iz ((⟨true,none⟩:XS).yi 17)),(iz ((⟨true,none⟩:XS).yi 18)),(iz ((⟨true,none⟩:XS).yi 19)),(iz ((⟨true,none⟩:XS).yi 20)),(uz ((⟨true,none⟩:XS).yi 21)),.slice none 0 0,.slice none 0 0])
abbrev BP(c:Cf):Value:=(.agg #[iz c.n,iz c.q,iz c.g,iz c.m,iz c.t,iz c.s])
abbrev BQ:Value:=(.agg #[(iz ((⟨false,none⟩:XS).yi 0)),(iz ((⟨false,none⟩:XS).yi 1)),(iz ((⟨false,none⟩:XS).yi 2)),(iz ((⟨false,none⟩:XS).yi 3)),(iz ((⟨false,none⟩:XS).yi 4)),(iz ((⟨false,none⟩:XS).yi 5)),(iz ((⟨false,none⟩:XS).yi 6)),(iz ((⟨false,none⟩:XS).yi 7)),.bool false,(iz ((⟨false,none⟩:XS).yi 9)),(uz ((⟨false,none⟩:XS).yi 10)),.bool false,(iz ((⟨false,none⟩:XS).yi 12)),(iz ((⟨false,none⟩:XS).yi 13)),(iz ((⟨false,none⟩:XS).yi 14)),(iz ((⟨false,none⟩:XS).yi 15)),(iz ((⟨false,none⟩:XS).yi 16)),(iz ((⟨false,none⟩:XS).yi 17)),(iz ((⟨false,none⟩:XS).yi 18)),(iz ((⟨false,none⟩:XS).yi 19)),(iz ((⟨false,none⟩:XS).yi 20)),(uz ((⟨false,none⟩:XS).yi 21)),.slice none 0 0,.slice none 0 0])
abbrev BR:List (Nat×Value):=[(0,.agg #[sy 2,sy 3,sy 4,sy 5,sy 6,sy 7]),(1,sy 8),(2,sy 0),(3,sy 1)]
abbrev LM(s:LP)(c:Cf)(p:Int):List (Nat×Value):=[(0,BP c),(1,iz p),(2,(s.bv)),(3,(s.lv))]
abbrev mP:List (Nat×Value):=[(0,.agg #[sy 2,sy 3,sy 4,sy 5,sy 6,sy 7]),(1,sy 8),(2,sy 9),(3,sy 0),(4,sy 1)]
abbrev y8(s:LP)(c:Cf)(p:Int)(gg:Int):List (Nat×Value):=[(0,BP c),(1,iz p),(2,iz gg),(3,(s.bv)),(4,(s.lv))]
abbrev LN(s:LP)(c:aT)(p:Nat)(gg:Int):List (Nat×Value):=[(0,n0 c),(1,iN p),(2,iz gg),(3,(s.bv)),(4,(s.lv))]
abbrev uO:List aC:=[bP 407 (λv=>xW (⟨false,none⟩:XS) v)]
abbrev LO(s:LP)(c:aT)(p:Int)(gg:Int):List (Nat×Value):=[(0,n0 c),(1,iz p),(2,iz gg),(3,(s.bv)),(4,(s.lv))]
theorem S2(s:LP)(c:Cf)(p:Int)(hb:s.ps.length>60):aK prog 7 [] 0 33 ⟨s.W,λ_=>False⟩ (LM s c p) [] (λκ:ag=>(.bool true)) (λκ:ag=>[]):=(bU (c:=⟨s.W,λ_=>False⟩) 5 (kn [s.bv,s.lv,iz (c.n),iz (c.q),iz (c.g),iz (c.m),iz (c.t),iz (c.s),iz (p),iN (s.ps.length)] (fc s.hs.leaf (fc s.hl.leaf fr)) [(.gtr,sy 9,iz 60,.bool true)] [] [] (fc (λ_ _ _=>a_ (by first|(simp;done)|(simp;omega))) fn) fn fn s.W (λ_=>False) [[]] [⟨[10,23],[sy 1],none,0,none,sy 9,none⟩] [⟨10,[],0,none,.bool true,none⟩]) (fc (bt (ci:=0) rfl rfl s.hl underlying23 rfl rfl) fn) (fc (pc (args:=[]) rfl (λw hb=>bz _)) fn) rfl [] [] [] 0 rfl rfl BR (.bool true))
theorem S3(s:LP)(c:Cf)(p:Int)(hb:¬ s.ps.length>60)(hb2:s.bs.length>40):aK prog 7 [] 0 33 ⟨s.W,λ_=>False⟩ (LM s c p) [] (λκ:ag=>(.bool true)) (λκ:ag=>[]):=(bU (c:=⟨s.W,λ_=>False⟩) 5 (kn [s.bv,s.lv,iz (c.n),iz (c.q),iz (c.g),iz (c.m),iz (c.t),iz (c.s),iz (p),iN (s.ps.length),iN (s.bs.length)] (fc s.hs.leaf (fc s.hl.leaf fr)) [(.gtr,sy 9,iz 60,.bool false),(.gtr,sy 10,iz 40,.bool true)] [] [] (fc (λ_ _ _=>a_ (by first|(simp;done)|(simp;omega))) (fc (λ_ _ _=>a_ (by first|(simp;done)|(simp;omega))) fn)) fn fn s.W (λ_=>False) [[]] [⟨[10,23],[sy 1],none,0,none,sy 9,none⟩,⟨[10,22],[sy 0],none,0,none,sy 10,none⟩] [⟨10,[],0,none,.bool true,none⟩]) (fc (bt (ci:=0) rfl rfl s.hl underlying23 rfl rfl) (fc (bt (ci:=0) rfl rfl s.hs underlying22 rfl rfl) fn)) (fc (pc (args:=[]) rfl (λw hb=>bz _)) fn) rfl [] [] [] 0 rfl rfl BR (.bool true))
theorem S4(s:LP)(c:aT)(p:Nat)(hp:p<c.n)(hlp:s.ps.length<=60)(hlb:s.bs.length<=40):aK prog 7 [] 0 33 ⟨s.W,λ_=>False⟩ [(0,n0 c),(1,iN p),(2,(s.bv)),(3,(s.lv))] [] (λκ:ag=>(.bool true)) (λκ:ag=>[]):=(bU (c:=⟨s.W,λ_=>False⟩) 5 (kn [s.bv,s.lv,iN (c.n),iN (c.q),iz (c.g),iz (c.m),iz (c.t),iz (c.s),iN (p),iN (s.ps.length),iN (s.bs.length),iz ((cD c p).yi 0),iz ((cD c p).yi 1),iz ((cD c p).yi 2),iz ((cD c p).yi 3),iz ((cD c p).yi 4),iz ((cD c p).yi 5),iz ((cD c p).yi 6),iz ((cD c p).yi 7),iz ((cD c p).yi 9),uz ((cD c p).yi 10),iz ((cD c p).yi 12),iz ((cD c p).yi 13),iz ((cD c p).yi 14),iz ((cD c p).yi 15),iz ((cD c p).yi 16),iz ((cD c p).yi 17),iz ((cD c p).yi 18),iz ((cD c p).yi 19),iz ((cD c p).yi 20),uz ((cD c p).yi 21)] (fc s.hs.leaf (fc s.hl.leaf fr)) [(.gtr,sy 9,iz 60,.bool false),(.gtr,sy 10,iz 40,.bool false)] [] [] (fc (λ_ _ _=>a_ (by first|(simp;done)|(simp;omega))) (fc (λ_ _ _=>a_ (by first|(simp;done)|(simp;omega))) fn)) fn fn s.W (λ_=>False) [[],[bP 407 (λv=>xW (cD c p) v)],[]] [⟨[10,23],[sy 1],none,0,none,sy 9,none⟩,⟨[10,22],[sy 0],none,0,none,sy 10,none⟩] [⟨17,[.agg #[sy 2,sy 3,sy 4,sy 5,sy 6,sy 7],sy 8],0,some 407,.complex .f32 407 0,some 1⟩,⟨16,[.agg #[sy 2,sy 3,sy 4,sy 5,sy 6,sy 7]],1,none,.agg #[sy 2,sy 3,sy 4,sy 5,sy 6,sy 7],none⟩,⟨18,[.agg #[sy 2,sy 3,sy 4,sy 5,sy 6,sy 7],sy 8],1,none,.agg #[sy 11,sy 12,sy 13,sy 14,sy 15,sy 16,sy 17,sy 18,.bool true,sy 19,sy 20,.bool false,sy 21,sy 22,sy 23,sy 24,sy 25,sy 26,sy 27,sy 28,sy 29,sy 30,.slice none 0 0,.slice none 0 0],none⟩,⟨13,[.iface 52 (.complex .f32 407 0),.agg #[sy 11,sy 12,sy 13,sy 14,sy 15,sy 16,sy 17,sy 18,.bool true,sy 19,sy 20,.bool false,sy 21,sy 22,sy 23,sy 24,sy 25,sy 26,sy 27,sy 28,sy 29,sy 30,.slice none 0 0,.slice none 0 0],.agg #[sy 2,sy 3,sy 4,sy 5,sy 6,sy 7],sy 0,sy 1],1,none,.bool true,some 2⟩,⟨10,[],2,none,.bool true,none⟩]) (fc (bt (ci:=0) rfl rfl s.hl underlying23 rfl rfl) (fc (bt (ci:=0) rfl rfl s.hs underlying22 rfl rfl) fn)) (fc (cd rfl [λv=>xW (cD c p) v] [] [] (λw F ho hn hF=>EV c hp hn)) (fc (pc rfl (λw hb=>iK c.cf w)) (fc (pc rfl (λw hb=>S0 c hp w)) (fc (j8 (c:=⟨s.W,λ_=>False⟩) (fp:=[bP 407 (λv=>xW (cD c p) v)]) (lp:=λv=>[xW (cD c p) v]) (lq:=[]) (args:=λv=>[.iface 52 v,(.agg #[(iz ((cD c p).yi 0)),(iz ((cD c p).yi 1)),(iz ((cD c p).yi 2)),(iz ((cD c p).yi 3)),(iz ((cD c p).yi 4)),(iz ((cD c p).yi 5)),(iz ((cD c p).yi 6)),(iz ((cD c p).yi 7)),.bool true,(iz ((cD c p).yi 9)),(uz ((cD c p).yi 10)),.bool false,(iz ((cD c p).yi 12)),(iz ((cD c p).yi 13)),(iz ((cD c p).yi 14)),(iz ((cD c p).yi 15)),(iz ((cD c p).yi 16)),(iz ((cD c p).yi 17)),(iz ((cD c p).yi 18)),(iz ((cD c p).yi 19)),(iz ((cD c p).yi 20)),(uz ((cD c p).yi 21)),.slice none 0 0,.slice none 0 0]),n0 c,s.bv,s.lv]) [0] [] rfl rfl rfl rfl (cS (λ_ _ _ _ _ h=>h) bZ) (em (ak (by kernel_rfl) (by kernel_rfl))) (λι=>(vk (by kernel_rfl) (by kernel_rfl))) (λv w F ho hn hF=>gj s c.cf hlp hlb (N2 c hp) rfl ho hF hn)) (fc (pc (args:=[]) rfl (λw hb=>bz _)) fn))))) rfl [] [] [] 2 rfl rfl BR (.bool true))
theorem S5(s:LP)(c:Cf)(p:Int)(hc:c.ok=false)(hlp:s.ps.length<=60)(hlb:s.bs.length<=40):aK prog 7 [] 0 33 ⟨s.W,λ_=>False⟩ (LM s c p) [] (λκ:ag=>(.bool true)) (λκ:ag=>[]):=(bU (c:=⟨s.W,λ_=>False⟩) 5 (kn [s.bv,s.lv,iz (c.n),iz (c.q),iz (c.g),iz (c.m),iz (c.t),iz (c.s),iz (p),iN (s.ps.length),iN (s.bs.length),iz ((⟨true,none⟩:XS).yi 0),iz ((⟨true,none⟩:XS).yi 1),iz ((⟨true,none⟩:XS).yi 2),iz ((⟨true,none⟩:XS).yi 3),iz ((⟨true,none⟩:XS).yi 4),iz ((⟨true,none⟩:XS).yi 5),iz ((⟨true,none⟩:XS).yi 6),iz ((⟨true,none⟩:XS).yi 7),iz ((⟨true,none⟩:XS).yi 9),uz ((⟨true,none⟩:XS).yi 10),iz ((⟨true,none⟩:XS).yi 12),iz ((⟨true,none⟩:XS).yi 13),iz ((⟨true,none⟩:XS).yi 14),iz ((⟨true,none⟩:XS).yi 15),iz ((⟨true,none⟩:XS).yi 16),iz ((⟨true,none⟩:XS).yi 17),iz ((⟨true,none⟩:XS).yi 18),iz ((⟨true,none⟩:XS).yi 19),iz ((⟨true,none⟩:XS).yi 20),uz ((⟨true,none⟩:XS).yi 21)] (fc s.hs.leaf (fc s.hl.leaf fr)) [(.gtr,sy 9,iz 60,.bool false),(.gtr,sy 10,iz 40,.bool false)] [] [] (fc (λ_ _ _=>a_ (by first|(simp;done)|(simp;omega))) (fc (λ_ _ _=>a_ (by first|(simp;done)|(simp;omega))) fn)) fn fn s.W (λ_=>False) [[],[bP 407 (λv=>xW (⟨true,none⟩:XS) v)],[]] [⟨[10,23],[sy 1],none,0,none,sy 9,none⟩,⟨[10,22],[sy 0],none,0,none,sy 10,none⟩] [⟨17,[.agg #[sy 2,sy 3,sy 4,sy 5,sy 6,sy 7],sy 8],0,some 407,.complex .f32 407 0,some 1⟩,⟨16,[.agg #[sy 2,sy 3,sy 4,sy 5,sy 6,sy 7]],1,none,.agg #[sy 2,sy 3,sy 4,sy 5,sy 6,sy 7],none⟩,⟨18,[.agg #[sy 2,sy 3,sy 4,sy 5,sy 6,sy 7],sy 8],1,none,.agg #[sy 11,sy 12,sy 13,sy 14,sy 15,sy 16,sy 17,sy 18,.bool false,sy 19,sy 20,.bool false,sy 21,sy 22,sy 23,sy 24,sy 25,sy 26,sy 27,sy 28,sy 29,sy 30,.slice none 0 0,.slice none 0 0],none⟩,⟨13,[.iface 52 (.complex .f32 407 0),.agg #[sy 11,sy 12,sy 13,sy 14,sy 15,sy 16,sy 17,sy 18,.bool false,sy 19,sy 20,.bool false,sy 21,sy 22,sy 23,sy 24,sy 25,sy 26,sy 27,sy 28,sy 29,sy 30,.slice none 0 0,.slice none 0 0],.agg #[sy 2,sy 3,sy 4,sy 5,sy 6,sy 7],sy 0,sy 1],1,none,.bool true,some 2⟩,⟨10,[],2,none,.bool true,none⟩]) (fc (bt (ci:=0) rfl rfl s.hl underlying23 rfl rfl) (fc (bt (ci:=0) rfl rfl s.hs underlying22 rfl rfl) fn)) (fc (cd rfl [λv=>xW (⟨true,none⟩:XS) v] [] [] (λw F ho hn hF=>Ns c p hc hn)) (fc (pc rfl (λw hb=>iK c w)) (fc (pc rfl (λw hb=>IY c p hc w)) (fc (j8 (c:=⟨s.W,λ_=>False⟩) (fp:=[bP 407 (λv=>xW (⟨true,none⟩:XS) v)]) (lp:=λv=>[xW (⟨true,none⟩:XS) v]) (lq:=[]) (args:=λv=>[.iface 52 v,O9,BP c,s.bv,s.lv]) [0] [] rfl rfl rfl rfl (cS (λ_ _ _ _ _ h=>h) bZ) (em (ak (by kernel_rfl) (by kernel_rfl))) (λι=>(vk (by kernel_rfl) (by kernel_rfl))) (λv w F ho hn hF=>gj s c hlp hlb (fH _ _) rfl ho hF hn)) (fc (pc (args:=[]) rfl (λw hb=>bz _)) fn))))) rfl [] [] [] 2 rfl rfl BR (.bool true))
theorem QS(s:LP)(c:aT)(p:Int)(hp:¬ (0<=p/\p<c.n))(hlp:s.ps.length<=60)(hlb:s.bs.length<=40):aK prog 7 [] 0 33 ⟨s.W,λ_=>False⟩ [(0,n0 c),(1,iz p),(2,(s.bv)),(3,(s.lv))] [] (λκ:ag=>(.bool true)) (λκ:ag=>[]):=(bU (c:=⟨s.W,λ_=>False⟩) 5 (kn [s.bv,s.lv,iN (c.n),iN (c.q),iz (c.g),iz (c.m),iz (c.t),iz (c.s),iz (p),iN (s.ps.length),iN (s.bs.length),iz ((⟨true,none⟩:XS).yi 0),iz ((⟨true,none⟩:XS).yi 1),iz ((⟨true,none⟩:XS).yi 2),iz ((⟨true,none⟩:XS).yi 3),iz ((⟨true,none⟩:XS).yi 4),iz ((⟨true,none⟩:XS).yi 5),iz ((⟨true,none⟩:XS).yi 6),iz ((⟨true,none⟩:XS).yi 7),iz ((⟨true,none⟩:XS).yi 9),uz ((⟨true,none⟩:XS).yi 10),iz ((⟨true,none⟩:XS).yi 12),iz ((⟨true,none⟩:XS).yi 13),iz ((⟨true,none⟩:XS).yi 14),iz ((⟨true,none⟩:XS).yi 15),iz ((⟨true,none⟩:XS).yi 16),iz ((⟨true,none⟩:XS).yi 17),iz ((⟨true,none⟩:XS).yi 18),iz ((⟨true,none⟩:XS).yi 19),iz ((⟨true,none⟩:XS).yi 20),uz ((⟨true,none⟩:XS).yi 21)] (fc s.hs.leaf (fc s.hl.leaf fr)) [(.gtr,sy 9,iz 60,.bool false),(.gtr,sy 10,iz 40,.bool false)] [] [] (fc (λ_ _ _=>a_ (by first|(simp;done)|(simp;omega))) (fc (λ_ _ _=>a_ (by first|(simp;done)|(simp;omega))) fn)) fn fn s.W (λ_=>False) [[],[bP 407 (λv=>xW (⟨true,none⟩:XS) v)],[]] [⟨[10,23],[sy 1],none,0,none,sy 9,none⟩,⟨[10,22],[sy 0],none,0,none,sy 10,none⟩] [⟨17,[.agg #[sy 2,sy 3,sy 4,sy 5,sy 6,sy 7],sy 8],0,some 407,.complex .f32 407 0,some 1⟩,⟨16,[.agg #[sy 2,sy 3,sy 4,sy 5,sy 6,sy 7]],1,none,.agg #[sy 2,sy 3,sy 4,sy 5,sy 6,sy 7],none⟩,⟨18,[.agg #[sy 2,sy 3,sy 4,sy 5,sy 6,sy 7],sy 8],1,none,.agg #[sy 11,sy 12,sy 13,sy 14,sy 15,sy 16,sy 17,sy 18,.bool false,sy 19,sy 20,.bool false,sy 21,sy 22,sy 23,sy 24,sy 25,sy 26,sy 27,sy 28,sy 29,sy 30,.slice none 0 0,.slice none 0 0],none⟩,⟨13,[.iface 52 (.complex .f32 407 0),.agg #[sy 11,sy 12,sy 13,sy 14,sy 15,sy 16,sy 17,sy 18,.bool false,sy 19,sy 20,.bool false,sy 21,sy 22,sy 23,sy 24,sy 25,sy 26,sy 27,sy 28,sy 29,sy 30,.slice none 0 0,.slice none 0 0],.agg #[sy 2,sy 3,sy 4,sy 5,sy 6,sy 7],sy 0,sy 1],1,none,.bool true,some 2⟩,⟨10,[],2,none,.bool true,none⟩]) (fc (bt (ci:=0) rfl rfl s.hl underlying23 rfl rfl) (fc (bt (ci:=0) rfl rfl s.hs underlying22 rfl rfl) fn)) (fc (cd rfl [λv=>xW (⟨true,none⟩:XS) v] [] [] (λw F ho hn hF=>JV c p hp hn)) (fc (pc rfl (λw hb=>iK c.cf w)) (fc (pc rfl (λw hb=>Gu c p hp w)) (fc (j8 (c:=⟨s.W,λ_=>False⟩) (fp:=[bP 407 (λv=>xW (⟨true,none⟩:XS) v)]) (lp:=λv=>[xW (⟨true,none⟩:XS) v]) (lq:=[]) (args:=λv=>[.iface 52 v,O9,n0 c,s.bv,s.lv]) [0] [] rfl rfl rfl rfl (cS (λ_ _ _ _ _ h=>h) bZ) (em (ak (by kernel_rfl) (by kernel_rfl))) (λι=>(vk (by kernel_rfl) (by kernel_rfl))) (λv w F ho hn hF=>gj s c.cf hlp hlb (fH _ _) rfl ho hF hn)) (fc (pc (args:=[]) rfl (λw hb=>bz _)) fn))))) rfl [] [] [] 2 rfl rfl BR (.bool true))
theorem S6(s:LP)(c:Cf)(p:Int)(gg:Int)(hb:s.ps.length>60):aK prog 6 [] 0 37 ⟨s.W,λ_=>False⟩ (y8 s c p gg) [] (λκ:ag=>(.bool true)) (λκ:ag=>[]):=(bU (c:=⟨s.W,λ_=>False⟩) 5 (kn [s.bv,s.lv,iz (c.n),iz (c.q),iz (c.g),iz (c.m),iz (c.t),iz (c.s),iz (p),iz (gg),iN (s.ps.length)] (fc s.hs.leaf (fc s.hl.leaf fr)) [(.gtr,sy 10,iz 60,.bool true)] [] [] (fc (λ_ _ _=>a_ (by first|(simp;done)|(simp;omega))) fn) fn fn s.W (λ_=>False) [[]] [⟨[10,23],[sy 1],none,0,none,sy 10,none⟩] [⟨10,[],0,none,.bool true,none⟩]) (fc (bt (ci:=0) rfl rfl s.hl underlying23 rfl rfl) fn) (fc (pc (args:=[]) rfl (λw hb=>bz _)) fn) rfl [] [] [] 0 rfl rfl mP (.bool true))
theorem S7(s:LP)(c:Cf)(p:Int)(gg:Int)(hb:¬ s.ps.length>60)(hb2:s.bs.length>40):aK prog 6 [] 0 37 ⟨s.W,λ_=>False⟩ (y8 s c p gg) [] (λκ:ag=>(.bool true)) (λκ:ag=>[]):=(bU (c:=⟨s.W,λ_=>False⟩) 5 (kn [s.bv,s.lv,iz (c.n),iz (c.q),iz (c.g),iz (c.m),iz (c.t),iz (c.s),iz (p),iz (gg),iN (s.ps.length),iN (s.bs.length)] (fc s.hs.leaf (fc s.hl.leaf fr)) [(.gtr,sy 10,iz 60,.bool false),(.gtr,sy 11,iz 40,.bool true)] [] [] (fc (λ_ _ _=>a_ (by first|(simp;done)|(simp;omega))) (fc (λ_ _ _=>a_ (by first|(simp;done)|(simp;omega))) fn)) fn fn s.W (λ_=>False) [[]] [⟨[10,23],[sy 1],none,0,none,sy 10,none⟩,⟨[10,22],[sy 0],none,0,none,sy 11,none⟩] [⟨10,[],0,none,.bool true,none⟩]) (fc (bt (ci:=0) rfl rfl s.hl underlying23 rfl rfl) (fc (bt (ci:=0) rfl rfl s.hs underlying22 rfl rfl) fn)) (fc (pc (args:=[]) rfl (λw hb=>bz _)) fn) rfl [] [] [] 0 rfl rfl mP (.bool true))
theorem S8(s:LP)(c:aT)(p:Nat)(hp:p<c.n)(gg:Int)(hg:0<=gg/\gg<=9223372036854775807)(hlp:s.ps.length<=60)(hlb:s.bs.length<=40):aK prog 6 [] 0 37 ⟨s.W,λ_=>False⟩ (LN s c p gg) [] (λκ:ag=>(.bool true)) (λκ:ag=>[]):=(bU (c:=⟨s.W,λ_=>False⟩) 5 (kn [s.bv,s.lv,iN (c.n),iN (c.q),iz (c.g),iz (c.m),iz (c.t),iz (c.s),iN (p),iz (gg),iN (s.ps.length),iN (s.bs.length),iz ((cE c p gg).yi 0),iz ((cE c p gg).yi 1),iz ((cE c p gg).yi 2),iz ((cE c p gg).yi 3),iz ((cE c p gg).yi 4),iz ((cE c p gg).yi 5),iz ((cE c p gg).yi 6),iz ((cE c p gg).yi 7),iz ((cE c p gg).yi 9),uz ((cE c p gg).yi 10),iz ((cE c p gg).yi 12),iz ((cE c p gg).yi 13),iz ((cE c p gg).yi 14),iz ((cE c p gg).yi 15),iz ((cE c p gg).yi 16),iz ((cE c p gg).yi 17),iz ((cE c p gg).yi 18),iz ((cE c p gg).yi 19),iz ((cE c p gg).yi 20),uz ((cE c p gg).yi 21)] (fc s.hs.leaf (fc s.hl.leaf fr)) [(.gtr,sy 10,iz 60,.bool false),(.gtr,sy 11,iz 40,.bool false)] [] [] (fc (λ_ _ _=>a_ (by first|(simp;done)|(simp;omega))) (fc (λ_ _ _=>a_ (by first|(simp;done)|(simp;omega))) fn)) fn fn s.W (λ_=>False) [[],[bP 407 (λv=>xW (cE c p gg) v)],[]] [⟨[10,23],[sy 1],none,0,none,sy 10,none⟩,⟨[10,22],[sy 0],none,0,none,sy 11,none⟩] [⟨14,[.agg #[sy 2,sy 3,sy 4,sy 5,sy 6,sy 7],sy 8,sy 9],0,some 407,.complex .f32 407 0,some 1⟩,⟨16,[.agg #[sy 2,sy 3,sy 4,sy 5,sy 6,sy 7]],1,none,.agg #[sy 2,sy 3,sy 4,sy 5,sy 6,sy 7],none⟩,⟨15,[.agg #[sy 2,sy 3,sy 4,sy 5,sy 6,sy 7],sy 8,sy 9],1,none,.agg #[sy 12,sy 13,sy 14,sy 15,sy 16,sy 17,sy 18,sy 19,.bool false,sy 20,sy 21,.bool false,sy 22,sy 23,sy 24,sy 25,sy 26,sy 27,sy 28,sy 29,sy 30,sy 31,.slice none 0 0,.slice none 0 0],none⟩,⟨13,[.iface 42 (.complex .f32 407 0),.agg #[sy 12,sy 13,sy 14,sy 15,sy 16,sy 17,sy 18,sy 19,.bool false,sy 20,sy 21,.bool false,sy 22,sy 23,sy 24,sy 25,sy 26,sy 27,sy 28,sy 29,sy 30,sy 31,.slice none 0 0,.slice none 0 0],.agg #[sy 2,sy 3,sy 4,sy 5,sy 6,sy 7],sy 0,sy 1],1,none,.bool true,some 2⟩,⟨10,[],2,none,.bool true,none⟩]) (fc (bt (ci:=0) rfl rfl s.hl underlying23 rfl rfl) (fc (bt (ci:=0) rfl rfl s.hs underlying22 rfl rfl) fn)) (fc (cd rfl [λv=>xW (cE c p gg) v] [] [] (λw F ho hn hF=>EW c hp gg hg hn)) (fc (pc rfl (λw hb=>iK c.cf w)) (fc (pc rfl (λw hb=>S1 c hp hg.1 w)) (fc (j8 (c:=⟨s.W,λ_=>False⟩) (fp:=[bP 407 (λv=>xW (cE c p gg) v)]) (lp:=λv=>[xW (cE c p gg) v]) (lq:=[]) (args:=λv=>[.iface 42 v,(.agg #[(iz ((cE c p gg).yi 0)),(iz ((cE c p gg).yi 1)),(iz ((cE c p gg).yi 2)),(iz ((cE c p gg).yi 3)),(iz ((cE c p gg).yi 4)),(iz ((cE c p gg).yi 5)),(iz ((cE c p gg).yi 6)),(iz ((cE c p gg).yi 7)),.bool false,(iz ((cE c p gg).yi 9)),(uz ((cE c p gg).yi 10)),.bool false,(iz ((cE c p gg).yi 12)),(iz ((cE c p gg).yi 13)),(iz ((cE c p gg).yi 14)),(iz ((cE c p gg).yi 15)),(iz ((cE c p gg).yi 16)),(iz ((cE c p gg).yi 17)),(iz ((cE c p gg).yi 18)),(iz ((cE c p gg).yi 19)),(iz ((cE c p gg).yi 20)),(uz ((cE c p gg).yi 21)),.slice none 0 0,.slice none 0 0]),n0 c,s.bv,s.lv]) [0] [] rfl rfl rfl rfl (cS (λ_ _ _ _ _ h=>h) bZ) (em (ak (by kernel_rfl) (by kernel_rfl))) (λι=>(vk (by kernel_rfl) (by kernel_rfl))) (λv w F ho hn hF=>gj s c.cf hlp hlb (N3 c hp hg) rfl ho hF hn)) (fc (pc (args:=[]) rfl (λw hb=>bz _)) fn))))) rfl [] [] [] 2 rfl rfl mP (.bool true))
theorem S_(s:LP)(c:Cf)(p:Int)(hc:c.ok=false)(gg:Int)(hg:0<=gg/\gg<=9223372036854775807)(hlp:s.ps.length<=60)(hlb:s.bs.length<=40):aK prog 6 [] 0 37 ⟨s.W,λ_=>False⟩ (y8 s c p gg) [] (λκ:ag=>(.bool true)) (λκ:ag=>[]):=(bU (c:=⟨s.W,λ_=>False⟩) 5 (kn [s.bv,s.lv,iz (c.n),iz (c.q),iz (c.g),iz (c.m),iz (c.t),iz (c.s),iz (p),iz (gg),iN (s.ps.length),iN (s.bs.length),iz ((⟨false,none⟩:XS).yi 0),iz ((⟨false,none⟩:XS).yi 1),iz ((⟨false,none⟩:XS).yi 2),iz ((⟨false,none⟩:XS).yi 3),iz ((⟨false,none⟩:XS).yi 4),iz ((⟨false,none⟩:XS).yi 5),iz ((⟨false,none⟩:XS).yi 6),iz ((⟨false,none⟩:XS).yi 7),iz ((⟨false,none⟩:XS).yi 9),uz ((⟨false,none⟩:XS).yi 10),iz ((⟨false,none⟩:XS).yi 12),iz ((⟨false,none⟩:XS).yi 13),iz ((⟨false,none⟩:XS).yi 14),iz ((⟨false,none⟩:XS).yi 15),iz ((⟨false,none⟩:XS).yi 16),iz ((⟨false,none⟩:XS).yi 17),iz ((⟨false,none⟩:XS).yi 18),iz ((⟨false,none⟩:XS).yi 19),iz ((⟨false,none⟩:XS).yi 20),uz ((⟨false,none⟩:XS).yi 21)] (fc s.hs.leaf (fc s.hl.leaf fr)) [(.gtr,sy 10,iz 60,.bool false),(.gtr,sy 11,iz 40,.bool false)] [] [] (fc (λ_ _ _=>a_ (by first|(simp;done)|(simp;omega))) (fc (λ_ _ _=>a_ (by first|(simp;done)|(simp;omega))) fn)) fn fn s.W (λ_=>False) [[],uO,[]] [⟨[10,23],[sy 1],none,0,none,sy 10,none⟩,⟨[10,22],[sy 0],none,0,none,sy 11,none⟩] [⟨14,[.agg #[sy 2,sy 3,sy 4,sy 5,sy 6,sy 7],sy 8,sy 9],0,some 407,.complex .f32 407 0,some 1⟩,⟨16,[.agg #[sy 2,sy 3,sy 4,sy 5,sy 6,sy 7]],1,none,.agg #[sy 2,sy 3,sy 4,sy 5,sy 6,sy 7],none⟩,⟨15,[.agg #[sy 2,sy 3,sy 4,sy 5,sy 6,sy 7],sy 8,sy 9],1,none,.agg #[sy 12,sy 13,sy 14,sy 15,sy 16,sy 17,sy 18,sy 19,.bool false,sy 20,sy 21,.bool false,sy 22,sy 23,sy 24,sy 25,sy 26,sy 27,sy 28,sy 29,sy 30,sy 31,.slice none 0 0,.slice none 0 0],none⟩,⟨13,[.iface 42 (.complex .f32 407 0),.agg #[sy 12,sy 13,sy 14,sy 15,sy 16,sy 17,sy 18,sy 19,.bool false,sy 20,sy 21,.bool false,sy 22,sy 23,sy 24,sy 25,sy 26,sy 27,sy 28,sy 29,sy 30,sy 31,.slice none 0 0,.slice none 0 0],.agg #[sy 2,sy 3,sy 4,sy 5,sy 6,sy 7],sy 0,sy 1],1,none,.bool true,some 2⟩,⟨10,[],2,none,.bool true,none⟩]) (fc (bt (ci:=0) rfl rfl s.hl underlying23 rfl rfl) (fc (bt (ci:=0) rfl rfl s.hs underlying22 rfl rfl) fn)) (fc (cd rfl [λv=>xW (⟨false,none⟩:XS) v] [] [] (λw F ho hn hF=>Nt c p hc gg hg hn)) (fc (pc rfl (λw hb=>iK c w)) (fc (pc rfl (λw hb=>Bo c p hc gg w)) (fc (j8 (c:=⟨s.W,λ_=>False⟩) (fp:=[bP 407 (λv=>xW (⟨false,none⟩:XS) v)]) (lp:=λv=>[xW (⟨false,none⟩:XS) v]) (lq:=[]) (args:=λv=>[.iface 42 v,BQ,BP c,s.bv,s.lv]) [0] [] rfl rfl rfl rfl (cS (λ_ _ _ _ _ h=>h) bZ) (em (ak (by kernel_rfl) (by kernel_rfl))) (λι=>(vk (by kernel_rfl) (by kernel_rfl))) (λv w F ho hn hF=>gj s c hlp hlb (fH _ _) rfl ho hF hn)) (fc (pc (args:=[]) rfl (λw hb=>bz _)) fn))))) rfl [] [] [] 2 rfl rfl mP (.bool true))
theorem QT(s:LP)(c:aT)(p:Int)(hp:¬ (0<=p/\p<c.n))(gg:Int)(hg:0<=gg/\gg<=9223372036854775807)(hlp:s.ps.length<=60)(hlb:s.bs.length<=40):aK prog 6 [] 0 37 ⟨s.W,λ_=>False⟩ (LO s c p gg) [] (λκ:ag=>(.bool true)) (λκ:ag=>[]):=(bU (c:=⟨s.W,λ_=>False⟩) 5 (kn [s.bv,s.lv,iN (c.n),iN (c.q),iz (c.g),iz (c.m),iz (c.t),iz (c.s),iz (p),iz (gg),iN (s.ps.length),iN (s.bs.length),iz ((⟨false,none⟩:XS).yi 0),iz ((⟨false,none⟩:XS).yi 1),iz ((⟨false,none⟩:XS).yi 2),iz ((⟨false,none⟩:XS).yi 3),iz ((⟨false,none⟩:XS).yi 4),iz ((⟨false,none⟩:XS).yi 5),iz ((⟨false,none⟩:XS).yi 6),iz ((⟨false,none⟩:XS).yi 7),iz ((⟨false,none⟩:XS).yi 9),uz ((⟨false,none⟩:XS).yi 10),iz ((⟨false,none⟩:XS).yi 12),iz ((⟨false,none⟩:XS).yi 13),iz ((⟨false,none⟩:XS).yi 14),iz ((⟨false,none⟩:XS).yi 15),iz ((⟨false,none⟩:XS).yi 16),iz ((⟨false,none⟩:XS).yi 17),iz ((⟨false,none⟩:XS).yi 18),iz ((⟨false,none⟩:XS).yi 19),iz ((⟨false,none⟩:XS).yi 20),uz ((⟨false,none⟩:XS).yi 21)] (fc s.hs.leaf (fc s.hl.leaf fr)) [(.gtr,sy 10,iz 60,.bool false),(.gtr,sy 11,iz 40,.bool false)] [] [] (fc (λ_ _ _=>a_ (by first|(simp;done)|(simp;omega))) (fc (λ_ _ _=>a_ (by first|(simp;done)|(simp;omega))) fn)) fn fn s.W (λ_=>False) [[],uO,[]] [⟨[10,23],[sy 1],none,0,none,sy 10,none⟩,⟨[10,22],[sy 0],none,0,none,sy 11,none⟩] [⟨14,[.agg #[sy 2,sy 3,sy 4,sy 5,sy 6,sy 7],sy 8,sy 9],0,some 407,.complex .f32 407 0,some 1⟩,⟨16,[.agg #[sy 2,sy 3,sy 4,sy 5,sy 6,sy 7]],1,none,.agg #[sy 2,sy 3,sy 4,sy 5,sy 6,sy 7],none⟩,⟨15,[.agg #[sy 2,sy 3,sy 4,sy 5,sy 6,sy 7],sy 8,sy 9],1,none,.agg #[sy 12,sy 13,sy 14,sy 15,sy 16,sy 17,sy 18,sy 19,.bool false,sy 20,sy 21,.bool false,sy 22,sy 23,sy 24,sy 25,sy 26,sy 27,sy 28,sy 29,sy 30,sy 31,.slice none 0 0,.slice none 0 0],none⟩,⟨13,[.iface 42 (.complex .f32 407 0),.agg #[sy 12,sy 13,sy 14,sy 15,sy 16,sy 17,sy 18,sy 19,.bool false,sy 20,sy 21,.bool false,sy 22,sy 23,sy 24,sy 25,sy 26,sy 27,sy 28,sy 29,sy 30,sy 31,.slice none 0 0,.slice none 0 0],.agg #[sy 2,sy 3,sy 4,sy 5,sy 6,sy 7],sy 0,sy 1],1,none,.bool true,some 2⟩,⟨10,[],2,none,.bool true,none⟩]) (fc (bt (ci:=0) rfl rfl s.hl underlying23 rfl rfl) (fc (bt (ci:=0) rfl rfl s.hs underlying22 rfl rfl) fn)) (fc (cd rfl [λv=>xW (⟨false,none⟩:XS) v] [] [] (λw F ho hn hF=>JW c p hp gg hg hn)) (fc (pc rfl (λw hb=>iK c.cf w)) (fc (pc rfl (λw hb=>wc c p hp gg w)) (fc (j8 (c:=⟨s.W,λ_=>False⟩) (fp:=[bP 407 (λv=>xW (⟨false,none⟩:XS) v)]) (lp:=λv=>[xW (⟨false,none⟩:XS) v]) (lq:=[]) (args:=λv=>[.iface 42 v,BQ,n0 c,s.bv,s.lv]) [0] [] rfl rfl rfl rfl (cS (λ_ _ _ _ _ h=>h) bZ) (em (ak (by kernel_rfl) (by kernel_rfl))) (λι=>(vk (by kernel_rfl) (by kernel_rfl))) (λv w F ho hn hF=>gj s c.cf hlp hlb (fH _ _) rfl ho hF hn)) (fc (pc (args:=[]) rfl (λw hb=>bz _)) fn))))) rfl [] [] [] 2 rfl rfl mP (.bool true))
theorem QU(s:LP)(c:aT)(p:Nat)(hp:p<c.n)(gg:Int)(hg:¬ 0<=gg)(hlp:s.ps.length<=60)(hlb:s.bs.length<=40):aK prog 6 [] 0 37 ⟨s.W,λ_=>False⟩ (LN s c p gg) [] (λκ:ag=>(.bool true)) (λκ:ag=>[]):=(bU (c:=⟨s.W,λ_=>False⟩) 5 (kn [s.bv,s.lv,iN (c.n),iN (c.q),iz (c.g),iz (c.m),iz (c.t),iz (c.s),iN (p),iz (gg),iN (s.ps.length),iN (s.bs.length),iz ((⟨false,none⟩:XS).yi 0),iz ((⟨false,none⟩:XS).yi 1),iz ((⟨false,none⟩:XS).yi 2),iz ((⟨false,none⟩:XS).yi 3),iz ((⟨false,none⟩:XS).yi 4),iz ((⟨false,none⟩:XS).yi 5),iz ((⟨false,none⟩:XS).yi 6),iz ((⟨false,none⟩:XS).yi 7),iz ((⟨false,none⟩:XS).yi 9),uz ((⟨false,none⟩:XS).yi 10),iz ((⟨false,none⟩:XS).yi 12),iz ((⟨false,none⟩:XS).yi 13),iz ((⟨false,none⟩:XS).yi 14),iz ((⟨false,none⟩:XS).yi 15),iz ((⟨false,none⟩:XS).yi 16),iz ((⟨false,none⟩:XS).yi 17),iz ((⟨false,none⟩:XS).yi 18),iz ((⟨false,none⟩:XS).yi 19),iz ((⟨false,none⟩:XS).yi 20),uz ((⟨false,none⟩:XS).yi 21)] (fc s.hs.leaf (fc s.hl.leaf fr)) [(.gtr,sy 10,iz 60,.bool false),(.gtr,sy 11,iz 40,.bool false)] [] [] (fc (λ_ _ _=>a_ (by first|(simp;done)|(simp;omega))) (fc (λ_ _ _=>a_ (by first|(simp;done)|(simp;omega))) fn)) fn fn s.W (λ_=>False) [[],uO,[]] [⟨[10,23],[sy 1],none,0,none,sy 10,none⟩,⟨[10,22],[sy 0],none,0,none,sy 11,none⟩] [⟨14,[.agg #[sy 2,sy 3,sy 4,sy 5,sy 6,sy 7],sy 8,sy 9],0,some 407,.complex .f32 407 0,some 1⟩,⟨16,[.agg #[sy 2,sy 3,sy 4,sy 5,sy 6,sy 7]],1,none,.agg #[sy 2,sy 3,sy 4,sy 5,sy 6,sy 7],none⟩,⟨15,[.agg #[sy 2,sy 3,sy 4,sy 5,sy 6,sy 7],sy 8,sy 9],1,none,.agg #[sy 12,sy 13,sy 14,sy 15,sy 16,sy 17,sy 18,sy 19,.bool false,sy 20,sy 21,.bool false,sy 22,sy 23,sy 24,sy 25,sy 26,sy 27,sy 28,sy 29,sy 30,sy 31,.slice none 0 0,.slice none 0 0],none⟩,⟨13,[.iface 42 (.complex .f32 407 0),.agg #[sy 12,sy 13,sy 14,sy 15,sy 16,sy 17,sy 18,sy 19,.bool false,sy 20,sy 21,.bool false,sy 22,sy 23,sy 24,sy 25,sy 26,sy 27,sy 28,sy 29,sy 30,sy 31,.slice none 0 0,.slice none 0 0],.agg #[sy 2,sy 3,sy 4,sy 5,sy 6,sy 7],sy 0,sy 1],1,none,.bool true,some 2⟩,⟨10,[],2,none,.bool true,none⟩]) (fc (bt (ci:=0) rfl rfl s.hl underlying23 rfl rfl) (fc (bt (ci:=0) rfl rfl s.hs underlying22 rfl rfl) fn)) (fc (cd rfl [λv=>xW (⟨false,none⟩:XS) v] [] [] (λw F ho hn hF=>uh c.cf ((p:Nat):Int) gg hg hn)) (fc (pc rfl (λw hb=>iK c.cf w)) (fc (pc rfl (λw hb=>Gv c p hp gg hg w)) (fc (j8 (c:=⟨s.W,λ_=>False⟩) (fp:=[bP 407 (λv=>xW (⟨false,none⟩:XS) v)]) (lp:=λv=>[xW (⟨false,none⟩:XS) v]) (lq:=[]) (args:=λv=>[.iface 42 v,BQ,n0 c,s.bv,s.lv]) [0] [] rfl rfl rfl rfl (cS (λ_ _ _ _ _ h=>h) bZ) (em (ak (by kernel_rfl) (by kernel_rfl))) (λι=>(vk (by kernel_rfl) (by kernel_rfl))) (λv w F ho hn hF=>gj s c.cf hlp hlb (fH _ _) rfl ho hF hn)) (fc (pc (args:=[]) rfl (λw hb=>bz _)) fn))))) rfl [] [] [] 2 rfl rfl mP (.bool true))
theorem QV(s:LP)(c:Cf)(p:Int)(hc:c.ok=false)(gg:Int)(hg:¬ 0<=gg)(hlp:s.ps.length<=60)(hlb:s.bs.length<=40):aK prog 6 [] 0 37 ⟨s.W,λ_=>False⟩ (y8 s c p gg) [] (λκ:ag=>(.bool true)) (λκ:ag=>[]):=(bU (c:=⟨s.W,λ_=>False⟩) 5 (kn [s.bv,s.lv,iz (c.n),iz (c.q),iz (c.g),iz (c.m),iz (c.t),iz (c.s),iz (p),iz (gg),iN (s.ps.length),iN (s.bs.length),iz ((⟨false,none⟩:XS).yi 0),iz ((⟨false,none⟩:XS).yi 1),iz ((⟨false,none⟩:XS).yi 2),iz ((⟨false,none⟩:XS).yi 3),iz ((⟨false,none⟩:XS).yi 4),iz ((⟨false,none⟩:XS).yi 5),iz ((⟨false,none⟩:XS).yi 6),iz ((⟨false,none⟩:XS).yi 7),iz ((⟨false,none⟩:XS).yi 9),uz ((⟨false,none⟩:XS).yi 10),iz ((⟨false,none⟩:XS).yi 12),iz ((⟨false,none⟩:XS).yi 13),iz ((⟨false,none⟩:XS).yi 14),iz ((⟨false,none⟩:XS).yi 15),iz ((⟨false,none⟩:XS).yi 16),iz ((⟨false,none⟩:XS).yi 17),iz ((⟨false,none⟩:XS).yi 18),iz ((⟨false,none⟩:XS).yi 19),iz ((⟨false,none⟩:XS).yi 20),uz ((⟨false,none⟩:XS).yi 21)] (fc s.hs.leaf (fc s.hl.leaf fr)) [(.gtr,sy 10,iz 60,.bool false),(.gtr,sy 11,iz 40,.bool false)] [] [] (fc (λ_ _ _=>a_ (by first|(simp;done)|(simp;omega))) (fc (λ_ _ _=>a_ (by first|(simp;done)|(simp;omega))) fn)) fn fn s.W (λ_=>False) [[],uO,[]] [⟨[10,23],[sy 1],none,0,none,sy 10,none⟩,⟨[10,22],[sy 0],none,0,none,sy 11,none⟩] [⟨14,[.agg #[sy 2,sy 3,sy 4,sy 5,sy 6,sy 7],sy 8,sy 9],0,some 407,.complex .f32 407 0,some 1⟩,⟨16,[.agg #[sy 2,sy 3,sy 4,sy 5,sy 6,sy 7]],1,none,.agg #[sy 2,sy 3,sy 4,sy 5,sy 6,sy 7],none⟩,⟨15,[.agg #[sy 2,sy 3,sy 4,sy 5,sy 6,sy 7],sy 8,sy 9],1,none,.agg #[sy 12,sy 13,sy 14,sy 15,sy 16,sy 17,sy 18,sy 19,.bool false,sy 20,sy 21,.bool false,sy 22,sy 23,sy 24,sy 25,sy 26,sy 27,sy 28,sy 29,sy 30,sy 31,.slice none 0 0,.slice none 0 0],none⟩,⟨13,[.iface 42 (.complex .f32 407 0),.agg #[sy 12,sy 13,sy 14,sy 15,sy 16,sy 17,sy 18,sy 19,.bool false,sy 20,sy 21,.bool false,sy 22,sy 23,sy 24,sy 25,sy 26,sy 27,sy 28,sy 29,sy 30,sy 31,.slice none 0 0,.slice none 0 0],.agg #[sy 2,sy 3,sy 4,sy 5,sy 6,sy 7],sy 0,sy 1],1,none,.bool true,some 2⟩,⟨10,[],2,none,.bool true,none⟩]) (fc (bt (ci:=0) rfl rfl s.hl underlying23 rfl rfl) (fc (bt (ci:=0) rfl rfl s.hs underlying22 rfl rfl) fn)) (fc (cd rfl [λv=>xW (⟨false,none⟩:XS) v] [] [] (λw F ho hn hF=>uh c p gg hg hn)) (fc (pc rfl (λw hb=>iK c w)) (fc (pc rfl (λw hb=>Bo c p hc gg w)) (fc (j8 (c:=⟨s.W,λ_=>False⟩) (fp:=[bP 407 (λv=>xW (⟨false,none⟩:XS) v)]) (lp:=λv=>[xW (⟨false,none⟩:XS) v]) (lq:=[]) (args:=λv=>[.iface 42 v,BQ,BP c,s.bv,s.lv]) [0] [] rfl rfl rfl rfl (cS (λ_ _ _ _ _ h=>h) bZ) (em (ak (by kernel_rfl) (by kernel_rfl))) (λι=>(vk (by kernel_rfl) (by kernel_rfl))) (λv w F ho hn hF=>gj s c hlp hlb (fH _ _) rfl ho hF hn)) (fc (pc (args:=[]) rfl (λw hb=>bz _)) fn))))) rfl [] [] [] 2 rfl rfl mP (.bool true))
theorem N4(s:LP)(c:aT)(p:Int)(hp:¬ (0<=p/\p<c.n))(gg:Int)(hg:¬ 0<=gg)(hlp:s.ps.length<=60)(hlb:s.bs.length<=40):aK prog 6 [] 0 37 ⟨s.W,λ_=>False⟩ (LO s c p gg) [] (λκ:ag=>(.bool true)) (λκ:ag=>[]):=(bU (c:=⟨s.W,λ_=>False⟩) 5 (kn [s.bv,s.lv,iN (c.n),iN (c.q),iz (c.g),iz (c.m),iz (c.t),iz (c.s),iz (p),iz (gg),iN (s.ps.length),iN (s.bs.length),iz ((⟨false,none⟩:XS).yi 0),iz ((⟨false,none⟩:XS).yi 1),iz ((⟨false,none⟩:XS).yi 2),iz ((⟨false,none⟩:XS).yi 3),iz ((⟨false,none⟩:XS).yi 4),iz ((⟨false,none⟩:XS).yi 5),iz ((⟨false,none⟩:XS).yi 6),iz ((⟨false,none⟩:XS).yi 7),iz ((⟨false,none⟩:XS).yi 9),uz ((⟨false,none⟩:XS).yi 10),iz ((⟨false,none⟩:XS).yi 12),iz ((⟨false,none⟩:XS).yi 13),iz ((⟨false,none⟩:XS).yi 14),iz ((⟨false,none⟩:XS).yi 15),iz ((⟨false,none⟩:XS).yi 16),iz ((⟨false,none⟩:XS).yi 17),iz ((⟨false,none⟩:XS).yi 18),iz ((⟨false,none⟩:XS).yi 19),iz ((⟨false,none⟩:XS).yi 20),uz ((⟨false,none⟩:XS).yi 21)] (fc s.hs.leaf (fc s.hl.leaf fr)) [(.gtr,sy 10,iz 60,.bool false),(.gtr,sy 11,iz 40,.bool false)] [] [] (fc (λ_ _ _=>a_ (by first|(simp;done)|(simp;omega))) (fc (λ_ _ _=>a_ (by first|(simp;done)|(simp;omega))) fn)) fn fn s.W (λ_=>False) [[],uO,[]] [⟨[10,23],[sy 1],none,0,none,sy 10,none⟩,⟨[10,22],[sy 0],none,0,none,sy 11,none⟩] [⟨14,[.agg #[sy 2,sy 3,sy 4,sy 5,sy 6,sy 7],sy 8,sy 9],0,some 407,.complex .f32 407 0,some 1⟩,⟨16,[.agg #[sy 2,sy 3,sy 4,sy 5,sy 6,sy 7]],1,none,.agg #[sy 2,sy 3,sy 4,sy 5,sy 6,sy 7],none⟩,⟨15,[.agg #[sy 2,sy 3,sy 4,sy 5,sy 6,sy 7],sy 8,sy 9],1,none,.agg #[sy 12,sy 13,sy 14,sy 15,sy 16,sy 17,sy 18,sy 19,.bool false,sy 20,sy 21,.bool false,sy 22,sy 23,sy 24,sy 25,sy 26,sy 27,sy 28,sy 29,sy 30,sy 31,.slice none 0 0,.slice none 0 0],none⟩,⟨13,[.iface 42 (.complex .f32 407 0),.agg #[sy 12,sy 13,sy 14,sy 15,sy 16,sy 17,sy 18,sy 19,.bool false,sy 20,sy 21,.bool false,sy 22,sy 23,sy 24,sy 25,sy 26,sy 27,sy 28,sy 29,sy 30,sy 31,.slice none 0 0,.slice none 0 0],.agg #[sy 2,sy 3,sy 4,sy 5,sy 6,sy 7],sy 0,sy 1],1,none,.bool true,some 2⟩,⟨10,[],2,none,.bool true,none⟩]) (fc (bt (ci:=0) rfl rfl s.hl underlying23 rfl rfl) (fc (bt (ci:=0) rfl rfl s.hs underlying22 rfl rfl) fn)) (fc (cd rfl [λv=>xW (⟨false,none⟩:XS) v] [] [] (λw F ho hn hF=>uh c.cf p gg hg hn)) (fc (pc rfl (λw hb=>iK c.cf w)) (fc (pc rfl (λw hb=>wc c p hp gg w)) (fc (j8 (c:=⟨s.W,λ_=>False⟩) (fp:=[bP 407 (λv=>xW (⟨false,none⟩:XS) v)]) (lp:=λv=>[xW (⟨false,none⟩:XS) v]) (lq:=[]) (args:=λv=>[.iface 42 v,BQ,n0 c,s.bv,s.lv]) [0] [] rfl rfl rfl rfl (cS (λ_ _ _ _ _ h=>h) bZ) (em (ak (by kernel_rfl) (by kernel_rfl))) (λι=>(vk (by kernel_rfl) (by kernel_rfl))) (λv w F ho hn hF=>gj s c.cf hlp hlb (fH _ _) rfl ho hF hn)) (fc (pc (args:=[]) rfl (λw hb=>bz _)) fn))))) rfl [] [] [] 2 rfl rfl mP (.bool true))
end Go.Proofs.YtbcnbofkgkheeaaGreat
namespace Go.Proofs.YtbcnbofkgkheeaaGreat
open Go.Ev Go.Proofs.Tryz
open Go.ChangeShapes Go.WideShapes Go.ChangeAt Go.RowKit Go.Deep
set_option maxRecDepth 100000
theorem lU(s:LP)(c:Cf)(p:Int):Calls prog 7 #[c.v,.int .i64 p,s.bv,s.lv] s.W λe w'=>e=.returned (.bool true)/\Below s.W.heap.size s.W w':=by
 by_cases uP:s.ps.length>60
 ·exact mE (S2 s c p uP) (by kernel_rfl) (by simp) (by simp)
 by_cases rF:s.bs.length>40
 ·exact mE (S3 s c p uP rF) (by kernel_rfl) (by simp) (by simp)
 replace uP:s.ps.length<=60:=by omega
 replace rF:s.bs.length<=40:=by omega
 cases hc:c.ok with
 | false=>exact mE (S5 s c p hc uP rF) (by kernel_rfl) (by simp) (by simp)
 | true =>
  obtain⟨d,rfl⟩:=Cf.cfg hc
  by_cases hp:0<=p/\p<(d.n:Int)
  ·obtain⟨q,rfl⟩:=Int.eq_ofNat_of_zero_le hp.1
   exact mE (S4 s d q (by omega) uP rF) (by kernel_rfl) (by simp) (by simp)
  ·exact mE (QS s d p hp uP rF) (by kernel_rfl) (by simp) (by simp)
theorem lR(s:LP)(c:Cf)(p:Int)(g:Int)(hg:g<=9223372036854775807):Calls prog 6 #[c.v,.int .i64 p,.int .i64 g,s.bv,s.lv] s.W λe w'=>e=.returned (.bool true)/\Below s.W.heap.size s.W w':=by
 by_cases uP:s.ps.length>60
 ·exact mE (S6 s c p g uP) (by kernel_rfl) (by simp) (by simp)
 by_cases rF:s.bs.length>40
 ·exact mE (S7 s c p g uP rF) (by kernel_rfl) (by simp) (by simp)
 replace uP:s.ps.length<=60:=by omega
 replace rF:s.bs.length<=40:=by omega
 by_cases h0:0<=g
 ·have hg0:0<=g/\g<=9223372036854775807:=⟨h0,hg⟩
  cases hc:c.ok with
  | false=>exact mE (S_ s c p hc g hg0 uP rF) (by kernel_rfl) (by simp) (by simp)
  | true =>
   obtain⟨d,rfl⟩:=Cf.cfg hc
   by_cases hp:0<=p/\p<(d.n:Int)
   ·obtain⟨q,rfl⟩:=Int.eq_ofNat_of_zero_le hp.1
    exact mE (S8 s d q (by omega) g hg0 uP rF) (by kernel_rfl) (by simp) (by simp)
   ·exact mE (QT s d p hp g hg0 uP rF) (by kernel_rfl) (by simp) (by simp)
 ·have hg0:=h0
  cases hc:c.ok with
  | false=>exact mE (QV s c p hc g hg0 uP rF) (by kernel_rfl) (by simp) (by simp)
  | true =>
   obtain⟨d,rfl⟩:=Cf.cfg hc
   by_cases hp:0<=p/\p<(d.n:Int)
   ·obtain⟨q,rfl⟩:=Int.eq_ofNat_of_zero_le hp.1
    exact mE (QU s d q (by omega) g hg0 uP rF) (by kernel_rfl) (by simp) (by simp)
   ·exact mE (N4 s d p hp g hg0 uP rF) (by kernel_rfl) (by simp) (by simp)
end Go.Proofs.YtbcnbofkgkheeaaGreat
namespace Go.Proofs.YtbcnbofkgkheeaaGreat
open Go.Ev Go.Proofs.Tryz
open Go.RowKit
open Go.Ev (sy)
def pY(N Q G M T S n:Int):Nat->Value
 | 0=>.int .i64 N
 | 1=>.int .i64 Q
 | 2=>.int .i64 G
 | 3=>.int .i64 M
 | 4=>.int .i64 T
 | 5=>.int .i64 S
 | 6=>.int .i64 n
 | 7=>.int .i64 (pick n 9)
 | 8=>.int .i64 (-1-pick n 9)
 | 9=>.int .i64 (N-1)
 | _=>.int .i64 0
theorem LQ(N Q G M T S n:Int):∀ k,ai (pY N Q G M T S n k)=true:=by
 intro k;unfold pY
 split<;>rfl
def Vs:List gn:=[(.sub,.int .i64 (-1),sy 7,sy 8),(.lss,sy 8,.int .i64 0,.bool true)]
def Vt:List gn:=[(.sub,.int .i64 (-1),sy 7,sy 8),(.lss,sy 8,.int .i64 0,.bool true),(.sub,sy 0,.int .i64 1,sy 9),(.leq,.int .i64 99,sy 9,.bool false)]
def Vu:List gW:=[]
def Tx(b:Bool):List jf:=[(34,[.agg #[sy 0,sy 1,sy 2,sy 3,sy 4,sy 5]],.bool b),(11,[sy 6,.int .i64 9],sy 7),(10,[],.bool true)]
theorem S'{N Q G M T S:Int}(h:eK N Q G M T S=true):1<=N/\N<=8/\2<=Q/\Q<=64/\M<=16:=by
 simp only[eK,wi,Bool.and_eq_true,Bool.or_eq_true,decide_eq_true_eq,beq_iff_eq]at h;omega
theorem QW(N Q G M T S n:Int):∀ q ∈ Vs,jg (pY N Q G M T S n) q:=by
 have hp:=ly n 9 (by omega);intro q hq;simp only[Vs,List.mem_cons,List.not_mem_nil,or_false]at hq;rcases hq with rfl | rfl<;>intro t ox oy
 ·exact bX (IntWalk.i64_in _ (by omega))
 ·exact aQ (by simp;omega)
theorem QX(N Q G M T S n:Int)(h:eK N Q G M T S=true):∀ q ∈ Vt,jg (pY N Q G M T S n) q:=by
 have hp:=ly n 9 (by omega);have hr:=S' h;intro q hq;simp only[Vt,List.mem_cons,List.not_mem_nil,or_false]at hq;rcases hq with rfl | rfl | rfl | rfl<;>intro t ox oy
 ·exact bX (IntWalk.i64_in _ (by omega))
 ·exact aQ (by simp;omega)
 ·exact bX (IntWalk.i64_in _ (by omega))
 ·exact oo (by simp;omega)
theorem LR(N Q G M T S n:Int):∀ q ∈ Vu,jD (pY N Q G M T S n) q:=by
 have hp:=ly n 9 (by omega);intro q hq;cases hq
theorem LS(N Q G M T S n:Int):∀ q ∈ ([]:List gX),jh (pY N Q G M T S n) q:=λq hq=>by cases hq
theorem LU(N Q G M T S n:Int){b:Bool}(h:eK N Q G M T S=b):∀ q ∈ Tx b,HU prog (pY N Q G M T S n) q:=by
 intro q hq;simp only[Tx,List.mem_cons,List.not_mem_nil,or_false]at hq;rcases hq with rfl | rfl | rfl<;>intro w
 ·subst h
  exact qD N Q G M T S w
 ·exact t5 n 9 (by omega) (by omega) w
 ·exact bz w
@[reducible] noncomputable def N5(N Q G M T S n:Int):aP:=Ei (pY N Q G M T S n) (LQ N Q G M T S n) Vs Vu [] (Tx false) (QW N Q G M T S n) (LR N Q G M T S n) (LS N Q G M T S n)
@[reducible] noncomputable def N6(N Q G M T S n:Int)(h:eK N Q G M T S=true):aP:=Ei (pY N Q G M T S n) (LQ N Q G M T S n) Vt Vu [] (Tx true) (QX N Q G M T S n h) (LR N Q G M T S n) (LS N Q G M T S n)
theorem Vv(N Q G M T S n:Int):cZ prog (λB=>Ev.isTrue (@Ev.dG (N5 N Q G M T S n) B (@Ev.tn (N5 N Q G M T S n) B 200) 9 [.agg #[sy 0,sy 1,sy 2,sy 3,sy 4,sy 5],sy 6] Ev.s0))=true:=by kernel_rfl
theorem Vw(N Q G M T S n:Int)(h:eK N Q G M T S=true):cZ prog (λB=>Ev.isTrue (@Ev.dG (N6 N Q G M T S n h) B (@Ev.tn (N6 N Q G M T S n h) B 200) 9 [.agg #[sy 0,sy 1,sy 2,sy 3,sy 4,sy 5],sy 6] Ev.s0))=true:=by kernel_rfl
theorem n6(N Q G M T S n:Int)(w:World):Calls prog 9 #[.agg #[.int .i64 N,.int .i64 Q,.int .i64 G,.int .i64 M,.int .i64 T,.int .i64 S],.int .i64 n] w λe w'=>e=.returned (.bool true)/\Below w.heap.size w w':=by
 cases h:eK N Q G M T S with
 | false=>exact @Ev.qp (N5 N Q G M T S n) _ Tryz.codeOk (vU (LU N Q G M T S n h)) cR 200 _ #[.agg #[sy 0,sy 1,sy 2,sy 3,sy 4,sy 5],sy 6] _ (Vv N Q G M T S n) (@Ev.Ek (N5 N Q G M T S n) _ #[.agg #[sy 0,sy 1,sy 2,sy 3,sy 4,sy 5],sy 6] rfl) w
 | true=>exact @Ev.qp (N6 N Q G M T S n h) _ Tryz.codeOk (vU (LU N Q G M T S n h)) cR 200 _ #[.agg #[sy 0,sy 1,sy 2,sy 3,sy 4,sy 5],sy 6] _ (Vw N Q G M T S n h) (@Ev.Ek (N6 N Q G M T S n h) _ #[.agg #[sy 0,sy 1,sy 2,sy 3,sy 4,sy 5],sy 6] rfl) w
end Go.Proofs.YtbcnbofkgkheeaaGreat
namespace Go.Ev
open Go.RowKit
section
variable{k:Kn}{P:Program}{g g':Nat}{l:List aC}{t e:TypeId}{n sz:Nat}{i:TypeInfo}{z:Value}{xs:List Value}
theorem kH{d1:Nat}{kd kd':IntKind}{x y:Value}(hg:k.gs[g]? = some (star l))(hg':k.gs[g']? = some (star (l++[bP d1 (λv=>aD e sz v n xs)])))(hx:AX k x (.int kd (n:Int)))(hy:AX k y (.int kd' (n:Int)))(ht:P.underlying t=some (.slice e))(jl:P.info? e=some i)(hsz:i.size=sz)(hz:i.zero=some z)(hm:(madeCells z.cells (n*sz)).toList=xs)(hb:i.bytes*n<=281474976710656)(hn:n<=maxLen):aR k P ⟨[19,t],[x,y],none,g,some d1,.complex .f32 d1 0,some g'⟩:=by
 refine aR.make ?_;letI:aP:=k.sig;intro ι F w d x' y' q P7 Mv;obtain rfl:=q.name d1 rfl;obtain⟨b,q1,q2⟩:=q.st;rw[hg]at q1;cases q1;rw[hx _ _ P7,hy _ _ Mv];obtain⟨w',r1,r2,r3⟩:=run_make_full (P:=P) w w.heap.size t e i z sz ht jl hz hsz kd kd' n hb hn (Nat.le_refl _);have hsl:fh e sz (.slice (some ⟨w.heap.size,0,none⟩) n n) n xs (λj=>j=w.heap.size) w':=by
  obtain⟨s1,s2⟩:=r2;rw[hm]at s1 s2;rcases s2 with ⟨h,_⟩ | ⟨gb,cap,cur,hv,hb',hh,c1,c2,c3,c4⟩
  ·cases h
  ·cases hv
   refine⟨s1,.inr ⟨w.heap.size,0,n,cur,rfl,λ_=>Iff.rfl,hh,λj hj=>?_,by omega,Nat.le_refl _⟩⟩;rw[← c4,Nat.zero_add,List.getElem?_take_of_lt hj];simp
 obtain⟨cc,hcc⟩:=hsl.code;have hup:(ι.upd d1 cc) d1=some cc:=by simp[ag.upd]
 exact⟨_,w',r1,grow_end hg' q2 q.lt (gE q) cc ⟨cc,hup,by rw[hcc];exact hsl⟩ (rA r3) (λj hj=>⟨hsl.lt j hj,by rw[hj];exact Nat.le_refl _⟩) (.dyn d1 cc _ hup hcc)⟩
theorem GT{ci sL sP:Nat}{v y:Value}{kd:IntKind}{j:Nat}(hg:k.gs[g]? = some (star l))(hi:l[ci]? = some (aD e sz v n xs))(ht:P.underlying t=some (.slice e))(jl:P.info? e=some i)(hsz:i.size=sz)(hL:k.val sL=v)(hI:AX k y (.int kd (j:Int)))(hj:j<n)(hP:k.val sP=dx v (j*sz)):aR k P ⟨[3,t],[sy sL,y],none,g,none,sy sP,none⟩:=by
 subst hsz;refine aR.index k ?_;letI:aP:=k.sig;intro ι F w d x' y' q hx hy;obtain⟨Fs,ff,hS,hf,h1⟩:=dC hg hi q;rw[fN hx,hI _ _ hy,hL];obtain⟨b,off,c,e1,e2,_⟩:=fh.at (kd:=kd) h1 ht jl hj;exact⟨_,w,e2,mA (by rw[hP,e1];rfl),Below.refl _ _⟩
end
theorem nD{l:List aC}{F:Nat->Prop}{w w':World}(h:bI l F w)(hb:Below w.heap.size w w'):ah ⟨w,F⟩ l w' :=
 ⟨⟨F,f6 h (λj hj=>hb.block j (h.lt j hj)) hb.size,⟨hb.os,hb.tape,hb.output,hb.size,λj hj _=>hb.block j hj⟩,λj hj=>.inl hj⟩⟩
theorem uQ{c:fQ}{l:List aC}{w:World}{e:TypeId}{sz n:Nat}{v:Value}{xs:List Value}(h:ah c (aD e sz v n xs::l) w):lT sz v n xs w:=by
 obtain⟨f,hf⟩:=h.first
 exact fh.ro hf
end Go.Ev
namespace Go.Proofs.YtbcnbofkgkheeaaGreat
open Go.Ev Go.Proofs.Tryz
open Go.RowKit
open Go.Ev (iz iN pz)
abbrev bA(v:Value)(bs:List Int):aC:=aD 5 1 v bs.length (hJ bs)
abbrev pA(v:Value)(ps:List bu):aC:=aD 32 3 v ps.length (ps.flatMap bu.cells)
def BZ(bs:List Int):Prop:=∀ i,0<=bs.getD i 0/\bs.getD i 0<256
def PZ(ps:List bu):Prop:=∀ s ∈ ps,c7 s.v
section
variable{w:World}{F:Nat->Prop}{bv pv tv:Value}{bs ts:List Int}{ps:List bu}
theorem pZ(c:Cf)(p g:Int)(hg:g<=9223372036854775807)(hz:BZ bs)(hv:PZ ps)(h:bI [bA bv bs,pA pv ps] F w) :
  Calls prog 6 #[c.v,iz p,iz g,bv,pv] w λe w'=>e=.returned (.bool true)/\ah ⟨w,F⟩ [bA bv bs,pA pv ps] w' :=
 (lR ⟨w,pv,ps,uQ ((ah.start h).sel [1]),hv,bv,bs,uQ (ah.start h),hz⟩ c p g hg).mono λx w' ⟨he,hb⟩=>⟨he,nD h hb⟩
theorem nE(c:Cf)(p:Int)(hz:BZ bs)(hv:PZ ps)(h:bI [bA bv bs,pA pv ps] F w) :
  Calls prog 7 #[c.v,iz p,bv,pv] w λe w'=>e=.returned (.bool true)/\ah ⟨w,F⟩ [bA bv bs,pA pv ps] w' :=
 (lU ⟨w,pv,ps,uQ ((ah.start h).sel [1]),hv,bv,bs,uQ (ah.start h),hz⟩ c p).mono λx w' ⟨he,hb⟩=>⟨he,nD h hb⟩
theorem BS(c:Cf)(p:Int)(aJ:Bool)(hz:BZ bs)(ht:BZ ts)(h:bI [bA bv bs,bA tv ts] F w) :
  Calls prog 8 #[c.v,iz p,.bool aJ,bv,tv] w λe w'=>e=.returned (.bool true)/\ah ⟨w,F⟩ [bA bv bs,bA tv ts] w' :=
 (rL ⟨w,tv,ts,uQ ((ah.start h).sel [1]),ht,bv,bs,uQ (ah.start h),hz,c,p⟩ aJ).mono λx w' ⟨he,hb⟩=>⟨he,nD h hb⟩
theorem N7(hv:PZ ps)(h:bI [pA pv ps] F w) :
  Calls prog 6 #[(⟨0,0,0,0,0,0⟩:Cf).v,iz 0,iz 1,.slice none 0 0,pv] w λe w'=>e=.returned (.bool true)/\ah ⟨w,F⟩ [pA pv ps] w' :=
 (lR ⟨w,pv,ps,uQ (ah.start h),hv,.slice none 0 0,[],⟨rfl,.inl ⟨rfl,_,_,rfl⟩⟩,λi=>⟨by simp,by simp⟩⟩ ⟨0,0,0,0,0,0⟩ 0 1 (by decide)).mono λx w' ⟨he,hb⟩=>⟨he,nD h hb⟩
end
abbrev zP(n:Nat):List bu:=List.replicate n ⟨false,0,0⟩
theorem LW(n:Nat):PZ (zP n):=by
 intro s hs;obtain rfl:=List.eq_of_mem_replicate hs;exact⟨by decide,by decide⟩
theorem BT:∃ i,prog.info? 32 = some i/\i.size=3/\i.zero=some (.agg #[.bool false,.int .i64 0,.int .u64 0])/\i.bytes=24:=tY (by kernel_rfl)
theorem N8:pw prog 5:=by
 intro b o x x0 w h hf hc;simp[Instr.storeAt,Instr.sureAddr,storeVar,isAgg,run_underlying underlying5,h,cells_one hc,storeCells,run_store _ _ _ _ _ hc,hf,iF]
abbrev Mg(c:aT):Cf:=⟨(c.n:Int),(c.q:Int),c.g,c.m,c.t,c.s⟩
end Go.Proofs.YtbcnbofkgkheeaaGreat
