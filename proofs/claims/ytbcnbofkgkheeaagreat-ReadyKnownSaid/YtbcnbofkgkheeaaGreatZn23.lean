/- Part of a proof: see the last text. -/
import Derived.Test.YtbcnbofkgkheeaaGreatZn17
import Derived.Test.YtbcnbofkgkheeaaGreatZn18
import Derived.Test.YtbcnbofkgkheeaaGreatZn20
import Derived.Test.YtbcnbofkgkheeaaGreatZn22
import Derived.Test.YtbcnbofkgkheeaaGreatZn16
import Derived.Test.YtbcnbofkgkheeaaGreatZn21
import Derived.Test.YtbcnbofkgkheeaaGreatZn19
set_option linter.unusedSectionVars false
set_option linter.unusedSimpArgs false
set_option linter.unusedVariables false
namespace Go.Proofs.YtbcnbofkgkheeaaGreat
open Go.Ev Go.Proofs.Tryz
open Go.RowKit
open Go.Ev (sy iz uz wz iN uN wN pz dv fc fn ak vk vd kn pc cc cr cm cd fr)
set_option maxRecDepth 8000
attribute [local irreducible] dL
abbrev mH(cv:Value)(us:List Int):aC:=aD 28 1 (cv) (us.length) (aF us)
abbrev yr(m:aG)(rv:Value):aC:=aD 28 1 (rv) (m.cells.length) (aF m.cells)
abbrev Di(cv:Value)(us:List Int)(bm:Nat)(m:aG)(rv:Value):List aC:=[(mH cv us),aj bm m,(yr m rv)]
abbrev yu(cv:Value)(us:List Int)(bm:Nat)(b5:Nat)(b3:Nat)(m:aG)(rv:Value):List aC:=[aH b5 [rv,uz m.ops] 58,aH b3 [.slice none 0 0,.int .u64 0] 58,(mH cv us),aj bm m,(yr m rv)]
abbrev Dj:List dZ:=[(4,[sy 1,sy 4],58),(8,[.slice none 0 0,.int .u64 0],58)]
abbrev J4:List (Nat×Value):=[(0,sy 0),(3,.pointer (some ⟨8,0,none⟩)),(4,sy 2),(5,.pointer (some ⟨4,0,none⟩))]
theorem Xy(W0:World)(F0:Nat->Prop)(cv:Value)(OQ:ai cv=true)(us:List Int)(hu:us.length<=1000):bV prog 19 [] 0 3 42 ⟨W0,F0⟩ [(0,(cv))] [(mH cv us)] .normal (λκ:ag=>[(0,(cv)),(3,(pz ((κ 400).getD 0))),(4,dv κ 407),(5,(pz ((κ 412).getD 0))),(6,iz 0)]) (λκ:ag=>[aH ((κ 400).getD 0) [.slice none 0 0,.int .u64 0] 58,aH ((κ 412).getD 0) [dv κ 411,.int .u64 0] 58,aD 28 1 (dv κ 411) us.length (aF (List.replicate us.length 0)),nG (dv κ 407) ⟨List.replicate us.length 0,0⟩,(mH cv us)]):=by have q1:=hu;obtain⟨i,i1,i2,i3,i4⟩:=cK;exact(tr (c:=⟨W0,F0⟩) (kn [cv,iN (us.length)] (fc (by assumption) fr) [] [] [] fn fn fn W0 F0 [[(mH cv us)],[bP 407 (λv=>nG v ⟨List.replicate us.length 0,0⟩),(mH cv us)],[bP 411 (λv=>aD 28 1 v us.length (aF (List.replicate us.length 0))),bP 407 (λv=>nG v ⟨List.replicate us.length 0,0⟩),(mH cv us)]] [⟨[10,56],[sy 0],none,0,none,sy 1,none⟩,⟨[10,56],[sy 0],none,1,none,sy 1,none⟩] [⟨27,[sy 1],0,some 407,.complex .f32 407 0,some 1⟩,⟨43,[sy 1],1,some 411,.agg #[.complex .f32 411 0,.int .u64 0],some 2⟩]) (fc (by exact bT (ci:=1) rfl rfl underlying56 i2 rfl rfl) (fc (by exact bT (ci:=2) rfl rfl underlying56 i2 rfl rfl) fn)) (fc (by exact cd rfl [λv=>nG v ⟨List.replicate us.length 0,0⟩] [] [0] (λw F ho hn hF=>Jc (by omega) hn)) (fc (by exact cd rfl [λv=>aD 28 1 v us.length (aF (List.replicate us.length 0))] [] [0,1] (λw F ho hn hF=>Nm (by omega) hn)) fn)) rfl [] [] [(400,[.slice none 0 0,.int .u64 0],58),(412,[.complex .f32 411 0,.int .u64 0],58)] 2 rfl rfl [(0,sy 0)] [(0,sy 0),(3,.pointer (some ⟨400,0,none⟩)),(4,.complex .f32 407 0),(5,.pointer (some ⟨412,0,none⟩)),(6,iz 0)] .normal).conv (λκ w=>⟨(λ_ h=>h),(λ_ h=>h),(λ_ h=>aS (a:=λv=>aD 28 1 v us.length (aF (List.replicate us.length 0))) (λ_ _ _ _ _ h=>h) h),(λ_ h=>aS (a:=λv=>nG v ⟨List.replicate us.length 0,0⟩) (λ_ _ _ _ _ h=>h) h),(λ_ h=>h),trivial⟩)
theorem Xz(W0:World)(F0:Nat->Prop)(cv:Value)(OQ:ai cv=true)(us:List Int)(hu:us.length<=1000)(bm b5 b3:Nat)(m:aG)(rv:Value)(lrv:ai rv=true)(hm:m.cells.length=us.length)(j:Nat)(hj:j<us.length)(x:Int)(hx:us[j]? = some x):bV prog 19 [6,0] 0 4 42 ⟨W0,F0⟩ [(0,(cv)),(3,pz b3),(4,pz bm),(5,pz b5),(6,iN j)] (yu cv us bm b5 b3 m rv) .normal (λκ:ag=>[(0,(cv)),(3,pz b3),(4,pz bm),(5,pz b5),(6,(iN ((j)+1)))]) (λκ:ag=>[aH b5 [dv κ 407,(uz (IntKind.u64.wrap (m.ops+1)))] 58,aH b3 [.slice none 0 0,.int .u64 0] 58,aD 28 1 (dv κ 407) m.cells.length (aF (m.cells.set j x)),aj bm (m.put j x),(mH cv us)]):=by have q1:=hu;have q2:=hm;obtain⟨i,i1,i2,i3,i4⟩:=cK;exact(tr (c:=⟨W0,F0⟩) (kn [cv,rv,dx (cv) ((j)*1),pz bm,iN (j),uz (m.ops),iN (us.length),iN (m.cells.length),uz (x),uz (IntKind.u64.wrap (m.ops+1)),iN ((j)+1)] (fc (by assumption) (fc (by assumption) (fc (aX _ _) fr))) [(.lss,sy 4,sy 6,.bool true),(.lss,sy 4,sy 7,.bool true),(.add,sy 4,iz 1,sy 10)] [] [] (fc (λ_ _ _=>aQ (by first|(simp;done)|(simp;omega))) (fc (λ_ _ _=>aQ (by first|(simp;done)|(simp;omega))) (fc (λ_ _ _=>ax (by rw[ap (by omega) (by omega)];omega)) fn))) fn fn W0 F0 [(Di cv us bm m rv),[aj bm (m.put j x),(mH cv us),(yr m rv)],[bP 407 (λv=>aD 28 1 v m.cells.length (aF (m.cells.set j x))),aj bm (m.put j x),(mH cv us)]] [⟨[10,56],[sy 0],none,0,none,sy 6,none⟩,⟨[10,56],[sy 1],none,0,none,sy 7,none⟩,⟨[3,56],[sy 0,sy 4],none,0,none,sy 2,none⟩,⟨[1,28],[sy 2],none,0,none,sy 8,none⟩,⟨[3,56],[sy 0,sy 4],none,1,none,sy 2,none⟩,⟨[1,28],[sy 2],none,1,none,sy 8,none⟩] [⟨30,[sy 3,sy 4,sy 8],0,none,.tuple #[],some 1⟩,⟨40,[.agg #[sy 1,sy 5],sy 4,sy 8],1,some 407,.agg #[.complex .f32 407 0,sy 9],some 2⟩]) (fc (by exact bT (ci:=1) rfl rfl underlying56 i2 rfl rfl) (fc (by exact bT (ci:=3) rfl rfl underlying56 i2 rfl rfl) (fc (by exact bJ (ci:=1) (j:=(j)) rfl rfl underlying56 i1 i2 rfl rfl (by omega) rfl) (fc (by exact fi (ci:=1) (m:=(j)*1) (x:=(uz x)) rfl rfl loadU64 (by simp[aF,List.getElem?_map,hx]) (by simp;omega) rfl (λι=>(vk (by kernel_rfl) (by kernel_rfl)))) (fc (by exact bJ (ci:=2) (j:=(j)) rfl rfl underlying56 i1 i2 rfl rfl (by omega) rfl) (fc (by exact fi (ci:=2) (m:=(j)*1) (x:=(uz x)) rfl rfl loadU64 (by simp[aF,List.getElem?_map,hx]) (by simp;omega) rfl (λι=>(vk (by kernel_rfl) (by kernel_rfl)))) fn)))))) (fc (cc rfl [aj bm (m.put j x)] [1] [0,2] (λw F ho hn hF=>dI hn (by omega) (by omega) x)) (fc (cd rfl [λv=>aD 28 1 v m.cells.length (aF (m.cells.set j x))] [2] [0,1] (λw F ho hn hF=>fj lrv (by omega) m.ops (by omega) x hn)) fn)) rfl [(4,b5),(8,b3)] [(4,[sy 1,sy 5],58),(8,[.slice none 0 0,.int .u64 0],58)] [(4,[.complex .f32 407 0,sy 9],58),(8,[.slice none 0 0,.int .u64 0],58)] 2 rfl rfl [(0,sy 0),(3,.pointer (some ⟨8,0,none⟩)),(4,sy 3),(5,.pointer (some ⟨4,0,none⟩)),(6,sy 4)] [(0,sy 0),(3,.pointer (some ⟨8,0,none⟩)),(4,sy 3),(5,.pointer (some ⟨4,0,none⟩)),(6,sy 10)] .normal).conv (λκ w=>⟨(λ_ h=>h),(λ_ h=>h),(λ_ h=>aS (a:=λv=>aD 28 1 v m.cells.length (aF (m.cells.set j x))) (λ_ _ _ _ _ h=>h) h),(λ_ h=>h),(λ_ h=>h),trivial⟩)
theorem XA(W0:World)(F0:Nat->Prop)(cv:Value)(OQ:ai cv=true)(us:List Int)(hu:us.length<=1000)(bm b5 b3:Nat)(m:aG)(rv:Value)(lrv:ai rv=true)(hm:m.cells.length=us.length)(j:Nat)(hj:j=us.length):bV prog 19 [6,0] 0 4 42 ⟨W0,F0⟩ [(0,(cv)),(3,pz b3),(4,pz bm),(5,pz b5),(6,iN j)] (yu cv us bm b5 b3 m rv) (.exit 0) (λκ:ag=>[(0,(cv)),(3,pz b3),(4,pz bm),(5,pz b5)]) (λκ:ag=>(yu cv us bm b5 b3 m rv)):=(tr (c:=⟨W0,F0⟩) (kn [cv,rv,pz bm,iN (j),uz (m.ops),iN (us.length)] (fc (by assumption) (fc (by assumption) fr)) [(.lss,sy 3,sy 5,.bool false)] [] [] (fc (λ_ _ _=>aQ (by have q1:=hu;have q2:=hm;first|(simp;done)|(simp;omega))) fn) fn fn W0 F0 [(Di cv us bm m rv)] [⟨[10,56],[sy 0],none,0,none,sy 5,none⟩] []) (fc (by obtain⟨i,i1,i2,i3,i4⟩:=cK;exact bT (ci:=1) rfl rfl underlying56 i2 rfl rfl) fn) fn rfl [(4,b5),(8,b3)] Dj Dj 0 rfl rfl [(0,sy 0),(3,.pointer (some ⟨8,0,none⟩)),(4,sy 2),(5,.pointer (some ⟨4,0,none⟩)),(6,sy 3)] J4 (.exit 0))
theorem XB(W0:World)(F0:Nat->Prop)(cv:Value)(OQ:ai cv=true)(us:List Int)(hu:us.length<=1000)(bm b5 b3:Nat)(m:aG)(rv:Value)(lrv:ai rv=true)(hm:m.cells.length=us.length)(j:Nat):aK prog 19 [] 4 42 ⟨W0,F0⟩ [(0,(cv)),(3,pz b3),(4,pz bm),(5,pz b5)] (yu cv us bm b5 b3 m rv) (λκ:ag=>(.tuple #[pz bm,(.agg #[rv,uz m.ops])])) (λκ:ag=>[aH b5 [rv,uz m.ops] 58,aH b3 [rv,uz m.ops] 58,(mH cv us),aj bm m,(yr m rv)]):=(bU (c:=⟨W0,F0⟩) 2 (kn [cv,rv,pz bm,iN (j),uz (m.ops)] (fc (by assumption) (fc (by assumption) fr)) [] [] [] fn fn fn W0 F0 [(Di cv us bm m rv)] [] []) fn fn rfl [(4,b5),(8,b3)] Dj [(4,[sy 1,sy 4],58),(8,[sy 1,sy 4],58)] 0 rfl rfl J4 (.tuple #[sy 2,.agg #[sy 1,sy 4]]))
end Go.Proofs.YtbcnbofkgkheeaaGreat
namespace Go.Proofs.YtbcnbofkgkheeaaGreat
open Go.Ev Go.Proofs.Tryz
open Go.RowKit
open Go.Ev (sy)
set_option maxRecDepth 8000
theorem uj{n:Int}(h1:0<=n)(h2:n<=18446744073709551615):IntKind.u64.wrap n=n:=by
 unfold IntKind.wrap;simp[IntKind.signed,IntKind.bits];omega
theorem kD{c:fQ}{e:TypeId}{sz n:Nat}{v:Value}{xs:List Value}{l:List aC}{w:World}(h:ah c (aD e sz v n xs::l) w):∃ cd,Ev.dec cd=v:=by
 obtain⟨f,hf⟩:=h.first
 exact fh.code hf
theorem BD{w:World}{F:Nat->Prop}{cv:Value}(OQ:ai cv=true){us:List Int}(hu:us.length<=1000)(h:bI [aD 28 1 cv us.length (aF us)] F w) :
  Calls prog 19 #[cv] w λe w'=>∃ v cd,Ev.dec cd=v/\e=.returned (.tuple #[am 0 v,.agg #[am 1 v,.int .u64 ((us.length:Nat):Int)]])/\ah ⟨w,F⟩ [nG (am 0 v) ⟨us,((us.length:Nat):Int)⟩,aD 28 1 (am 1 v) us.length (aF us)] w':=by
 refine cF (N:=42) (tm:=[(0,cv)]) (by kernel_rfl) h (by simp) (by simp) (λA hA=>?_);refine Xy w F cv OQ us hu A w _ hA ?_;intro κ A1 w1 h1;dsimp only at h1;have hsel:=h1.hold.sel [3,0,1,2,4];obtain⟨bm,e4,h2⟩:=m8 hsel;have ht:=h1.tm;rw[e4]at ht;generalize (κ 400).getD 0=b3 at ht h2;generalize (κ 412).getD 0=b5 at ht h2;refine bY (id:=0) (by kernel_rfl) ?_;refine ek (by kernel_rfl) (λ(x:Nat×aG×Value) A w'=>Ev.At ⟨w,F⟩ 42 [(0,cv),(3,.pointer (some ⟨b3,0,none⟩)),(4,.pointer (some ⟨bm,0,none⟩)),(5,.pointer (some ⟨b5,0,none⟩)),(6,.int .i64 ((x.1:Nat):Int))] [aH b5 [x.2.2,.int .u64 x.2.1.ops] 58,aH b3 [.slice none 0 0,.int .u64 0] 58,aD 28 1 cv us.length (aF us),aj bm x.2.1,aD 28 1 x.2.2 x.2.1.cells.length (aF x.2.1.cells)] A w'/\x.1<=us.length/\x.2.1.cells.length=us.length/\x.2.1.ops=((x.1:Nat):Int)/\∀ i,i<x.1->x.2.1.cells[i]? = us[i]?) (λx=>us.length-x.1) (x:=(0,⟨List.replicate us.length 0,0⟩,Ev.dec ((κ 411).getD 0))) ⟨⟨h1.sz,h1.df,ht,?_⟩,Nat.zero_le _,by simp,rfl,λi hi=>absurd hi (Nat.not_lt_zero _)⟩ ?_
 ·have h3:=h2.sel [2,1,4,0,3]
  have e:(List.replicate us.length (0:Int)).length=us.length:=by simp
  simp only[e];exact h3
 clear ht h2 hsel e4 h1 hA A1 w1;rintro⟨j,m,rv⟩ A1 w1 ⟨h1,hj,hm,ho,hc⟩;replace hj:j<=us.length:=hj;replace hm:m.cells.length=us.length:=hm;replace ho:m.ops=((j:Nat):Int):=ho;replace hc:∀ i,i<j->m.cells[i]? = us[i]?:=hc;have lrv:ai rv=true:=aN (h1.hold.sel [4])
 by_cases hlt:j<us.length
 ·refine Xz w F cv OQ us hu bm b5 b3 m rv lrv hm j hlt us[j] (List.getElem?_eq_getElem hlt) A1 w1 _ h1 ?_
  intro κ' A2 w2 h2;refine bE (by kernel_rfl) ⟨(j+1,m.put j us[j],Ev.dec ((κ' 407).getD 0)),⟨⟨h2.sz,h2.df,h2.tm,?_⟩,hlt,by show(m.cells.set j us[j]).length=_;simp[hm],?_,λi hi=>?_⟩,by show us.length-(j+1)<us.length-j;omega⟩
  ·have h3:=h2.hold.sel [0,1,4,3,2]
   have e:(m.put j us[j]).cells.length=m.cells.length:=by show(m.cells.set j us[j]).length=_;simp
   simp only[e];exact h3
  ·show IntKind.u64.wrap (m.ops+1)=((j+1:Nat):Int)
   rw[ho,uj (by omega) (by omega)];omega
  ·show(m.cells.set j us[j])[i]? = us[i]?
   replace hi:i<j+1:=hi;rcases Nat.lt_or_ge i j with h | h
   ·rw[List.getElem?_set_ne (by omega)]
    exact hc i h
   ·obtain rfl:i=j:=by omega
    rw[List.getElem?_set_self (by omega),List.getElem?_eq_getElem hlt]
 ·obtain rfl:j=us.length:=by omega
  have ec:m.cells=us:=by
   apply List.ext_getElem?;intro i;rcases Nat.lt_or_ge i us.length with h | h
   ·exact hc i h
   ·rw[List.getElem?_eq_none (by omega),List.getElem?_eq_none h]
  obtain⟨cs,ops⟩:=m;replace ec:cs=us:=ec;replace ho:ops=_:=ho;subst ec;subst ho;refine XA w F cv OQ cs hu bm b5 b3 ⟨cs,_⟩ rv lrv hm cs.length rfl A1 w1 _ h1 ?_;intro κ' A2 w2 h2;refine XB w F cv OQ cs hu bm b5 b3 ⟨cs,_⟩ rv lrv hm cs.length A2 w2 _ h2 ?_;intro UJ w3 h3;obtain⟨cd,OP⟩:=kD (h3.sel [4]);refine⟨_,_,DT (oL (oL 1 (oL bm 0)) (oL cd 0)),?_,?_⟩
  ·rw[GY,GZ,gJ,OP]
  ·rw[GY,GZ,gJ,OP]
   exact wj (h3.sel [3,4])
end Go.Proofs.YtbcnbofkgkheeaaGreat
namespace Go.Proofs.YtbcnbofkgkheeaaGreat
open Go.Ev Go.Proofs.Tryz
open Go.RowKit
def zc(c:aT)(p:Nat)(n:Int):Nat:=c.word p+(6+(n%(c.q:Int)).toNat)
theorem wy(c:aT)(n:Int):(n%4294967296)%(c.q:Int)=n%(c.q:Int):=by
 have h:=(jM c.h).2.1;rcases h with h | h | h | h | h | h<;>rw[h]<;>omega
theorem pM(c:aT)(p:Nat)(n:Int):c.slot p (n%4294967296)=zc c p n:=by
 unfold aT.slot zc aT.eS aT.word;rw[wy]
theorem fk(c:aT)(p:Nat)(n:Int):c.slot p n=zc c p n:=by
 unfold aT.slot zc aT.eS aT.word;omega
theorem Nv(c:aT){p:Nat}{a b:Int}(h:zc c p a=zc c p b):a%(c.q:Int)=b%(c.q:Int):=by
 have hq:=c.qb.1;have h1:=Int.emod_nonneg a (show(c.q:Int)≠0 by omega);have h2:=Int.emod_nonneg b (show(c.q:Int)≠0 by omega);unfold zc at h;omega
theorem Qt(c:aT){p:Nat}{a b:Int}(h1:0<b-a)(h2:b-a<(c.q:Int)):zc c p b≠zc c p a:=by
 intro h;have:=Nv c h;have hd:(b-a)%(c.q:Int)=0:=Int.emod_eq_emod_iff_emod_sub_eq_zero.1 this;rw[Int.emod_eq_of_lt (by omega) h2]at hd;omega
theorem m_(c:aT)(p:Nat)(n:Int):c.word p+6<=zc c p n:=by unfold zc;omega
def zd(c:aT)(p:Nat)(m:aG)(n:Int):Int:=IntKind.i64.wrap (ld m (zc c p n))
def d5(c:aT)(p:Nat)(m:aG)(h:Int)(n:Nat):List Int:=(List.range n).map (λi:Nat=>zd c p m (h+(i:Int)))
def ring(c:aT)(p:Nat)(m:aG):List Int:=d5 c p m (dS (ld m (c.word p))) (cu (ld m (c.word p))).toNat
theorem na(c:aT)(p:Nat)(m:aG)(h:Int)(n:Nat):(d5 c p m h n).length=n:=by simp[d5]
theorem lD(c:aT)(p:Nat)(m:aG)(h:Int)(n:Nat):d5 c p m h (n+1)=d5 c p m h n++[zd c p m (h+(n:Int))]:=by
 unfold d5;rw[List.range_succ,List.map_append];rfl
theorem wA(c:aT)(p:Nat)(m:aG)(h:Int)(a b:Nat):d5 c p m h (a+b)=d5 c p m h a++d5 c p m (h+(a:Int)) b:=by
 induction b with
 | zero=>simp[d5]
 | succ b ih =>
  rw[← Nat.add_assoc,lD,ih,lD,List.append_assoc]
  congr 3
  congr 1
  omega
theorem uk{c:aT}{p:Nat}{m m':aG}{h:Int}{n:Nat}(e:∀ i,i<n->ld m' (zc c p (h+(i:Int)))=ld m (zc c p (h+(i:Int)))):d5 c p m' h n=d5 c p m h n:=by
 unfold d5;apply List.map_congr_left;intro i hi;unfold zd;rw[e i (List.mem_range.1 hi)]
theorem yv{c:aT}{p:Nat}{m:aG}{a b:Int}(h:a%(c.q:Int)=b%(c.q:Int)):zd c p m a=zd c p m b:=by
 unfold zd zc;rw[h]
theorem GD{c:aT}{p:Nat}{m:aG}{a b:Int}{n:Nat}(h:a%(c.q:Int)=b%(c.q:Int)):d5 c p m a n=d5 c p m b n:=by
 unfold d5;apply List.map_congr_left;intro i _;apply yv;rw[Int.add_emod,h,← Int.add_emod]
theorem eI{m:aG}{a b:Nat}{v:Int}(h:a≠b):ld (m.put a v) b=ld m b:=ga _ _ _ _ h
theorem oF{m:aG}{a:Nat}{v:Int}(h:a<m.cells.length):ld (m.put a v) a=v:=qK _ _ _ h
theorem pN(x:Int):0<=cu x:=by unfold cu;omega
section
variable{c:aT}{p:Nat}(hp:p<c.n){m:aG}(hm:bC c m)
theorem pO:(ring c p m).length=(cu (ld m (c.word p))).toNat:=na ..
theorem wB(v:Int):ring c p (m.put (c.word p+1) v)=ring c p m:=by
 unfold ring;rw[eI (by omega)];refine uk (λi _=>eI ?_);have:=m_ c p (dS (ld m (c.word p))+(i:Int));omega
theorem J5{t:Int}(ht:cq (ld m (c.word p))=t)(hs:cu (ld m (c.word p))<(c.q:Int))(v:Int):ring c p (m.put (c.slot p t) v)=ring c p m:=by
 have hlow:=m_ c p t;unfold ring;rw[fk,eI (by omega)];refine uk (λi hi=>eI ?_);have hsz:cu (ld m (c.word p))=(cq (ld m (c.word p))-dS (ld m (c.word p)))%4294967296:=rfl;have h0:=pN (ld m (c.word p));rw[← fk,← fk,fk,← pM c p t];intro h;have e1:zc c p t=zc c p (dS (ld m (c.word p))+cu (ld m (c.word p))):=by
  unfold zc
  congr 3
  rw[← wy c t,← wy c (dS (ld m (c.word p))+cu (ld m (c.word p)))]
  congr 1
  rw[hsz,← ht];omega
 rw[pM,fk,e1]at h;exact Qt c (a:=dS (ld m (c.word p))+(i:Int)) (b:=dS (ld m (c.word p))+cu (ld m (c.word p))) (by omega) (by omega) h
end
theorem J6{x:Int}(h:c7 x)(d:Int):dS (gF x d)=dS x:=by
 have:=lx h;unfold gF eB;generalize dS x=a at *;unfold dS;omega
theorem Sl(x:Int)(d:Int):cq (gF x d)=(cq x+d)%4294967296:=by
 unfold gF eB;generalize cq x=a;generalize dS x=b;unfold cq;omega
theorem EY{a b:Int}(hb:0<=b/\b<4294967296):dS (eB a b)=a:=by
 unfold dS eB;omega
theorem EZ{a b:Int}(hb:0<=b/\b<4294967296):cq (eB a b)=b:=by
 unfold cq eB;omega
theorem OS(x:Int):cq x=(dS x+cu x)%4294967296:=by
 have:=fq x;unfold cu;omega
theorem E0{x:Int}(h:c7 x){d:Int}(h1:0<=cu x+d)(h2:cu x+d<4294967296):cu (gF x d)=cu x+d:=by
 have e:cu (gF x d)=((cq x+d)%4294967296-dS x)%4294967296:=by
  unfold cu;rw[J6 h,Sl]
 rw[e];have e2:cu x=(cq x-dS x)%4294967296:=rfl;omega
theorem OT(c:aT){a b:Int}(h:a%4294967296=b%4294967296):a%(c.q:Int)=b%(c.q:Int):=by
 rw[← wy c a,← wy c b,h]
section
variable{c:aT}{p:Nat}(hp:p<c.n){m:aG}(hm:bC c m)
include hp hm
theorem BE(v:Int)(n:Int):zd c p (m.put (c.word p) v) n=zd c p m n:=by
 have:=m_ c p n;unfold zd;rw[eI (by omega)]
theorem um(v:Int)(h:Int)(n:Nat):d5 c p (m.put (c.word p) v) h n=d5 c p m h n:=by
 unfold d5;exact List.map_congr_left (λi _=>BE hp hm v _)
theorem Dk(hs:cu (ld m (c.word p))<(c.q:Int)):ring c p (m.put (c.word p) (gF (ld m (c.word p)) 1))=ring c p m++[zd c p m (cq (ld m (c.word p)))]:=by
 have hu:=(hm.get (hm.en hp)).2;have hq:=c.qb;have h0:=pN (ld m (c.word p));unfold ring;rw[oF (hm.en hp),J6 hu,E0 hu (by omega) (by omega),um hp hm,show(cu (ld m (c.word p))+1).toNat=(cu (ld m (c.word p))).toNat+1 by omega,lD]
 congr 2
 refine yv ?_;have e:=OS (ld m (c.word p));rw[show((cu (ld m (c.word p))).toNat:Int)=cu (ld m (c.word p)) by omega];exact OT c (by omega)
theorem J7{k:Nat}(hs:(k:Int)<=cu (ld m (c.word p))):ring c p m=ring c p (m.put (c.word p) (gF (ld m (c.word p)) (-(k:Int))))++(List.range k).map (λi:Nat=>zd c p m (cq (ld m (c.word p))-(k:Int)+(i:Int))):=by
 have hu:=(hm.get (hm.en hp)).2;have hb:cu (ld m (c.word p))<4294967296:=by unfold cu;omega
 unfold ring;rw[oF (hm.en hp),J6 hu,E0 hu (by omega) (by omega),um hp hm];obtain⟨n,hn⟩:=Int.eq_ofNat_of_zero_le (show 0<=cu (ld m (c.word p))-(k:Int) by omega);rw[show(cu (ld m (c.word p))).toNat=n+k by omega,show(cu (ld m (c.word p)) + -(k:Int)).toNat=n by omega,wA]
 congr 1
 refine List.map_congr_left (λi _=>yv ?_);have e:=OS (ld m (c.word p));exact OT c (by omega)
def vB(c:aT)(p:Nat)(m:aG)(n:Nat):aG:=m.tick.put (c.word p) (eB ((dS (ld m (c.word p))+(n:Int))%4294967296) (cq (ld m (c.word p))))
omit hp hm in
theorem UK(c:aT)(p:Nat)(m:aG)(n:Nat):c7 (eB ((dS (ld m (c.word p))+(n:Int))%4294967296) (cq (ld m (c.word p)))):=by
 have:=fq (ld m (c.word p));unfold c7 eB;omega
theorem Sm(n:Nat):bC c (vB c p m n):=hm.tick.put _ (UK c p m n)
theorem yw(n:Nat):ld (vB c p m n) (c.word p)=eB ((dS (ld m (c.word p))+(n:Int))%4294967296) (cq (ld m (c.word p))):=oF (hm.tick.en hp)
theorem Sn(n:Nat):cq (ld (vB c p m n) (c.word p))=cq (ld m (c.word p)):=by
 rw[yw hp hm,EZ (fq _)]
theorem J8{n:Nat}(hn:(n:Int)<=cu (ld m (c.word p))):cu (ld (vB c p m n) (c.word p))=cu (ld m (c.word p))-(n:Int):=by
 rw[yw hp hm];have hb:=fq (ld m (c.word p));have e:cu (eB ((dS (ld m (c.word p))+(n:Int))%4294967296) (cq (ld m (c.word p))))=(cq (ld m (c.word p))-(dS (ld m (c.word p))+(n:Int))%4294967296)%4294967296:=by
  unfold cu;rw[EZ hb,EY hb]
 rw[e];have e2:cu (ld m (c.word p))=(cq (ld m (c.word p))-dS (ld m (c.word p)))%4294967296:=rfl;omega
omit hp hm in
theorem E1{a:Nat}(ha:c.word p≠a)(n:Nat):ld (vB c p m n) a=ld m a:=eI ha
theorem J9(n:Nat)(i:Int):zd c p (vB c p m n) i=zd c p m i:=BE hp hm.tick _ i
theorem Nw{n:Nat}(hn:(n:Int)<=cu (ld m (c.word p))):ring c p m=(ring c p m).take n++ring c p (vB c p m n):=by
 have hb:=fq (ld m (c.word p));have e:ring c p (vB c p m n)=(ring c p m).drop n:=by
  obtain⟨k,hk⟩:=Int.eq_ofNat_of_zero_le (show 0<=cu (ld m (c.word p))-(n:Int) by omega);unfold ring;rw[J8 hp hm hn,yw hp hm,EY hb,show(cu (ld m (c.word p))-(n:Int)).toNat=k by omega,show(cu (ld m (c.word p))).toNat=n+k by omega,wA,List.drop_left' (na ..)];have e2:∀ h:Int,d5 c p (vB c p m n) h k=d5 c p m h k:=λh=>List.map_congr_left (λi _=>J9 hp hm n _)
  rw[e2];exact GD (wy c _)
 rw[e,List.take_append_drop]
end
abbrev wd(c:aT)(p:Nat)(m:aG):Int:=ld m (c.word p)
def OU(c:aT)(p:Nat)(m:aG)(w:Int)(n:Nat):List Int:=(List.range n).map (λi:Nat=>zd c p m (cq w-((c.q / 2:Nat):Int)+(i:Int)))
def J_(c:aT)(p:Nat)(x:cU)(m:aG):Prop :=
 x.st=1\/(cq x.w=cq (wd c p m)/\cu (wd c p m)<=cu x.w/\
  ((x.st=2/\cu x.w<(c.q:Int))\/(x.st=3/\cu x.w<(c.q:Int)/\ld m (c.slot p (cq x.w))=x.gg)\/
   ((x.st=4\/(x.st=5/\x.ts.length=c.q / 2))/\(c.q:Int)<=cu x.w/\x.ts=OU c p m x.w x.ts.length)))
def GE(c:aT)(x:cU):Nat:=match x.st with | 1=>c.q / 2+2 | 2=>2 | 3=>1 | 4=>c.q / 2-x.ts.length+1 | 5=>1 | _=>0
def J'(c:aT)(p:Nat)(x:cU)(m:aG)(b:Nat):Prop:=GE c x<=b/\(2<=x.st->wd c p m≠x.w->GE c x+(c.q / 2+2)<=b)
theorem E2{g:Int}(h:0<=g/\g<4294967296):IntKind.i64.wrap g=g:=ap (by omega) (by omega)
theorem Ka(c:aT)(p:Nat)(m:aG)(w:Int)(n:Nat):OU c p m w (n+1)=OU c p m w n++[zd c p m (cq w-((c.q / 2:Nat):Int)+(n:Int))]:=by
 unfold OU;rw[List.range_succ,List.map_append];rfl
theorem Qu(c:aT)(p:Nat)(m:aG)(w:Int)(n:Nat):IntKind.i64.wrap (ld m (c.slot p (za c w n)))=zd c p m (cq w-((c.q / 2:Nat):Int)+(n:Int)):=by
 unfold za zd;rw[pM]
section
variable{c:aT}{p:Nat}(hp:p<c.n){m:aG}(hm:bC c m)
include hp hm
theorem wC(v:Int):ld (m.put (c.word p) v) (c.word p+1)=ld m (c.word p+1):=eI (by omega)
theorem GF(t v:Int):ld (m.put (c.slot p t) v) (c.word p+1)=ld m (c.word p+1):=by
 rw[fk];have:=m_ c p t;exact eI (by omega)
theorem GG(t v:Int):ld (m.put (c.slot p t) v) (c.word p)=ld m (c.word p):=by
 rw[fk];have:=m_ c p t;exact eI (by omega)
theorem GH{x:cU}{b:Nat}(h0:x.st≠0)(hx:eC c x)(hi:J_ c p x m)(hsz:cu (wd c p m)<=(c.q:Int))(hg:0<=x.gg/\x.gg<4294967296)(hh:x.hs=[x.gg])(hb:J' c p x m b) :
  ld (af c p x m).2 (c.word p+1)=ld m (c.word p+1)/\cu (wd c p (af c p x m).2)<=(c.q:Int)/\
  (((af c p x m).1.st≠0/\(af c p x m).1.gg=x.gg/\(af c p x m).1.hs=[x.gg]/\J_ c p (af c p x m).1 (af c p x m).2/\ring c p (af c p x m).2=ring c p m/\J' c p (af c p x m).1 (af c p x m).2 (b-1)/\0<b)\/
   ((af c p x m).1.st=0/\((af c p x m).1.hs=[]\/∃ l,(af c p x m).1.hs=l++[x.gg])/\ring c p m++[x.gg]=ring c p (af c p x m).2++(af c p x m).1.hs)):=by
 have hq:=c.qb;have hu:=(hm.get (hm.en hp)).2;obtain⟨st,gg,w,ts,hs⟩:=x;obtain⟨hb1,hb2⟩:=hb;replace hg:0<=gg/\gg<4294967296:=hg;replace hh:hs=[gg]:=hh;replace h0:st≠0:=h0;have hst:st<=5:=hx.st;have htl:ts.length<=c.q / 2:=hx.ts;have XC:st=4->ts.length<c.q / 2:=hx.t4;subst hh
 match st,hst with
 | 0,_=>exact absurd rfl h0
 | 1,_ =>
  have e1:c.q / 2+2<=b:=hb1;refine⟨rfl,hsz,.inl ⟨?_,rfl,rfl,?_,rfl,?_,by omega⟩⟩
  ·show(if (c.q:Int)<=cu (wd c p m) then 4 else 2)≠0
   split<;>decide
  ·refine .inr ⟨rfl,Int.le_refl _,?_⟩
   by_cases hf:(c.q:Int)<=cu (wd c p m)
   ·refine .inr (.inr ⟨.inl ?_,hf,rfl⟩)
    show(if (c.q:Int)<=cu (wd c p m) then 4 else 2)=4;rw[if_pos hf]
   ·refine .inl ⟨?_,by show cu (wd c p m)<_;omega⟩
    show(if (c.q:Int)<=cu (wd c p m) then 4 else 2)=2;rw[if_neg hf]
  ·refine⟨?_,λ_ hne=>absurd rfl hne⟩
   show GE c ⟨if (c.q:Int)<=cu (wd c p m) then 4 else 2,gg,wd c p m,[],[gg]⟩<=b-1
   split
   ·show c.q / 2-0+1<=b-1
    omega
   ·show 2<=b-1
    omega
 | 2,_ =>
  have e1:2<=b:=hb1;rcases hi with hi | ⟨i1,i2,⟨_,i3⟩ | ⟨i3,_⟩ | ⟨i3 | ⟨i3,_⟩,_⟩⟩
  ·exact absurd (show(2:Nat)=1 from hi) (by decide)
  ·replace i1:cq w=cq (wd c p m):=i1
   replace i2:cu (wd c p m)<=cu w:=i2;replace i3:cu w<(c.q:Int):=i3;have ew:=GG hp hm (cq w) gg;refine⟨GF hp hm _ _,?_,.inl ⟨show(3:Nat)≠0 by decide,rfl,rfl,.inr ⟨?_,?_,.inr (.inl ⟨rfl,i3,?_⟩)⟩,?_,⟨show 1<=b-1 by omega,λ_ hne=>?_⟩,by omega⟩⟩
   ·show cu (ld (m.put (c.slot p (cq w)) gg) (c.word p))<=_
    rw[ew];exact hsz
   ·show cq w=cq (ld (m.put (c.slot p (cq w)) gg) (c.word p))
    rw[ew];exact i1
   ·show cu (ld (m.put (c.slot p (cq w)) gg) (c.word p))<=cu w
    rw[ew];exact i2
   ·exact oF (hm.lB hp _)
   ·show ring c p (m.put (c.slot p (cq w)) gg)=ring c p m
    exact J5 i1.symm (by show cu (wd c p m)<_;omega) gg
   ·replace hne:ld (m.put (c.slot p (cq w)) gg) (c.word p)≠w:=hne
    rw[ew]at hne;have:=hb2 (show 2<=2 by decide) hne;replace this:2+(c.q / 2+2)<=b:=this;show 1+(c.q / 2+2)<=b-1;omega
  ·exact absurd (show(2:Nat)=3 from i3) (by decide)
  ·exact absurd (show(2:Nat)=4 from i3) (by decide)
  ·exact absurd (show(2:Nat)=5 from i3) (by decide)
 | 3,_ =>
  have e1:1<=b:=hb1;rcases hi with hi | ⟨i1,i2,⟨i3,_⟩ | ⟨_,i3,i4⟩ | ⟨i3 | ⟨i3,_⟩,_⟩⟩
  ·exact absurd (show(3:Nat)=1 from hi) (by decide)
  ·exact absurd (show(3:Nat)=2 from i3) (by decide)
  ·replace i1:cq w=cq (wd c p m):=i1
   replace i2:cu (wd c p m)<=cu w:=i2;replace i3:cu w<(c.q:Int):=i3;replace i4:ld m (c.slot p (cq w))=gg:=i4
   by_cases hw:ld m (c.word p)=w
   ·have es:af c p ⟨3,gg,w,ts,[gg]⟩ m=(⟨0,gg,w,ts,[]⟩,m.put (c.word p) (gF w 1)):=if_pos hw
    rw[es];subst hw;have e0:=pN (ld m (c.word p));refine⟨wC hp hm _,?_,.inr ⟨rfl,.inl rfl,?_⟩⟩
    ·show cu (ld (m.put (c.word p) _) (c.word p))<=_
     rw[oF (hm.en hp),E0 hu (by omega) (by omega)];omega
    ·show _=ring c p (m.put (c.word p) (gF (ld m (c.word p)) 1))++[]
     rw[List.append_nil,Dk hp hm i3]
     congr 2
     unfold zd;rw[← fk,i4,E2 hg]
   ·have es:af c p ⟨3,gg,w,ts,[gg]⟩ m=(⟨1,gg,w,ts,[gg]⟩,m.tick):=if_neg hw
    rw[es];have:=hb2 (show 2<=3 by decide) hw;replace this:1+(c.q / 2+2)<=b:=this;exact⟨rfl,hsz,.inl ⟨show(1:Nat)≠0 by decide,rfl,rfl,.inl rfl,rfl,⟨show c.q / 2+2<=b-1 by omega,λh2=>absurd h2 (show ¬ 2<=1 by decide)⟩,by omega⟩⟩
  ·exact absurd (show(3:Nat)=4 from i3) (by decide)
  ·exact absurd (show(3:Nat)=5 from i3) (by decide)
 | 4,_ =>
  have e1:c.q / 2-ts.length+1<=b:=hb1;have h4:=XC rfl;rcases hi with hi | ⟨i1,i2,⟨i3,_⟩ | ⟨i3,_⟩ | ⟨i3,i4,i5⟩⟩
  ·exact absurd (show(4:Nat)=1 from hi) (by decide)
  ·exact absurd (show(4:Nat)=2 from i3) (by decide)
  ·exact absurd (show(4:Nat)=3 from i3) (by decide)
  ·replace i5:ts=OU c p m w ts.length:=i5
   have h2:c.q / 2-ts.length+1+(c.q / 2+2)<=b\/wd c p m=w:=by
    by_cases hw:wd c p m=w
    ·exact .inr hw
    ·exact .inl (hb2 (show 2<=4 by decide) hw)
   refine⟨rfl,hsz,.inl ⟨?_,rfl,rfl,.inr ⟨i1,i2,.inr (.inr ⟨?_,i4,?_⟩)⟩,rfl,?_,by omega⟩⟩
   ·show(if ts.length+1=c.q / 2 then 5 else 4)≠0
    split<;>decide
   ·show(if ts.length+1=c.q / 2 then 5 else 4)=4\/((if ts.length+1=c.q / 2 then 5 else 4)=5/\(ts++[_]).length=c.q / 2)
    split
    ·exact .inr ⟨rfl,by simpa using ‹_›⟩
    ·exact .inl rfl
   ·show ts++[IntKind.i64.wrap (ld m (c.slot p (za c w ts.length)))]=OU c p m w (ts++[_]).length
    rw[List.length_append,List.length_singleton,Ka,← i5,Qu]
   ·refine⟨?_,λ_ hne=>?_⟩
    ·show GE c ⟨if ts.length+1=c.q / 2 then 5 else 4,gg,w,ts++[_],[gg]⟩<=b-1
     split
     ·show 1<=b-1
      omega
     ·show c.q / 2-(ts++[_]).length+1<=b-1
      rw[List.length_append,List.length_singleton];omega
    ·have h3:=h2.resolve_right (λh=>hne h)
     show GE c ⟨if ts.length+1=c.q / 2 then 5 else 4,gg,w,ts++[_],[gg]⟩+(c.q / 2+2)<=b-1
     split
     ·show 1+(c.q / 2+2)<=b-1
      omega
     ·show c.q / 2-(ts++[_]).length+1+(c.q / 2+2)<=b-1
      rw[List.length_append,List.length_singleton];omega
 | 5,_ =>
  have e1:1<=b:=hb1;rcases hi with hi | ⟨i1,i2,⟨i3,_⟩ | ⟨i3,_⟩ | ⟨i3 | ⟨_,i3⟩,i4,i5⟩⟩
  ·exact absurd (show(5:Nat)=1 from hi) (by decide)
  ·exact absurd (show(5:Nat)=2 from i3) (by decide)
  ·exact absurd (show(5:Nat)=3 from i3) (by decide)
  ·exact absurd (show(5:Nat)=4 from i3) (by decide)
  ·replace i3:ts.length=c.q / 2:=i3
   replace i4:(c.q:Int)<=cu w:=i4;replace i5:ts=OU c p m w ts.length:=i5
   by_cases hw:ld m (c.word p)=w
   ·have es:af c p ⟨5,gg,w,ts,[gg]⟩ m=(⟨0,gg,w,ts,ts++[gg]⟩,m.put (c.word p) (gF w (-((c.q / 2:Nat):Int)))):=if_pos hw
    rw[es];subst hw;have hk:((c.q / 2:Nat):Int)<=cu (ld m (c.word p)):=by omega
    have hb0:cu (ld m (c.word p))<4294967296:=by unfold cu;omega
    refine⟨wC hp hm _,?_,.inr ⟨rfl,.inr ⟨ts,rfl⟩,?_⟩⟩
    ·show cu (ld (m.put (c.word p) _) (c.word p))<=_
     rw[oF (hm.en hp),E0 hu (by omega) (by omega)];replace hsz:cu (ld m (c.word p))<=(c.q:Int):=hsz;omega
    ·show _=ring c p (m.put (c.word p) (gF (ld m (c.word p)) (-((c.q / 2:Nat):Int))))++(ts++[gg])
     have hr:=J7 hp hm hk;rw[i3]at i5;rw[← List.append_assoc];refine congrArg (· ++ [gg]) ?_;rw[i5];exact hr
   ·have es:af c p ⟨5,gg,w,ts,[gg]⟩ m=(⟨1,gg,w,ts,[gg]⟩,m.tick):=if_neg hw
    rw[es];have:=hb2 (show 2<=5 by decide) hw;replace this:1+(c.q / 2+2)<=b:=this;exact⟨rfl,hsz,.inl ⟨show(1:Nat)≠0 by decide,rfl,rfl,.inl rfl,rfl,⟨show c.q / 2+2<=b-1 by omega,λh2=>absurd h2 (show ¬ 2<=1 by decide)⟩,by omega⟩⟩
theorem GI{x:cU}{b n:Nat}(hi:J_ c p x m)(hn:(n:Int)<=cu (wd c p m))(hb:J' c p x m b):J_ c p x (vB c p m n)/\J' c p x (vB c p m n) (b+(c.q / 2+2)):=by
 have hlo:=m_ c p;refine⟨?_,⟨Nat.le_trans hb.1 (Nat.le_add_right _ _),λ_ _=>Nat.add_le_add_right hb.1 _⟩⟩;rcases hi with hi | ⟨i1,i2,i3⟩
 ·exact .inl hi
 ·refine .inr ⟨?_,?_,?_⟩
  ·show _=cq (ld (vB c p m n) (c.word p))
   rw[Sn hp hm];exact i1
  ·show cu (ld (vB c p m n) (c.word p))<=_
   rw[J8 hp hm hn];exact Int.le_trans (Int.sub_le_self _ (Int.natCast_nonneg n)) i2
  ·rcases i3 with i3 | ⟨j1,j2,j3⟩ | ⟨j1,j2,j3⟩
   ·exact .inl i3
   ·refine .inr (.inl ⟨j1,j2,?_⟩)
    rw[fk]at j3 ⊢;have:=hlo (cq x.w);rw[E1 (by omega)];exact j3
   ·refine .inr (.inr ⟨j1,j2,?_⟩)
    rw[j3];unfold OU;simp only[List.length_map,List.length_range];exact List.map_congr_left (λi _=>(J9 hp hm n _).symm)
end
def dU(nx:Int):List Int:=if nx=0 then [] else [nx-1]
def GJ(c:aT)(p:Nat)(nx:Int)(k:aI)(m:aG)(pend:List Int):Prop :=
 (k.st=1/\k.put=none/\ld m (c.word p+1)=nx/\pend=dU nx)\/
 (k.st=2/\k.put=none/\k.was=nx/\pend=dU nx)\/
 (k.st=0/\k.put=none/\nx=0/\ld m (c.word p+1)=k.nx/\pend=[])\/
 (nx≠0/\ld m (c.word p+1)=k.nx/\∃ x,k.put=some x/\
  ((k.st=3/\x.st≠0/\x.gg=nx-1/\x.hs=[x.gg]/\J_ c p x m/\pend=[nx-1])\/
   (k.st=0/\x.st=0/\(x.hs=[]\/∃ l,x.hs=l++[nx-1])/\pend=x.hs)))
def Kb(c:aT)(p:Nat)(k:aI)(m:aG)(b:Nat):Prop :=
 (k.st=1->c.q / 2+4<=b)/\(k.st=2->c.q / 2+3<=b)/\∀ x,k.put=some x->J' c p x m b
theorem Kc{c:aT}{x:cU}(h0:x.st≠0)(h:x.st<=5):0<GE c x:=by
 obtain⟨st,gg,w,ts,hs⟩:=x
 match st,h with
 | 0,_=>exact absurd rfl h0
 | 1,_=>exact Nat.succ_pos _
 | 2,_=>exact Nat.succ_pos _
 | 3,_=>exact Nat.succ_pos _
 | 4,_=>exact Nat.succ_pos _
 | 5,_=>exact Nat.succ_pos _
section
variable{c:aT}{p:Nat}(hp:p<c.n){m:aG}(hm:bC c m)
include hp hm
theorem GK(v:Int):wd c p (m.put (c.word p+1) v)=wd c p m:=eI (by omega)
theorem Dl{k:aI}{nx:Int}{pend:List Int}{b:Nat}(hnx:0<=nx/\nx<4294967296)(hk:eM c k)(hi:GJ c p nx k m pend)(hsz:cu (wd c p m)<=(c.q:Int))(h0:k.st≠0)(hb:Kb c p k m b) :
  ∃ uo,GJ c p nx (ae c p k m).1 (ae c p k m).2 uo/\cu (wd c p (ae c p k m).2)<=(c.q:Int)/\ring c p m++pend=ring c p (ae c p k m).2++uo/\((ae c p k m).1.st≠0->Kb c p (ae c p k m).1 (ae c p k m).2 (b-1))/\0<b:=by
 have hq:=c.qb;obtain⟨aJ,gg,st,was,put⟩:=k;obtain⟨hb1,hb2,hb3⟩:=hb;rcases hi with ⟨i1,i2,i3,i4⟩ | ⟨i1,i2,i3,i4⟩ | ⟨i1,_⟩ | ⟨i1,i2,x,i3,⟨i4,i5,i6,i7,i8,i9⟩ | ⟨i4,_⟩⟩
 ·replace i1:st=1:=i1
  replace i2:put=none:=i2;subst i1 i2;have:=hb1 rfl
  by_cases hd:aJ=true/\ld m (c.word p+1)=0
  ·have es:ae c p ⟨aJ,gg,1,was,none⟩ m=(⟨aJ,gg,0,ld m (c.word p+1),none⟩,m.tick):=by
    show((⟨aJ,gg,if aJ=true/\ld m (c.word p+1)=0 then 0 else 2,ld m (c.word p+1),none⟩:aI),m.tick)=_;rw[if_pos hd]
   rw[es];have hz:nx=0:=by rw[← i3];exact hd.2
   refine⟨[],.inr (.inr (.inl ⟨rfl,rfl,hz,?_,rfl⟩)),hsz,?_,λh=>absurd rfl h,by omega⟩
   ·show ld m (c.word p+1)=if aJ=true then 0 else gg+1
    rw[if_pos hd.1];exact hd.2
   ·rw[i4]
    unfold dU;rw[if_pos hz];rfl
  ·have es:ae c p ⟨aJ,gg,1,was,none⟩ m=(⟨aJ,gg,2,ld m (c.word p+1),none⟩,m.tick):=by
    show((⟨aJ,gg,if aJ=true/\ld m (c.word p+1)=0 then 0 else 2,ld m (c.word p+1),none⟩:aI),m.tick)=_;rw[if_neg hd]
   rw[es];exact⟨pend,.inr (.inl ⟨rfl,rfl,i3,i4⟩),hsz,rfl,λ_=>⟨λh=>absurd (show(2:Nat)=1 from h) (by decide),λ_=>by omega,λx hx=>by cases hx⟩,by omega⟩
 ·replace i1:st=2:=i1
  replace i2:put=none:=i2;replace i3:was=nx:=i3;subst i1 i2 i3;have:=hb2 rfl;have hnx2:ld (m.put (c.word p+1) (aI.nx ⟨aJ,gg,2,was,none⟩)) (c.word p+1)=aI.nx ⟨aJ,gg,2,was,none⟩:=oF (hm.lt_next hp);have hw:=GK hp hm (aI.nx ⟨aJ,gg,2,was,none⟩)
  by_cases hz:was=0
  ·have es:ae c p ⟨aJ,gg,2,was,none⟩ m=(⟨aJ,gg,0,was,none⟩,m.put (c.word p+1) (aI.nx ⟨aJ,gg,2,was,none⟩)):=if_pos hz
   rw[es];refine⟨[],.inr (.inr (.inl ⟨rfl,rfl,hz,hnx2,rfl⟩)),?_,?_,λh=>absurd rfl h,by omega⟩
   ·show cu (wd c p (m.put _ _))<=_
    rw[hw];exact hsz
   ·rw[i4,wB]
    unfold dU;rw[if_pos hz]
  ·have hg:IntKind.i64.wrap (was-1)=was-1:=E2 (by omega)
   have es:ae c p ⟨aJ,gg,2,was,none⟩ m=(⟨aJ,gg,3,was,some ⟨1,was-1,0,[],[was-1]⟩⟩,m.put (c.word p+1) (aI.nx ⟨aJ,gg,2,was,none⟩)):=by
    have e1:ae c p ⟨aJ,gg,2,was,none⟩ m=_:=(if_neg hz).trans (if_pos (by rw[hg];omega));rw[e1,hg]
   rw[es];refine⟨[was-1],.inr (.inr (.inr ⟨hz,hnx2,_,rfl,.inl ⟨rfl,by show(1:Nat)≠0;decide,rfl,rfl,.inl rfl,rfl⟩⟩)),?_,?_,λ_=>⟨λh=>absurd (show(3:Nat)=1 from h) (by decide),λh=>absurd (show(3:Nat)=2 from h) (by decide),λx hx=>?_⟩,by omega⟩
   ·show cu (wd c p (m.put _ _))<=_
    rw[hw];exact hsz
   ·rw[i4,wB]
    unfold dU;rw[if_neg hz]
   ·cases hx
    exact⟨show c.q / 2+2<=b-1 by omega,λh=>absurd (show 2<=1 from h) (by decide)⟩
 ·exact absurd i1 h0
 ·replace i4:st=3:=i4
  replace i3:put=some x:=i3;subst i4 i3;have hx:=hk.put x rfl;obtain⟨k1,k2,k3⟩:=GH hp hm i5 hx i8 hsz (by omega) i7 (hb3 x rfl);have es:ae c p ⟨aJ,gg,3,was,some x⟩ m=(⟨aJ,gg,if (af c p x m).1.st=0 then 0 else 3,was,some (af c p x m).1⟩,(af c p x m).2):=rfl;rw[es];have hn2:ld (af c p x m).2 (c.word p+1)=aI.nx ⟨aJ,gg,3,was,some x⟩:=k1.trans i2;rcases k3 with ⟨j1,j2,j3,j4,j5,j6,j7⟩ | ⟨j1,j2,j3⟩
  ·rw[if_neg j1]
   refine⟨[nx-1],.inr (.inr (.inr ⟨i1,hn2,_,rfl,.inl ⟨rfl,j1,j2.trans i6,by rw[j3,j2],j4,rfl⟩⟩)),k2,?_,λ_=>⟨λh=>absurd (show(3:Nat)=1 from h) (by decide),λh=>absurd (show(3:Nat)=2 from h) (by decide),λy hy=>?_⟩,j7⟩
   ·rw[i9,j5]
   ·cases hy
    exact j6
  ·rw[if_pos j1]
   refine⟨_,.inr (.inr (.inr ⟨i1,hn2,_,rfl,.inr ⟨rfl,j1,?_,rfl⟩⟩)),k2,?_,λh=>absurd rfl h,?_⟩
   ·rw[i6]at j2
    exact j2
   ·rw[i9,← j3,i6]
   ·exact Nat.lt_of_lt_of_le (Kc i5 hx.st) (hb3 x rfl).1
 ·exact absurd i4 h0
theorem Dm{k:aI}{nx:Int}{pend:List Int}{b n:Nat}(hi:GJ c p nx k m pend)(hn:(n:Int)<=cu (wd c p m))(hb:Kb c p k m b)(h0:k.st≠0):GJ c p nx k (vB c p m n) pend/\Kb c p k (vB c p m n) (b+(c.q / 2+2)):=by
 have hnx:ld (vB c p m n) (c.word p+1)=ld m (c.word p+1):=E1 (by omega) n;obtain⟨hb1,hb2,hb3⟩:=hb;rcases hi with ⟨i1,i2,i3,i4⟩ | ⟨i1,i2,i3,i4⟩ | ⟨i1,_⟩ | ⟨i1,i2,x,i3,⟨i4,i5,i6,i7,i8,i9⟩ | ⟨i4,_⟩⟩
 ·exact⟨.inl ⟨i1,i2,hnx.trans i3,i4⟩,λh=>Nat.le_trans (hb1 h) (Nat.le_add_right _ _),λh=>Nat.le_trans (hb2 h) (Nat.le_add_right _ _),λx hx=>by rw[i2]at hx;cases hx⟩
 ·exact⟨.inr (.inl ⟨i1,i2,i3,i4⟩),λh=>Nat.le_trans (hb1 h) (Nat.le_add_right _ _),λh=>Nat.le_trans (hb2 h) (Nat.le_add_right _ _),λx hx=>by rw[i2]at hx;cases hx⟩
 ·exact absurd i1 h0
 ·have h2:=GI hp hm i8 hn (hb3 x i3)
  exact⟨.inr (.inr (.inr ⟨i1,hnx.trans i2,x,i3,.inl ⟨i4,i5,i6,i7,h2.1,i9⟩⟩)),λh=>Nat.le_trans (hb1 h) (Nat.le_add_right _ _),λh=>Nat.le_trans (hb2 h) (Nat.le_add_right _ _),λy hy=>by
   rw[i3]at hy;cases hy
   exact h2.2⟩
 ·exact absurd i4 h0
end
theorem Kd{c:aT}{p:Nat}{k:aI}{m:aG}{nx:Int}{pend:List Int}(hi:GJ c p nx k m pend)(h0:k.st=0):ld m (c.word p+1)=k.nx/\pend=k.over/\(k.put.isSome = !decide (nx=0))/\(k.over=[]\/∃ l,k.over=l++[nx-1]):=by
 obtain⟨aJ,gg,st,was,put⟩:=k;rcases hi with ⟨i1,_⟩ | ⟨i1,_⟩ | ⟨i1,i2,i3,i4,i5⟩ | ⟨i1,i2,x,i3,⟨i4,_⟩ | ⟨i4,i5,i6,i7⟩⟩
 ·rw[h0]at i1
  cases i1
 ·rw[h0]at i1
  cases i1
 ·replace i2:put=none:=i2
  subst i2;exact⟨i4,i5,by simp[i3],.inl rfl⟩
 ·rw[h0]at i4
  cases i4
 ·replace i3:put=some x:=i3
  subst i3;have eo:aI.over ⟨aJ,gg,st,was,some x⟩=x.hs:=if_pos i5;rw[eo];exact⟨i2,i7,by simp[i1],i6⟩
end Go.Proofs.YtbcnbofkgkheeaaGreat
namespace Go.Ev
open Go.RowKit
section
variable{k:Kn}{P:Program}{g g':Nat}{l:List aC}{ci:Nat}{t u e:TypeId}{sL sS sB sV n sz m hi:Nat}{v vs:Value}{xs cs:List Value}{i:TypeInfo}{z:Value}
theorem So{kd:IntKind}(hg:k.gs[g]? = some (star l))(hc:l[ci]? = some (aD e sz v n xs))(ht:P.underlying t=some (.slice e))(jl:P.info? e=some i)(hsz:i.size=sz)(hL:k.val sL=v)(hB:k.val sB=.int kd (hi:Int))(h2:hi<=n)(hV:k.val sV=cutV sz v 0 hi):aR k P ⟨[4,t,0,1,0],[sy sL,sy sB],none,g,none,sy sV,none⟩:=by
 refine aR.MS k ?_;letI:aP:=k.sig;intro ι F w d x' y' q hx hy;obtain⟨Fs,ff,hS,hf,h1⟩:=dC hg hc q;rw[fN hx,fN hy,hL,hB];exact⟨_,w,Ne (kd:=kd) (.inl ⟨rfl,rfl⟩) rfl (fh.ro h1) ht jl hsz (Nat.zero_le _) h2 w,mA hV,Below.refl _ _⟩
theorem fh.Qv{F:Nat->Prop}{w:World}(h:fh e sz v n xs F w)(h2:hi<=n):fh e sz (cutV sz v 0 hi) hi (xs.take (hi*sz)) F w:=by
 obtain⟨h1,h3⟩:=h;have hle:=Nat.mul_le_mul_right sz h2;refine⟨by rw[List.length_take,h1];omega,?_⟩;rcases h3 with ⟨he,rfl,hF⟩ | ⟨b,off,c,arr,rfl,hF,hb0,hx,hs,hnc⟩
 ·obtain rfl:hi=0:=by omega
  refine .inl ⟨?_,rfl,hF⟩;rcases he with rfl | ⟨b,off,rfl⟩
  ·exact .inl rfl
  ·exact .inr ⟨b,off,rfl⟩
 ·refine .inr ⟨b,off,c,arr,?_,hF,hb0,λk hk=>?_,hs,by omega⟩
  ·unfold cutV
   simp only[iF,Nat.zero_mul,Nat.add_zero,Nat.sub_zero,ite_self]
  ·rw[hx k (by omega),List.getElem?_take,if_pos hk]
theorem ah.Qv{c:fQ}{l:List aC}{w:World}(h:ah c (aD e sz v n xs::l) w)(h2:hi<=n):ah c (aD e sz (cutV sz v 0 hi) hi (xs.take (hi*sz))::l) w:=h.head (λF h=>fh.Qv h h2)
theorem nh{d1 e':Nat}{y:Value}(hg:k.gs[g]? = some (star l))(hi:l[ci]? = some (aD e sz v n xs))(hg':k.gs[g']? = some (star (l.set ci (bP d1 (λv'=>aD e sz v' (n+m) (xs++cs))))))(hL:k.val sL=v)(rd:letI:aP:=k.sig;∀ ι F w d y',Ask k g (some d1) (some g') ι F w d->ao ι y y'->lT sz y' m cs w)(ht:P.underlying t=some (.slice e))(hu:P.underlying u=some (.slice e'))(jl:P.info? e=some i)(hsz:i.size=sz)(hz:i.zero=some z)(hzs:z.cells.size=i.size)
  (hb:(n+m)*i.bytes<=140737488355328) (hnm:n+m<=1000000000) (h1:∀ x ∈ cs,x.oneCell'=true):aR k P ⟨[11,t,u],[sy sL,y],none,g,some d1,.complex .f32 d1 0,some g'⟩:=by
 subst hsz;refine aR.Ey ?_;letI:aP:=k.sig;intro ι F w d x' y' ty q P7 Mv;have hsr:=rd ι F w d y' q Mv;obtain⟨Fs,ff,hS',hf,h1'⟩:=dC hg hi q;obtain rfl:=q.name d1 rfl;rw[fN P7,hL];obtain⟨v2,w2,F2,r1,r2,r3,r4⟩:=fh.append (ty:=ty) h1' ht jl hz hzs (hsr.src hu h1) hb hnm;obtain⟨cc,hcc⟩:=r2.code;have hup:(ι.upd d1 cc) d1=some cc:=by simp[ag.upd]
 exact⟨v2,w2,r1,rX hg' hS' q.lt hf (gE q) cc ⟨cc,hup,by rw[hcc];exact r2⟩ r3 r4 (.dyn d1 cc v2 hup hcc)⟩
theorem V4{d0 ng:Option Nat}(hg:k.gs[g]? = some (star l))(hi:l[ci]? = some (aD e sz v m xs))(hS:k.val sS=v):letI:aP:=k.sig;∀ ι F w d y',Ask k g d0 ng ι F w d->ao ι (sy sS) y'->lT sz y' m xs w:=by
 letI:aP:=k.sig;intro ι F w d y' q h;rw[fN h,hS];exact tT hg hi ι F w d q
theorem Tv{d2:Nat}{d0 ng:Option Nat}(hg:k.gs[g]? = some (star l))(hi:l[ci]? = some (bP d2 (λv=>aD e sz v m xs))):letI:aP:=k.sig;∀ ι F w d y',Ask k g d0 ng ι F w d->ao ι (.complex .f32 d2 0) y'->lT sz y' m xs w:=by
 letI:aP:=k.sig;intro ι F w d y' q h;obtain⟨Fs,ff,hS,hf,c,h0,h1⟩:=dC hg hi q;obtain⟨c',e0,e1⟩:=tU h;rw[h0]at e0;cases e0;rw[← e1];exact fh.ro h1
end
end Go.Ev
namespace Go.Proofs.YtbcnbofkgkheeaaGreat
open Go.Ev Go.Proofs.Tryz
open Go.RowKit
open Go.Ev (sy)
set_option maxRecDepth 8000
theorem uq(i:Int)(n:Nat)(h:0<n)(hn:n<=1000000)(w:World):Calls prog 11 #[.int .i64 i,.int .i64 (n:Int)] w λe w'=>e=.returned (.int .i64 (((pick i (n:Int)).toNat:Nat):Int))/\Below w.heap.size w w':=by
 have hb:=ly i n (by omega);have e:(((pick i (n:Int)).toNat:Nat):Int)=pick i n:=by omega
 rw[e];exact t5 i n (by omega) (by omega) w
theorem ay(i:Int)(n:Nat)(h:0<n):(pick i (n:Int)).toNat<n:=by
 have:=ly i n (by omega);omega
def made(c:Cf):aT where
 n:=1+(pick c.n 4).toNat
 q:=2*2 ^ (pick c.q 3).toNat
 g:=((1+(pick c.g 20).toNat:Nat):Int)
 m:=((1+(pick c.n 4).toNat+1+(pick c.m 3).toNat:Nat):Int)
 t:=((2+(pick c.t 6).toNat:Nat):Int)
 s:=(((pick c.s 3).toNat:Nat):Int)
 h:=by
  have h1:=ay c.n 4 (by omega);have h2:=ay c.q 3 (by omega);have h3:=ay c.g 20 (by omega);have h4:=ay c.m 3 (by omega);have h5:=ay c.t 6 (by omega);have h6:=ay c.s 3 (by omega);replace h1:(pick c.n 4).toNat<4:=h1;replace h2:(pick c.q 3).toNat<3:=h2;replace h3:(pick c.g 20).toNat<20:=h3;replace h4:(pick c.m 3).toNat<3:=h4;replace h5:(pick c.t 6).toNat<6:=h5;replace h6:(pick c.s 3).toNat<3:=h6;have hq:(2*2 ^ (pick c.q 3).toNat:Nat)=2\/(2*2 ^ (pick c.q 3).toNat:Nat)=4\/(2*2 ^ (pick c.q 3).toNat:Nat)=8:=by
   generalize (pick c.q 3).toNat=k at *
   match k,h2 with
   | 0,_=>exact .inl rfl
   | 1,_=>exact .inr (.inl rfl)
   | 2,_=>exact .inr (.inr rfl)
  simp only[eK,wi,Bool.and_eq_true,Bool.or_eq_true,decide_eq_true_eq,beq_iff_eq];omega
theorem Ke(c:Cf):(made c).q<=8:=by
 have h2:=ay c.q 3 (by omega);replace h2:(pick c.q 3).toNat<3:=h2;show(2*2 ^ (pick c.q 3).toNat:Nat)<=8;generalize (pick c.q 3).toNat=k at *
 match k,h2 with
 | 0,_=>decide
 | 1,_=>decide
 | 2,_=>decide
theorem Nx{t:TypeId}{ox oy:Operand}{k:Nat}(h:k<3):(do eqGuard .shl t ox oy (.int .i64 2) (.int .i64 (k:Int));binOp .shl t (.int .i64 2) (.int .i64 (k:Int)):Sem Value)=pure (.int .i64 ((2*2 ^ k:Nat):Int)):=by
  rw[eF]
  match k,h with
  | 0,_=>rfl
  | 1,_=>rfl
  | 2,_=>rfl
theorem BF{t:TypeId}{ox oy:Operand}{x:Int}(h:c7 x):(do eqGuard .shr t ox oy (.int .u64 x) (.int .u64 32);binOp .shr t (.int .u64 x) (.int .u64 32):Sem Value)=pure (.int .u64 (dS x)):=by
  rw[eF];show binOp .shr t (.int .u64 x) (.int .u64 32)=_;have hb:=lx h;simp only[binOp];have e2:Op.shift .shr .u64 x .u64 32=pure (.int .u64 (x.fdiv (2 ^ 32))):=rfl;rw[e2,Int.fdiv_eq_ediv_of_nonneg _ (by decide)];rfl
abbrev vC(c:aT)(v:Value):aC:=Me (eD c) (λus=>aD 28 1 v us.length (aF us))
abbrev yx(c:aT)(v:Value):aC:=Me (eD c) (λus=>b_ [nG (am 0 v) ⟨us,((4+c.off c.n:Nat):Int)⟩,aD 28 1 (am 1 v) us.length (aF us)])
section
variable{w:World}{F:Nat->Prop}
theorem BG(c:aT){bv:Value}{bs:List Int}(hs:lT 1 bv bs.length (hJ bs) w)(hb:bs.length<=1000)(hz:∀ i,0<=bs.getD i 0/\bs.getD i 0<256)(h:bI [] F w) :
  Calls prog 20 #[c.v,bv] w λe w'=>∃ v cd,Ev.dec cd=v/\e=.returned v/\ah ⟨w,F⟩ [vC c v] w':=by
 refine(wx c hs hb hz h).mono ?_;rintro e w' ⟨v,cd,us,hg,e1,rfl,hh⟩;exact⟨v,cd,e1,rfl,ah.vu (a:=λus:List Int=>aD 28 1 v us.length (aF us)) us hg hh⟩
theorem wD(c:aT){cv:Value}(h:bI [vC c cv] F w) :
  Calls prog 19 #[cv] w λe w'=>∃ v cd,Ev.dec cd=v/\e=.returned (.tuple #[am 0 v,.agg #[am 1 v,.int .u64 ((4+c.off c.n:Nat):Int)]])/\ah ⟨w,F⟩ [yx c v] w':=by
 obtain⟨us,hg,hh⟩:=ah.vt (a:=λus:List Int=>aD 28 1 cv us.length (aF us)) (ah.start h);obtain⟨F',n1,n2,n3⟩:=hh.ex;have hl:=hg.len;have hle:=c.gL;refine(BD (aN hh) (by omega) n1).mono ?_;rintro e w' ⟨v,cd,e1,rfl,h1⟩;refine⟨v,cd,e1,by rw[hl],ah.vu (a:=λus:List Int=>b_ [nG (am 0 v) ⟨us,((4+c.off c.n:Nat):Int)⟩,aD 28 1 (am 1 v) us.length (aF us)]) us hg (ah.shut (m:=[]) ?_)⟩;rw[hl]at h1;have h2:=h1.into (l:=[]) n2 n3;rw[← hl]at h2 ⊢;exact h2
end
end Go.Proofs.YtbcnbofkgkheeaaGreat
