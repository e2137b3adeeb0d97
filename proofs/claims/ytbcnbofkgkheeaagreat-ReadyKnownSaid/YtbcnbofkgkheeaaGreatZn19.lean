/- Part of a proof: see the last text. -/
import Derived.Test.YtbcnbofkgkheeaaGreatZn18
import Derived.Test.YtbcnbofkgkheeaaGreatZn17
import Derived.Test.YtbcnbofkgkheeaaGreatZn16
set_option linter.unusedSimpArgs false
set_option linter.unusedVariables false
namespace Go.Proofs.YtbcnbofkgkheeaaGreat
open Go.Ev Go.Proofs.Tryz
open Go.RowKit
open Go.Ev (sy iz uz wz iN uN wN pz dv fc fn ak vk vd kn pc cc cr cm cd fr)
set_option maxRecDepth 8000
attribute [local irreducible] dL
abbrev C5(a:Value)(b:Value)(xs:List Int)(ys:List Int):List aC:=[aD 3 1 (a) (xs.length) (aO xs),aD 3 1 (b) (ys.length) (aO ys)]
abbrev lA(a:Value)(b:Value)(xs:List Int)(ys:List Int)(us:List Int):List aC:=[aD 3 1 (a) (xs.length) (aO us),aD 3 1 (b) (ys.length) (aO ys)]
abbrev ya(b:Value)(ys:List Int):aC:=aD 28 1 (b) (ys.length) (aF ys)
abbrev C6(a:Value)(b:Value)(xs:List Int)(ys:List Int):List aC:=[aD 28 1 (a) (xs.length) (aF xs),(ya b ys)]
abbrev mF(a:Value)(b:Value)(xs:List Int)(ys:List Int)(us:List Int):List aC:=[aD 28 1 (a) (xs.length) (aF us),(ya b ys)]
theorem Ut(W0:World)(F0:Nat->Prop)(a b:Value)(la:ai a=true)(lb:ai b=true)(xs ys:List Int)(hx:xs.length<=1000000)(hy:ys.length<=1000000)(h1:¬ ((xs.length:Nat):Int)≠((ys.length:Nat):Int)):bV prog 26 [] 0 4 26 ⟨W0,F0⟩ [(0,(a)),(1,(b))] (C5 a b xs ys) .normal (λκ:ag=>[(0,(a)),(1,(b)),(5,iz 0)]) (λκ:ag=>(C5 a b xs ys)):=by obtain⟨i,i1,i2,i3,i4⟩:=b0;exact(tr (c:=⟨W0,F0⟩) (kn [a,b,iN (xs.length),iN (ys.length)] (fc (by assumption) (fc (by assumption) fr)) [(.neq,sy 2,sy 3,.bool false)] [] [] (fc (λ_ _ _=>eY (by first|(simpa using h1)|(simp;omega))) fn) fn fn W0 F0 [(C5 a b xs ys)] [⟨[10,45],[sy 0],none,0,none,sy 2,none⟩,⟨[10,45],[sy 1],none,0,none,sy 3,none⟩] []) (fc (by exact bT (ci:=1) rfl rfl underlying45 i2 rfl rfl) (fc (by exact bT (ci:=2) rfl rfl underlying45 i2 rfl rfl) fn)) fn rfl [] [] [] 0 rfl rfl [(0,sy 0),(1,sy 1)] [(0,sy 0),(1,sy 1),(5,iz 0)] .normal)
theorem Uu(W0:World)(F0:Nat->Prop)(a b:Value)(la:ai a=true)(lb:ai b=true)(xs ys:List Int)(hx:xs.length<=1000000)(hy:ys.length<=1000000)(us:List Int)(hu:us.length=xs.length)(hxy:xs.length=ys.length)(j:Nat)(hj:j<xs.length)(x y:Int)(hxj:us[j]? = some x)(hyj:ys[j]? = some y)(h1:¬ (x)≠(y)):bV prog 26 [8,0] 0 4 26 ⟨W0,F0⟩ [(0,(a)),(1,(b)),(5,iN j)] (lA a b xs ys us) .normal (λκ:ag=>[(0,(a)),(1,(b)),(5,(iN ((j)+1)))]) (λκ:ag=>(lA a b xs ys us)):=by have z1:=hx;have z2:=hy;have z3:=hu;have z4:=hxy;obtain⟨i,i1,i2,i3,i4⟩:=b0;exact(tr (c:=⟨W0,F0⟩) (kn [a,b,dx (a) ((j)*1),dx (b) ((j)*1),iN (j),iN (xs.length),iz (x),iz (y),iN ((j)+1)] (fc (by assumption) (fc (by assumption) (fc (aX _ _) (fc (aX _ _) fr)))) [(.lss,sy 4,sy 5,.bool true),(.neq,sy 6,sy 7,.bool false),(.add,sy 4,iz 1,sy 8)] [] [] (fc (λ_ _ _=>aQ (by first|(simp;done)|(simp;omega))) (fc (λ_ _ _=>eY (by first|(simpa using h1)|(simp;omega))) (fc (λ_ _ _=>ax (by rw[ap (by omega) (by omega)];omega)) fn))) fn fn W0 F0 [(lA a b xs ys us)] [⟨[10,45],[sy 0],none,0,none,sy 5,none⟩,⟨[3,45],[sy 0,sy 4],none,0,none,sy 2,none⟩,⟨[1,3],[sy 2],none,0,none,sy 6,none⟩,⟨[3,45],[sy 1,sy 4],none,0,none,sy 3,none⟩,⟨[1,3],[sy 3],none,0,none,sy 7,none⟩] []) (fc (by exact bT (ci:=1) rfl rfl underlying45 i2 rfl rfl) (fc (by exact bJ (ci:=1) (j:=(j)) rfl rfl underlying45 i1 i2 rfl rfl (by omega) rfl) (fc (by exact fi (ci:=1) (m:=(j)*1) (x:=(iz x)) rfl rfl pB (by simp[aO,List.getElem?_map,hxj]) (by simp;omega) rfl (λι=>(vk (by kernel_rfl) (by kernel_rfl)))) (fc (by exact bJ (ci:=2) (j:=(j)) rfl rfl underlying45 i1 i2 rfl rfl (by omega) rfl) (fc (by exact fi (ci:=2) (m:=(j)*1) (x:=(iz y)) rfl rfl pB (by simp[aO,List.getElem?_map,hyj]) (by simp;omega) rfl (λι=>(vk (by kernel_rfl) (by kernel_rfl)))) fn))))) fn rfl [] [] [] 0 rfl rfl [(0,sy 0),(1,sy 1),(5,sy 4)] [(0,sy 0),(1,sy 1),(5,sy 8)] .normal)
theorem Uv(W0:World)(F0:Nat->Prop)(a b:Value)(la:ai a=true)(lb:ai b=true)(xs ys:List Int)(hx:xs.length<=1000000)(hy:ys.length<=1000000)(us:List Int)(hu:us.length=xs.length):bV prog 26 [8,0] 0 4 26 ⟨W0,F0⟩ [(0,(a)),(1,(b)),(5,iN xs.length)] (lA a b xs ys us) (.exit 0) (λκ:ag=>[(0,(a)),(1,(b))]) (λκ:ag=>(lA a b xs ys us)):=(tr (c:=⟨W0,F0⟩) (kn [a,b,iN (xs.length)] (fc (by assumption) (fc (by assumption) fr)) [(.lss,sy 2,sy 2,.bool false)] [] [] (fc (λ_ _ _=>aQ (by have z3:=hu;first|(simp;done)|(simp;omega))) fn) fn fn W0 F0 [(lA a b xs ys us)] [⟨[10,45],[sy 0],none,0,none,sy 2,none⟩] []) (fc (by obtain⟨i,i1,i2,i3,i4⟩:=b0;exact bT (ci:=1) rfl rfl underlying45 i2 rfl rfl) fn) fn rfl [] [] [] 0 rfl rfl [(0,sy 0),(1,sy 1),(5,sy 2)] [(0,sy 0),(1,sy 1)] (.exit 0))
theorem Uw(W0:World)(F0:Nat->Prop)(a b:Value)(la:ai a=true)(lb:ai b=true)(xs ys:List Int)(hx:xs.length<=1000000)(hy:ys.length<=1000000)(us:List Int)(hu:us.length=xs.length):bV prog 26 [] 5 2 26 ⟨W0,F0⟩ [(0,(a)),(1,(b))] (lA a b xs ys us) .ret (λκ:ag=>[(4,.bool true)]) (λκ:ag=>(lA a b xs ys us)):=(tr (c:=⟨W0,F0⟩) (kn [a,b,iN (xs.length)] (fc (by assumption) (fc (by assumption) fr)) [] [] [] fn fn fn W0 F0 [(lA a b xs ys us)] [] []) fn fn rfl [] [] [] 0 rfl rfl [(0,sy 0),(1,sy 1)] [(4,.bool true)] .ret)
theorem Ux(W0:World)(F0:Nat->Prop)(a b:Value)(la:ai a=true)(lb:ai b=true)(xs ys:List Int)(hx:xs.length<=1000000)(hy:ys.length<=1000000)(h1:¬ ((xs.length:Nat):Int)≠((ys.length:Nat):Int)):bV prog 56 [] 0 4 34 ⟨W0,F0⟩ [(0,(a)),(1,(b))] (C6 a b xs ys) .normal (λκ:ag=>[(0,(a)),(1,(b)),(5,iz 0)]) (λκ:ag=>(C6 a b xs ys)):=by obtain⟨i,i1,i2,i3,i4⟩:=cK;exact(tr (c:=⟨W0,F0⟩) (kn [a,b,iN (xs.length),iN (ys.length)] (fc (by assumption) (fc (by assumption) fr)) [(.neq,sy 2,sy 3,.bool false)] [] [] (fc (λ_ _ _=>eY (by first|(simpa using h1)|(simp;omega))) fn) fn fn W0 F0 [(C6 a b xs ys)] [⟨[10,56],[sy 0],none,0,none,sy 2,none⟩,⟨[10,56],[sy 1],none,0,none,sy 3,none⟩] []) (fc (by exact bT (ci:=1) rfl rfl underlying56 i2 rfl rfl) (fc (by exact bT (ci:=2) rfl rfl underlying56 i2 rfl rfl) fn)) fn rfl [] [] [] 0 rfl rfl [(0,sy 0),(1,sy 1)] [(0,sy 0),(1,sy 1),(5,iz 0)] .normal)
theorem Uy(W0:World)(F0:Nat->Prop)(a b:Value)(la:ai a=true)(lb:ai b=true)(xs ys:List Int)(hx:xs.length<=1000000)(hy:ys.length<=1000000)(us:List Int)(hu:us.length=xs.length)(hxy:xs.length=ys.length)(j:Nat)(hj:j<xs.length)(x y:Int)(hxj:us[j]? = some x)(hyj:ys[j]? = some y)(h1:¬ (x)≠(y)):bV prog 56 [8,0] 0 4 34 ⟨W0,F0⟩ [(0,(a)),(1,(b)),(5,iN j)] (mF a b xs ys us) .normal (λκ:ag=>[(0,(a)),(1,(b)),(5,(iN ((j)+1)))]) (λκ:ag=>[aD 28 1 (a) (xs.length) ((aF us).set ((j)*1) (uz (IntKind.u64.wrap ((x)+77)))),(ya b ys)]):=by have z1:=hx;have z2:=hy;have z3:=hu;have z4:=hxy;obtain⟨i,i1,i2,i3,i4⟩:=cK;exact(tr (c:=⟨W0,F0⟩) (kn [a,b,dx (a) ((j)*1),dx (b) ((j)*1),iN (j),iN (xs.length),uz (x),uz (y),uz (IntKind.u64.wrap ((x)+77)),iN ((j)+1)] (fc (by assumption) (fc (by assumption) (fc (aX _ _) (fc (aX _ _) fr)))) [(.lss,sy 4,sy 5,.bool true),(.neq,sy 6,sy 7,.bool false),(.add,sy 6,.int .u64 77,sy 8),(.add,sy 4,iz 1,sy 9)] [] [] (fc (λ_ _ _=>aQ (by first|(simp;done)|(simp;omega))) (fc (λ_ _ _=>eY (by first|(simpa using h1)|(simp;omega))) (fc (λ_ _ _=>ax rfl) (fc (λ_ _ _=>ax (by rw[ap (by omega) (by omega)];omega)) fn)))) fn fn W0 F0 [(mF a b xs ys us),[aD 28 1 (a) (xs.length) ((aF us).set ((j)*1) (uz (IntKind.u64.wrap ((x)+77)))),(ya b ys)]] [⟨[10,56],[sy 0],none,0,none,sy 5,none⟩,⟨[3,56],[sy 0,sy 4],none,0,none,sy 2,none⟩,⟨[1,28],[sy 2],none,0,none,sy 6,none⟩,⟨[3,56],[sy 1,sy 4],none,0,none,sy 3,none⟩,⟨[1,28],[sy 3],none,0,none,sy 7,none⟩,⟨[2,28],[sy 2,sy 8],none,0,none,undef,some 1⟩] []) (fc (by exact bT (ci:=1) rfl rfl underlying56 i2 rfl rfl) (fc (by exact bJ (ci:=1) (j:=(j)) rfl rfl underlying56 i1 i2 rfl rfl (by omega) rfl) (fc (by exact fi (ci:=1) (m:=(j)*1) (x:=(uz x)) rfl rfl loadU64 (by simp[aF,List.getElem?_map,hxj]) (by simp;omega) rfl (λι=>(vk (by kernel_rfl) (by kernel_rfl)))) (fc (by exact bJ (ci:=2) (j:=(j)) rfl rfl underlying56 i1 i2 rfl rfl (by omega) rfl) (fc (by exact fi (ci:=2) (m:=(j)*1) (x:=(uz y)) rfl rfl loadU64 (by simp[aF,List.getElem?_map,hyj]) (by simp;omega) rfl (λι=>(vk (by kernel_rfl) (by kernel_rfl)))) (fc (by exact c6 (ci:=1) (m:=(j)*1) (x:=(uz (IntKind.u64.wrap ((x)+77)))) rfl rfl rfl storeU64 (by simp;omega) rfl (cI rfl) rfl) fn)))))) fn rfl [] [] [] 1 rfl rfl [(0,sy 0),(1,sy 1),(5,sy 4)] [(0,sy 0),(1,sy 1),(5,sy 9)] .normal)
theorem Uz(W0:World)(F0:Nat->Prop)(a b:Value)(la:ai a=true)(lb:ai b=true)(xs ys:List Int)(hx:xs.length<=1000000)(hy:ys.length<=1000000)(us:List Int)(hu:us.length=xs.length):bV prog 56 [8,0] 0 4 34 ⟨W0,F0⟩ [(0,(a)),(1,(b)),(5,iN xs.length)] (mF a b xs ys us) (.exit 0) (λκ:ag=>[(0,(a)),(1,(b))]) (λκ:ag=>(mF a b xs ys us)):=(tr (c:=⟨W0,F0⟩) (kn [a,b,iN (xs.length)] (fc (by assumption) (fc (by assumption) fr)) [(.lss,sy 2,sy 2,.bool false)] [] [] (fc (λ_ _ _=>aQ (by have z3:=hu;first|(simp;done)|(simp;omega))) fn) fn fn W0 F0 [(mF a b xs ys us)] [⟨[10,56],[sy 0],none,0,none,sy 2,none⟩] []) (fc (by obtain⟨i,i1,i2,i3,i4⟩:=cK;exact bT (ci:=1) rfl rfl underlying56 i2 rfl rfl) fn) fn rfl [] [] [] 0 rfl rfl [(0,sy 0),(1,sy 1),(5,sy 2)] [(0,sy 0),(1,sy 1)] (.exit 0))
theorem UA(W0:World)(F0:Nat->Prop)(a b:Value)(la:ai a=true)(lb:ai b=true)(xs ys:List Int)(hx:xs.length<=1000000)(hy:ys.length<=1000000)(us:List Int)(hu:us.length=xs.length):bV prog 56 [] 5 2 34 ⟨W0,F0⟩ [(0,(a)),(1,(b))] (mF a b xs ys us) .ret (λκ:ag=>[(4,.bool true)]) (λκ:ag=>(mF a b xs ys us)):=(tr (c:=⟨W0,F0⟩) (kn [a,b,iN (xs.length)] (fc (by assumption) (fc (by assumption) fr)) [] [] [] fn fn fn W0 F0 [(mF a b xs ys us)] [] []) fn fn rfl [] [] [] 0 rfl rfl [(0,sy 0),(1,sy 1)] [(4,.bool true)] .ret)
end Go.Proofs.YtbcnbofkgkheeaaGreat
namespace Go.Proofs.YtbcnbofkgkheeaaGreat
open Go.Ev Go.Proofs.Tryz
open Go.RowKit
open Go.Ev (sy)
set_option maxRecDepth 8000
theorem qF{w:World}{F:Nat->Prop}{a b:Value}(la:ai a=true)(lb:ai b=true){xs:List Int}(hx:xs.length<=1000000)(h:bI [aD 3 1 a xs.length (aO xs),aD 3 1 b xs.length (aO xs)] F w) :
  Calls prog 26 #[a,b] w λe w'=>e=.returned (.bool true)/\ah ⟨w,F⟩ [aD 3 1 a xs.length (aO xs),aD 3 1 b xs.length (aO xs)] w':=by
 refine cF (N:=26) (tm:=[(0,a),(1,b)]) (by kernel_rfl) h (by simp) (by simp) (λA hA=>?_);refine Ut w F a b la lb xs xs hx hx (by simp) A w _ hA ?_;intro κ A1 w1 h1;refine bY (id:=0) (by kernel_rfl) ?_;refine ek (by kernel_rfl) (λ(j:Nat) A w'=>Ev.At ⟨w,F⟩ 26 [(0,a),(1,b),(5,.int .i64 (j:Int))] [aD 3 1 a xs.length (aO xs),aD 3 1 b xs.length (aO xs)] A w'/\j<=xs.length) (λj=>xs.length-j) (x:=0) ⟨h1,by omega⟩ ?_;clear h1 hA A1 w1;rintro j A1 w1 ⟨h1,hj⟩
 by_cases hlt:j<xs.length
 ·refine Uu w F a b la lb xs xs hx hx xs rfl rfl j hlt xs[j] xs[j] (List.getElem?_eq_getElem hlt) (List.getElem?_eq_getElem hlt) (by simp) A1 w1 _ h1 ?_
  intro κ A2 w2 h2;exact bE (by kernel_rfl) ⟨j+1,⟨h2,hlt⟩,by omega⟩
 ·obtain rfl:j=xs.length:=by omega
  refine Uv w F a b la lb xs xs hx hx xs rfl A1 w1 _ h1 ?_;intro κ A2 w2 h2;refine Uw w F a b la lb xs xs hx hx xs rfl A2 w2 _ h2 ?_;intro κ A3 w3 h3;exact h3.ret (by kernel_rfl) (List.mem_singleton.2 rfl) (λhh=>⟨rfl,hh⟩)
theorem C7{w:World}{F:Nat->Prop}{a b:Value}(la:ai a=true)(lb:ai b=true){xs:List Int}(hx:xs.length<=1000000)(h:bI [aD 28 1 a xs.length (aF xs),aD 28 1 b xs.length (aF xs)] F w) :
  Calls prog 56 #[a,b] w λe w'=>e=.returned (.bool true)/\ah ⟨w,F⟩ [aD 28 1 b xs.length (aF xs)] w':=by
 refine cF (N:=34) (tm:=[(0,a),(1,b)]) (by kernel_rfl) h (by simp) (by simp) (λA hA=>?_);refine Ux w F a b la lb xs xs hx hx (by simp) A w _ hA ?_;intro κ A1 w1 h1;refine bY (id:=0) (by kernel_rfl) ?_;refine ek (by kernel_rfl) (λ(x:Nat×List Int) A w'=>Ev.At ⟨w,F⟩ 34 [(0,a),(1,b),(5,.int .i64 (x.1:Int))] [aD 28 1 a xs.length (aF x.2),aD 28 1 b xs.length (aF xs)] A w'/\x.1<=xs.length/\x.2.length=xs.length/\∀ i,x.1<=i->x.2[i]? = xs[i]?) (λx=>xs.length-x.1) (x:=(0,xs)) ⟨h1,by simp,rfl,λi _=>rfl⟩ ?_;clear h1 hA A1 w1;rintro⟨j,us⟩ A1 w1 ⟨h1,hj,hu,Mf⟩;replace hj:j<=xs.length:=hj;replace hu:us.length=xs.length:=hu;replace Mf:∀ i,j<=i->us[i]? = xs[i]?:=Mf
 by_cases hlt:j<xs.length
 ·have hg:xs[j]? = some xs[j]:=List.getElem?_eq_getElem hlt
  refine Uy w F a b la lb xs xs hx hx us hu rfl j hlt xs[j] xs[j] (by rw[Mf j (Nat.le_refl _),hg]) hg (by simp) A1 w1 _ h1 ?_;intro κ A2 w2 h2;rw[mB]at h2;refine bE (by kernel_rfl) ⟨(j+1,us.set j (IntKind.u64.wrap (xs[j]+77))),⟨h2,hlt,by simp[hu],λi hi=>?_⟩,by show xs.length-(j+1)<xs.length-j;omega⟩;replace hi:j+1<=i:=hi;rw[List.getElem?_set_ne (by omega)];exact Mf i (by omega)
 ·obtain rfl:j=xs.length:=by omega
  refine Uz w F a b la lb xs xs hx hx us hu A1 w1 _ h1 ?_;intro κ A2 w2 h2;refine UA w F a b la lb xs xs hx hx us hu A2 w2 _ h2 ?_;intro κ A3 w3 h3;exact h3.ret (by kernel_rfl) (List.mem_singleton.2 rfl) (λhh=>⟨rfl,hh.sel [1]⟩)
end Go.Proofs.YtbcnbofkgkheeaaGreat
namespace Go.Proofs.YtbcnbofkgkheeaaGreat
open Go.Ev Go.Proofs.Tryz
open Go.RowKit
open Go.Ev (sy iz uz wz iN uN wN pz dv fc fn ak vk vd kn pc cc cr cm cd fr)
set_option maxRecDepth 8000
attribute [local irreducible] dL
theorem t9{l:List aC}{F:Nat->Prop}{w:World}(h:bI l F w){i:Nat}{e:TypeId}{sz n:Nat}{v:Value}{xs:List Value}(hi:l[i]? = some (aD e sz v n xs)):ai v=true:=by
 obtain⟨f,hf⟩:=h.part hi;exact fh.leaf hf
abbrev Bu(m:aG)(rv:Value):aC:=aD 28 1 (rv) (m.cells.length) (aF m.cells)
theorem sm(W0:World)(F0:Nat->Prop)(bm:Nat)(m:aG)(rv:Value)(lr:ai rv=true)(hx:m.cells.length<=1000000):aK prog 38 [] 0 25 ⟨W0,F0⟩ [(0,pz bm),(1,(.agg #[rv,uz m.ops]))] [aj bm m,(Bu m rv)] (λκ:ag=>(.bool true)) (λκ:ag=>[(Bu m rv),aj bm m]):=(bU (c:=⟨W0,F0⟩) 3 (kn [rv,pz bm,uz (m.ops),iN (m.cells.length)] (fc (by assumption) fr) [(.eql,sy 3,sy 3,.bool true),(.eql,sy 2,sy 2,.bool true)] [] [] (fc (λ_ _ _=>aM (by first|(simp;done)|(simp;omega))) (fc (λ_ _ _=>aM (by first|(simp;done)|(simp;omega))) fn)) fn fn W0 F0 [[aj bm m,(Bu m rv)],[bP 407 (λv=>aD 28 1 v m.cells.length (aF m.cells)),bP 407 (λv=>aj bm m),(Bu m rv)],[(Bu m rv),bP 407 (λv=>aj bm m)]] [⟨[10,56],[sy 0],none,0,none,sy 3,none⟩] [⟨55,[sy 1],0,none,sy 3,none⟩,⟨28,[sy 1],0,none,sy 2,none⟩,⟨49,[sy 1],0,some 407,.complex .f32 407 0,some 1⟩,⟨56,[.complex .f32 407 0,sy 0],1,none,.bool true,some 2⟩]) (fc (by obtain⟨i,i1,i2,i3,i4⟩:=cK;exact bT (ci:=2) rfl rfl underlying56 i2 rfl rfl) fn) (fc (cr rfl [0] (λw F ho hn=>Jf hn)) (fc (cr rfl [0] (λw F ho hn=>cT hn)) (fc (cd rfl [λv=>aD 28 1 v m.cells.length (aF m.cells),λv=>aj bm m] [0] [1] (λw F ho hn hF=>Bt hx hn)) (fc (j8 (c:=⟨W0,F0⟩) (fp:=[bP 407 (λv=>aD 28 1 v m.cells.length (aF m.cells)),aD 28 1 (rv) (m.cells.length) (aF m.cells)]) (lp:=λv=>[aD 28 1 v m.cells.length (aF m.cells),aD 28 1 (rv) (m.cells.length) (aF m.cells)]) (lq:=[aD 28 1 (rv) (m.cells.length) (aF m.cells)]) (args:=λv=>[v,rv]) [0,2] [1] rfl rfl rfl rfl (cS (λ_ _ _ _ _ h=>h) (c9 (λ_ _ _ _ h=>h) bZ)) (bw (ak (by kernel_rfl) (by kernel_rfl))) (λι=>(vk (by kernel_rfl) (by kernel_rfl))) (λv w F ho hn hF=>C7 (t9 hn (i:=0) rfl) lr hx hn)) fn)))) rfl [] [] [] 2 rfl rfl [(0,sy 1),(1,.agg #[sy 0,sy 2])] (.bool true)).conv (λκ w=>⟨(λ_ h=>h),(λ_ h=>aS (a:=λv=>aj bm m) (λ_ _ _ _ _ h=>h) h),trivial⟩)
structure SP where
 W0:World
 F0:Nat->Prop
 c:aT
 p:Nat
 hp:p<c.n
 gg:Int
 hg:0<=gg/\gg<=9223372036854775807
 w:Int
 hw:c7 w
 k:Int
 bp:Nat
 bm:Nat
 m:aG
 tk:Value
 hd:Value
 cx:ai tk=true
 cQ:ai hd=true
 ts:List Int
 hs:List Int
 hl:m.cells.length=4+c.off c.n
 hts:ts.length<=64
theorem oC{xs:List Int}{a:Nat}{x:Int}(h:xs[a]? = some x)(hl:xs.length<=1000000):(a:Int)<=9223372036854775807:=by
 have:=(List.getElem?_eq_some_iff.1 h).1;omega
abbrev SP.i4(s:SP):Int:=IntKind.u32.wrap (cq s.w+IntKind.u32.wrap (((s.ts.length:Nat):Int)-((s.c.q / 2:Nat):Int)))
abbrev Jg(s:SP):Value:=(.agg #[iN s.c.n,iN s.c.q,iz s.c.g,iz s.c.m,iz s.c.t,iz s.c.s])
abbrev EP:List dZ:=[(4,[sy 9,sy 2,sy 10,sy 11,sy 12,sy 13,sy 14,iz 1,sy 15,sy 16,sy 6,sy 0,sy 1],124)]
abbrev pF:List (Nat×Value):=[(0,.pointer (some ⟨4,0,none⟩)),(1,sy 17)]
abbrev jq(s:SP):aC:=aD 3 1 (s.tk) (s.ts.length) (aO s.ts)
abbrev fP(s:SP):aC:=aD 3 1 (s.hd) (s.hs.length) (aO s.hs)
abbrev pG(s:SP):List aC:=[aj s.bm s.m,jq s,fP s]
abbrev wk(s:SP):List aC:=[aj s.bm s.m.tick,jq s,fP s]
abbrev pH(s:SP):List (Nat×Value):=[(0,pz s.bp),(1,pz s.bm)]
abbrev Jh(s:SP):aC:=aH s.bp [iN s.c.n,iN s.c.q,iz s.c.g,iz s.c.m,iz s.c.t,iz s.c.s,iN s.p,iz 1,uz s.w,wz s.k,iz s.gg,s.tk,s.hd] 124
abbrev Ji(s:SP):List aC:=[Jh s,aj s.bm s.m,jq s,fP s]
abbrev C8:List dZ:=[(4,[sy 9,sy 2,sy 10,sy 11,sy 12,sy 13,sy 14,iz 3,sy 15,sy 16,sy 6,sy 0,sy 1],124)]
abbrev Jj(s:SP):aC:=aH s.bp [iN s.c.n,iN s.c.q,iz s.c.g,iz s.c.m,iz s.c.t,iz s.c.s,iN s.p,iz 3,uz s.w,wz s.k,iz s.gg,s.tk,s.hd] 124
abbrev Jk(s:SP):List aC:=[Jj s,aj s.bm s.m,jq s,fP s]
abbrev Jl(s:SP):List aC:=[Jh s,aj s.bm s.m.tick,jq s,fP s]
abbrev Jm:List dZ:=[(4,[sy 9,sy 2,sy 10,sy 11,sy 12,sy 13,sy 14,iz 4,sy 15,sy 16,sy 6,sy 0,sy 1],124)]
abbrev Jn(s:SP)(x:Int):List aC:=[aj s.bm s.m.tick,bP 415 (λv=>aD 3 1 v (s.ts.length+1) ((aO s.ts)++[(iz (IntKind.i64.wrap (x)))])),fP s]
abbrev Jo(s:SP):List aC:=[aH s.bp [iN s.c.n,iN s.c.q,iz s.c.g,iz s.c.m,iz s.c.t,iz s.c.s,iN s.p,iz 4,uz s.w,wz s.k,iz s.gg,s.tk,s.hd] 124,aj s.bm s.m,jq s,fP s]
abbrev Jp:List dZ:=[(4,[sy 9,sy 2,sy 10,sy 11,sy 12,sy 13,sy 14,iz 5,sy 15,sy 16,sy 6,sy 0,sy 1],124)]
abbrev Jq(s:SP):List aC:=[aH s.bp [iN s.c.n,iN s.c.q,iz s.c.g,iz s.c.m,iz s.c.t,iz s.c.s,iN s.p,iz 5,uz s.w,wz s.k,iz s.gg,s.tk,s.hd] 124,aj s.bm s.m,jq s,fP s]
abbrev C9(s:SP):aC:=aj s.bm (s.m.put (s.c.word s.p) (gF s.w (-((s.c.q / 2:Nat):Int))))
theorem WP(s:SP)(x:Int)(hxu:c7 x)(hxa:s.m.cells[s.c.word s.p]? = some x)(h1:(cu (x))≥((s.c.q:Nat):Int)):aK prog 100 [] 0 20 ⟨s.W0,s.F0⟩ (pH s) (Ji s) (λκ:ag=>(.bool false)) (λκ:ag=>[aH s.bp [iN s.c.n,iN s.c.q,iz s.c.g,iz s.c.m,iz s.c.t,iz s.c.s,iN s.p,iz 4,uz x,.int .u32 0,iz s.gg,.slice none 0 0,s.hd] 124,aj s.bm s.m.tick,jq s,fP s]):=by have q0:=s.c.z s.hp;have q6:=s.hl;have q8:=s.hg;have q9:=s.hts;exact(bU (c:=⟨s.W0,s.F0⟩) 5 (kn [s.tk,s.hd,iN (s.c.q),iN (s.c.q / 2),wN (s.c.q / 2),wN (s.c.q),iz (s.gg),uz (s.gg),wz (cq (s.w)),iN (s.c.n),iz (s.c.g),iz (s.c.m),iz (s.c.t),iz (s.c.s),iN (s.p),uz (s.w),wz (s.k),pz s.bm,iN (s.c.word s.p),uz (x),wz (cu (x))] (fc s.cx (fc s.cQ fr)) [(.geq,sy 20,sy 5,.bool true)] [] [(.u32,sy 2,sy 5)] (fc (λ_ _ _=>bG (by first|(simpa using h1)|(simp;omega))) fn) fn (fc (bF rfl rfl (by have q2:=s.c.qb;rw[bj];omega)) fn) s.W0 s.F0 [pG s,wk s] [] [⟨5,[.agg #[sy 9,sy 2,sy 10,sy 11,sy 12,sy 13],sy 14],0,none,sy 18,none⟩,⟨22,[sy 17,sy 18],0,none,sy 19,some 1⟩,⟨114,[sy 19],1,none,sy 20,none⟩]) fn (fc (pc rfl (λw hb=>dD s.c s.p s.hp w)) (fc (cc rfl [aj s.bm s.m.tick] [0] [1,2] (λw F ho hn hF=>cj hn hxa (oC hxa (by omega)))) (fc (pc (args:=[uz x]) rfl (λw hb=>bN (R5 _ hxu w))) fn))) rfl [(4,s.bp)] EP [(4,[sy 9,sy 2,sy 10,sy 11,sy 12,sy 13,sy 14,iz 4,sy 19,.int .u32 0,sy 6,.slice none 0 0,sy 1],124)] 1 rfl rfl pF (.bool false))
theorem pub(s:SP)(x:Int)(hxu:c7 x)(hxa:s.m.cells[s.c.word s.p]? = some x)(h1:¬ (cu (x))≥((s.c.q:Nat):Int)):aK prog 100 [] 0 20 ⟨s.W0,s.F0⟩ (pH s) (Ji s) (λκ:ag=>(.bool false)) (λκ:ag=>[aH s.bp [iN s.c.n,iN s.c.q,iz s.c.g,iz s.c.m,iz s.c.t,iz s.c.s,iN s.p,iz 2,uz x,.int .u32 0,iz s.gg,.slice none 0 0,s.hd] 124,aj s.bm s.m.tick,jq s,fP s]):=by have q0:=s.c.z s.hp;have q6:=s.hl;have q8:=s.hg;have q9:=s.hts;exact(bU (c:=⟨s.W0,s.F0⟩) 5 (kn [s.tk,s.hd,iN (s.c.q),iN (s.c.q / 2),wN (s.c.q / 2),wN (s.c.q),iz (s.gg),uz (s.gg),wz (cq (s.w)),iN (s.c.n),iz (s.c.g),iz (s.c.m),iz (s.c.t),iz (s.c.s),iN (s.p),uz (s.w),wz (s.k),pz s.bm,iN (s.c.word s.p),uz (x),wz (cu (x))] (fc s.cx (fc s.cQ fr)) [(.geq,sy 20,sy 5,.bool false)] [] [(.u32,sy 2,sy 5)] (fc (λ_ _ _=>bG (by first|(simpa using h1)|(simp;omega))) fn) fn (fc (bF rfl rfl (by have q2:=s.c.qb;rw[bj];omega)) fn) s.W0 s.F0 [pG s,wk s] [] [⟨5,[.agg #[sy 9,sy 2,sy 10,sy 11,sy 12,sy 13],sy 14],0,none,sy 18,none⟩,⟨22,[sy 17,sy 18],0,none,sy 19,some 1⟩,⟨114,[sy 19],1,none,sy 20,none⟩]) fn (fc (pc rfl (λw hb=>dD s.c s.p s.hp w)) (fc (cc rfl [aj s.bm s.m.tick] [0] [1,2] (λw F ho hn hF=>cj hn hxa (oC hxa (by omega)))) (fc (pc (args:=[uz x]) rfl (λw hb=>bN (R5 _ hxu w))) fn))) rfl [(4,s.bp)] EP [(4,[sy 9,sy 2,sy 10,sy 11,sy 12,sy 13,sy 14,iz 2,sy 19,.int .u32 0,sy 6,.slice none 0 0,sy 1],124)] 1 rfl rfl pF (.bool false))
theorem WQ(s:SP)(ha:s.c.slot s.p (cq s.w)<s.m.cells.length):aK prog 100 [] 0 20 ⟨s.W0,s.F0⟩ (pH s) [aH s.bp [iN s.c.n,iN s.c.q,iz s.c.g,iz s.c.m,iz s.c.t,iz s.c.s,iN s.p,iz 2,uz s.w,wz s.k,iz s.gg,s.tk,s.hd] 124,aj s.bm s.m,jq s,fP s] (λκ:ag=>(.bool false)) (λκ:ag=>[Jj s,aj s.bm (s.m.put (s.c.slot s.p (cq (s.w))) (s.gg)),jq s,fP s]):=by have q8:=s.hg;exact(bU (c:=⟨s.W0,s.F0⟩) 5 (kn [s.tk,s.hd,iN (s.c.q),iN (s.c.q / 2),wN (s.c.q / 2),wN (s.c.q),iz (s.gg),uz (s.gg),wz (cq (s.w)),iN (s.c.n),iz (s.c.g),iz (s.c.m),iz (s.c.t),iz (s.c.s),iN (s.p),uz (s.w),wz (s.k),pz s.bm,iN (s.c.slot s.p (cq (s.w)))] (fc s.cx (fc s.cQ fr)) [(.add,sy 8,.int .u32 0,sy 8)] [] [(.u64,sy 6,sy 7)] (fc (λ_ _ _=>ax (by have:=fq s.w;rw[bj];omega)) fn) fn (fc (bF rfl rfl (ct (by omega) (by omega))) fn) s.W0 s.F0 [pG s,[aj s.bm (s.m.put (s.c.slot s.p (cq (s.w))) (s.gg)),jq s,fP s]] [] [⟨115,[sy 15],0,none,sy 8,none⟩,⟨31,[.agg #[sy 9,sy 2,sy 10,sy 11,sy 12,sy 13],sy 14,sy 8],0,none,sy 18,none⟩,⟨30,[sy 17,sy 18,sy 7],0,none,.tuple #[],some 1⟩]) fn (fc (pc (args:=[uz s.w]) rfl (λw hb=>bN (v9 _ s.hw w))) (fc (pc (args:=[Jg s,iN s.p,(wz (cq (s.w)))]) rfl (λw hb=>pE s.c s.p s.hp (cq (s.w)) (by first | exact(fq _).1 | exact iL _) w)) (fc (cc rfl [aj s.bm (s.m.put (s.c.slot s.p (cq (s.w))) (s.gg))] [0] [1,2] (λw F ho hn hF=>dI hn ha (by have q0:=s.c.z s.hp;have q6:=s.hl;have q9:=s.hts;omega) (s.gg))) fn))) rfl [(4,s.bp)] [(4,[sy 9,sy 2,sy 10,sy 11,sy 12,sy 13,sy 14,iz 2,sy 15,sy 16,sy 6,sy 0,sy 1],124)] C8 1 rfl rfl pF (.bool false))
theorem WR(s:SP)(x:Int)(hxu:c7 x)(hxa:s.m.cells[s.c.word s.p]? = some x)(hc:x≠s.w):aK prog 100 [] 0 20 ⟨s.W0,s.F0⟩ (pH s) (Jk s) (λκ:ag=>(.bool false)) (λκ:ag=>(Jl s)):=(bU (c:=⟨s.W0,s.F0⟩) 5 (kn [s.tk,s.hd,iN (s.c.q),iN (s.c.q / 2),wN (s.c.q / 2),wN (s.c.q),iz (s.gg),uz (s.gg),wz (cq (s.w)),iN (s.c.n),iz (s.c.g),iz (s.c.m),iz (s.c.t),iz (s.c.s),iN (s.p),uz (s.w),wz (s.k),pz s.bm,uz (gF s.w 1),iN (s.c.word s.p)] (fc s.cx (fc s.cQ fr)) [] [] [] fn fn fn s.W0 s.F0 [pG s,wk s] [] [⟨111,[sy 15,.int .u32 1],0,none,sy 18,none⟩,⟨5,[.agg #[sy 9,sy 2,sy 10,sy 11,sy 12,sy 13],sy 14],0,none,sy 19,none⟩,⟨116,[sy 17,sy 19,sy 15,sy 18],0,none,.bool false,some 1⟩]) fn (fc (pc (args:=[uz s.w,.int .u32 1]) rfl (λw hb=>bN (Ox _ 1 s.hw w))) (fc (pc rfl (λw hb=>dD s.c s.p s.hp w)) (fc (cc rfl [aj s.bm s.m.tick] [0] [1,2] (λw F ho hn hF=>Ez hn hxa (by have q0:=s.c.z s.hp;have q6:=s.hl;have q8:=s.hg;have q9:=s.hts;omega) s.w (gF s.w 1) hc)) fn))) rfl [(4,s.bp)] C8 EP 1 rfl rfl pF (.bool false))
theorem WS(s:SP)(x:Int)(hxu:c7 x)(hxa:s.m.cells[s.c.word s.p]? = some x)(hc:x=s.w):aK prog 100 [] 0 20 ⟨s.W0,s.F0⟩ (pH s) (Jk s) (λκ:ag=>(.bool true)) (λκ:ag=>[aH s.bp [iN s.c.n,iN s.c.q,iz s.c.g,iz s.c.m,iz s.c.t,iz s.c.s,iN s.p,iz 0,uz s.w,wz s.k,iz s.gg,s.tk,.slice none 0 0] 124,aj s.bm (s.m.put (s.c.word s.p) (gF s.w 1)),jq s,fP s]):=(bU (c:=⟨s.W0,s.F0⟩) 5 (kn [s.tk,s.hd,iN (s.c.q),iN (s.c.q / 2),wN (s.c.q / 2),wN (s.c.q),iz (s.gg),uz (s.gg),wz (cq (s.w)),iN (s.c.n),iz (s.c.g),iz (s.c.m),iz (s.c.t),iz (s.c.s),iN (s.p),uz (s.w),wz (s.k),pz s.bm,uz (gF s.w 1),iN (s.c.word s.p)] (fc s.cx (fc s.cQ fr)) [] [] [] fn fn fn s.W0 s.F0 [pG s,[aj s.bm (s.m.put (s.c.word s.p) (gF s.w 1)),jq s,fP s]] [] [⟨111,[sy 15,.int .u32 1],0,none,sy 18,none⟩,⟨5,[.agg #[sy 9,sy 2,sy 10,sy 11,sy 12,sy 13],sy 14],0,none,sy 19,none⟩,⟨116,[sy 17,sy 19,sy 15,sy 18],0,none,.bool true,some 1⟩]) fn (fc (pc (args:=[uz s.w,.int .u32 1]) rfl (λw hb=>bN (Ox _ 1 s.hw w))) (fc (pc rfl (λw hb=>dD s.c s.p s.hp w)) (fc (cc rfl [aj s.bm (s.m.put (s.c.word s.p) (gF s.w 1))] [0] [1,2] (λw F ho hn hF=>Bg hn hxa (by have q0:=s.c.z s.hp;have q6:=s.hl;have q8:=s.hg;have q9:=s.hts;omega) s.w (gF s.w 1) hc)) fn))) rfl [(4,s.bp)] C8 [(4,[sy 9,sy 2,sy 10,sy 11,sy 12,sy 13,sy 14,iz 0,sy 15,sy 16,sy 6,sy 0,.slice none 0 0],124)] 1 rfl rfl pF (.bool true))
theorem WT(s:SP)(x:Int)(hxu:c7 x)(hxa:s.m.cells[s.c.slot s.p s.i4]? = some x)(h1:((s.ts.length+1:Nat):Int)=((s.c.q / 2:Nat):Int)):aK prog 100 [] 0 20 ⟨s.W0,s.F0⟩ (pH s) (Jo s) (λκ:ag=>(.bool false)) (λκ:ag=>[aH s.bp [iN s.c.n,iN s.c.q,iz s.c.g,iz s.c.m,iz s.c.t,iz s.c.s,iN s.p,iz 5,uz s.w,wz s.k,iz s.gg,dv κ 415,s.hd] 124,aj s.bm s.m.tick,aD 3 1 (dv κ 415) (s.ts.length+1) ((aO s.ts)++[(iz (IntKind.i64.wrap (x)))]),fP s]):=by have q0:=s.c.z s.hp;have q6:=s.hl;have q8:=s.hg;have q9:=s.hts;have q2:=s.c.qb;obtain⟨i,i1,i2,i3,i4⟩:=b0;exact(bU (c:=⟨s.W0,s.F0⟩) 5 (kn [s.tk,s.hd,iN (s.c.q),iN (s.c.q / 2),wN (s.c.q / 2),wN (s.c.q),iz (s.gg),uz (s.gg),wz (cq (s.w)),iN (s.c.n),iz (s.c.g),iz (s.c.m),iz (s.c.t),iz (s.c.s),iN (s.p),uz (s.w),wz (s.k),pz s.bm,iN (s.ts.length),iz (((s.ts.length:Nat):Int)-((s.c.q / 2:Nat):Int)),wz (IntKind.u32.wrap (((s.ts.length:Nat):Int)-((s.c.q / 2:Nat):Int))),wz (IntKind.u32.wrap ((cq (s.w))+(IntKind.u32.wrap (((s.ts.length:Nat):Int)-((s.c.q / 2:Nat):Int))))),iN (s.c.slot s.p (IntKind.u32.wrap ((cq (s.w))+(IntKind.u32.wrap (((s.ts.length:Nat):Int)-((s.c.q / 2:Nat):Int)))))),uz (x),iz (IntKind.i64.wrap (x)),iN (s.ts.length+1)] (fc s.cx (fc s.cQ fr)) [(.quo,sy 2,iz 2,sy 3),(.sub,sy 18,sy 3,sy 19),(.add,sy 8,sy 20,sy 21),(.eql,sy 25,sy 3,.bool true)] [] [(.u32,sy 3,sy 4),(.i64,sy 4,sy 3),(.u32,sy 19,sy 20),(.i64,sy 23,sy 24)] (fc (λ_ _ _=>dH (by decide) (hM s.c)) (fc (λ_ _ _=>bX (by exact ap (by omega) (by omega))) (fc (λ_ _ _=>ax rfl) (fc (λ_ _ _=>aM (by first|(simpa using h1)|(simp;omega))) fn)))) fn (fc (bF rfl rfl (by rw[bj];omega)) (fc (bF rfl rfl (by exact ap (by omega) (by omega))) (fc ⟨.i64,_,rfl,rfl⟩ (fc ⟨.u64,_,rfl,rfl⟩ fn)))) s.W0 s.F0 [pG s,wk s,(Jn s x)] [⟨[10,45],[sy 0],none,0,none,sy 18,none⟩,⟨[11,45,45],[sy 0],some (1,1,[sy 24]),1,some 415,.complex .f32 415 0,some 2⟩,⟨[10,45],[.complex .f32 415 0],none,2,none,sy 25,none⟩] [⟨115,[sy 15],0,none,sy 8,none⟩,⟨31,[.agg #[sy 9,sy 2,sy 10,sy 11,sy 12,sy 13],sy 14,sy 21],0,none,sy 22,none⟩,⟨22,[sy 17,sy 22],0,none,sy 23,some 1⟩]) (fc (by exact bT (ci:=2) rfl rfl underlying45 i2 rfl rfl) (fc (by exact eG (ci:=2) (m:=1) (cs:=[(iz (IntKind.i64.wrap (x)))]) rfl rfl rfl underlying45 underlying45 i1 i2 (by omega) i3 (by rw[i2];rfl) (by rw[i4];omega) (by omega) rfl rfl (ak (by kernel_rfl) (by kernel_rfl))) (fc (by exact r6 (ci:=2) rfl rfl underlying45 i2 rfl) fn))) (fc (pc (args:=[uz s.w]) rfl (λw hb=>bN (v9 _ s.hw w))) (fc (pc (args:=[Jg s,iN s.p,(wz (IntKind.u32.wrap ((cq (s.w))+(IntKind.u32.wrap (((s.ts.length:Nat):Int)-((s.c.q / 2:Nat):Int))))))]) rfl (λw hb=>pE s.c s.p s.hp (IntKind.u32.wrap ((cq (s.w))+(IntKind.u32.wrap (((s.ts.length:Nat):Int)-((s.c.q / 2:Nat):Int))))) (by first | exact(fq _).1 | exact iL _) w)) (fc (cc rfl [aj s.bm s.m.tick] [0] [1,2] (λw F ho hn hF=>cj hn hxa (oC hxa (by omega)))) fn))) rfl [(4,s.bp)] Jm [(4,[sy 9,sy 2,sy 10,sy 11,sy 12,sy 13,sy 14,iz 5,sy 15,sy 16,sy 6,.complex .f32 415 0,sy 1],124)] 2 rfl rfl pF (.bool false)).conv (λκ w=>⟨(λ_ h=>h),(λ_ h=>h),(λ_ h=>aS (a:=λv=>aD 3 1 v (s.ts.length+1) ((aO s.ts)++[(iz (IntKind.i64.wrap (x)))])) (λ_ _ _ _ _ h=>h) h),(λ_ h=>h),trivial⟩)
theorem WU(s:SP)(x:Int)(hxu:c7 x)(hxa:s.m.cells[s.c.slot s.p s.i4]? = some x)(h1:¬ ((s.ts.length+1:Nat):Int)=((s.c.q / 2:Nat):Int)):aK prog 100 [] 0 20 ⟨s.W0,s.F0⟩ (pH s) (Jo s) (λκ:ag=>(.bool false)) (λκ:ag=>[aH s.bp [iN s.c.n,iN s.c.q,iz s.c.g,iz s.c.m,iz s.c.t,iz s.c.s,iN s.p,iz 4,uz s.w,wz s.k,iz s.gg,dv κ 415,s.hd] 124,aj s.bm s.m.tick,aD 3 1 (dv κ 415) (s.ts.length+1) ((aO s.ts)++[(iz (IntKind.i64.wrap (x)))]),fP s]):=by have q0:=s.c.z s.hp;have q6:=s.hl;have q8:=s.hg;have q9:=s.hts;have q2:=s.c.qb;obtain⟨i,i1,i2,i3,i4⟩:=b0;exact(bU (c:=⟨s.W0,s.F0⟩) 5 (kn [s.tk,s.hd,iN (s.c.q),iN (s.c.q / 2),wN (s.c.q / 2),wN (s.c.q),iz (s.gg),uz (s.gg),wz (cq (s.w)),iN (s.c.n),iz (s.c.g),iz (s.c.m),iz (s.c.t),iz (s.c.s),iN (s.p),uz (s.w),wz (s.k),pz s.bm,iN (s.ts.length),iz (((s.ts.length:Nat):Int)-((s.c.q / 2:Nat):Int)),wz (IntKind.u32.wrap (((s.ts.length:Nat):Int)-((s.c.q / 2:Nat):Int))),wz (IntKind.u32.wrap ((cq (s.w))+(IntKind.u32.wrap (((s.ts.length:Nat):Int)-((s.c.q / 2:Nat):Int))))),iN (s.c.slot s.p (IntKind.u32.wrap ((cq (s.w))+(IntKind.u32.wrap (((s.ts.length:Nat):Int)-((s.c.q / 2:Nat):Int)))))),uz (x),iz (IntKind.i64.wrap (x)),iN (s.ts.length+1)] (fc s.cx (fc s.cQ fr)) [(.quo,sy 2,iz 2,sy 3),(.sub,sy 18,sy 3,sy 19),(.add,sy 8,sy 20,sy 21),(.eql,sy 25,sy 3,.bool false)] [] [(.u32,sy 3,sy 4),(.i64,sy 4,sy 3),(.u32,sy 19,sy 20),(.i64,sy 23,sy 24)] (fc (λ_ _ _=>dH (by decide) (hM s.c)) (fc (λ_ _ _=>bX (by exact ap (by omega) (by omega))) (fc (λ_ _ _=>ax rfl) (fc (λ_ _ _=>aM (by first|(simpa using h1)|(simp;omega))) fn)))) fn (fc (bF rfl rfl (by rw[bj];omega)) (fc (bF rfl rfl (by exact ap (by omega) (by omega))) (fc ⟨.i64,_,rfl,rfl⟩ (fc ⟨.u64,_,rfl,rfl⟩ fn)))) s.W0 s.F0 [pG s,wk s,(Jn s x)] [⟨[10,45],[sy 0],none,0,none,sy 18,none⟩,⟨[11,45,45],[sy 0],some (1,1,[sy 24]),1,some 415,.complex .f32 415 0,some 2⟩,⟨[10,45],[.complex .f32 415 0],none,2,none,sy 25,none⟩] [⟨115,[sy 15],0,none,sy 8,none⟩,⟨31,[.agg #[sy 9,sy 2,sy 10,sy 11,sy 12,sy 13],sy 14,sy 21],0,none,sy 22,none⟩,⟨22,[sy 17,sy 22],0,none,sy 23,some 1⟩]) (fc (by exact bT (ci:=2) rfl rfl underlying45 i2 rfl rfl) (fc (by exact eG (ci:=2) (m:=1) (cs:=[(iz (IntKind.i64.wrap (x)))]) rfl rfl rfl underlying45 underlying45 i1 i2 (by omega) i3 (by rw[i2];rfl) (by rw[i4];omega) (by omega) rfl rfl (ak (by kernel_rfl) (by kernel_rfl))) (fc (by exact r6 (ci:=2) rfl rfl underlying45 i2 rfl) fn))) (fc (pc (args:=[uz s.w]) rfl (λw hb=>bN (v9 _ s.hw w))) (fc (pc (args:=[Jg s,iN s.p,(wz (IntKind.u32.wrap ((cq (s.w))+(IntKind.u32.wrap (((s.ts.length:Nat):Int)-((s.c.q / 2:Nat):Int))))))]) rfl (λw hb=>pE s.c s.p s.hp (IntKind.u32.wrap ((cq (s.w))+(IntKind.u32.wrap (((s.ts.length:Nat):Int)-((s.c.q / 2:Nat):Int))))) (by first | exact(fq _).1 | exact iL _) w)) (fc (cc rfl [aj s.bm s.m.tick] [0] [1,2] (λw F ho hn hF=>cj hn hxa (oC hxa (by omega)))) fn))) rfl [(4,s.bp)] Jm [(4,[sy 9,sy 2,sy 10,sy 11,sy 12,sy 13,sy 14,iz 4,sy 15,sy 16,sy 6,.complex .f32 415 0,sy 1],124)] 2 rfl rfl pF (.bool false)).conv (λκ w=>⟨(λ_ h=>h),(λ_ h=>h),(λ_ h=>aS (a:=λv=>aD 3 1 v (s.ts.length+1) ((aO s.ts)++[(iz (IntKind.i64.wrap (x)))])) (λ_ _ _ _ _ h=>h) h),(λ_ h=>h),trivial⟩)
theorem WV(s:SP)(x:Int)(hxu:c7 x)(hxa:s.m.cells[s.c.word s.p]? = some x)(hc:x≠s.w):aK prog 100 [] 0 20 ⟨s.W0,s.F0⟩ (pH s) (Jq s) (λκ:ag=>(.bool false)) (λκ:ag=>(Jl s)):=(bU (c:=⟨s.W0,s.F0⟩) 5 (kn [s.tk,s.hd,iN (s.c.q),iN (s.c.q / 2),wN (s.c.q / 2),wN (s.c.q),iz (s.gg),uz (s.gg),wz (cq (s.w)),iN (s.c.n),iz (s.c.g),iz (s.c.m),iz (s.c.t),iz (s.c.s),iN (s.p),uz (s.w),wz (s.k),pz s.bm,uz (gF s.w (-((s.c.q / 2:Nat):Int))),iN (s.c.word s.p)] (fc s.cx (fc s.cQ fr)) [(.quo,sy 2,iz 2,sy 3)] [] [(.u32,sy 3,sy 4)] (fc (λ_ _ _=>dH (by decide) (hM s.c)) fn) fn (fc (bF rfl rfl (by have q2:=s.c.qb;rw[bj];omega)) fn) s.W0 s.F0 [pG s,wk s] [] [⟨113,[sy 15,sy 4],0,none,sy 18,none⟩,⟨5,[.agg #[sy 9,sy 2,sy 10,sy 11,sy 12,sy 13],sy 14],0,none,sy 19,none⟩,⟨116,[sy 17,sy 19,sy 15,sy 18],0,none,.bool false,some 1⟩]) fn (fc (pc (args:=[uz s.w,wN (s.c.q / 2)]) rfl (λw hb=>bN (Oy _ _ s.hw w))) (fc (pc rfl (λw hb=>dD s.c s.p s.hp w)) (fc (cc rfl [aj s.bm s.m.tick] [0] [1,2] (λw F ho hn hF=>Ez hn hxa (by have q0:=s.c.z s.hp;have q6:=s.hl;have q8:=s.hg;have q9:=s.hts;omega) s.w (gF s.w (-((s.c.q / 2:Nat):Int))) hc)) fn))) rfl [(4,s.bp)] Jp EP 1 rfl rfl pF (.bool false))
theorem WW(s:SP)(x:Int)(hxu:c7 x)(hxa:s.m.cells[s.c.word s.p]? = some x)(hc:x=s.w):aK prog 100 [] 0 20 ⟨s.W0,s.F0⟩ (pH s) (Jq s) (λκ:ag=>(.bool true)) (λκ:ag=>[aH s.bp [iN s.c.n,iN s.c.q,iz s.c.g,iz s.c.m,iz s.c.t,iz s.c.s,iN s.p,iz 0,uz s.w,wz s.k,iz s.gg,s.tk,dv κ 415] 124,C9 s,aD 3 1 (dv κ 415) (s.ts.length+1) ((aO s.ts)++[iz s.gg]),fP s]):=by have q0:=s.c.z s.hp;have q6:=s.hl;have q8:=s.hg;have q9:=s.hts;exact(bU (c:=⟨s.W0,s.F0⟩) 5 (kn [s.tk,s.hd,iN (s.c.q),iN (s.c.q / 2),wN (s.c.q / 2),wN (s.c.q),iz (s.gg),uz (s.gg),wz (cq (s.w)),iN (s.c.n),iz (s.c.g),iz (s.c.m),iz (s.c.t),iz (s.c.s),iN (s.p),uz (s.w),wz (s.k),pz s.bm,uz (gF s.w (-((s.c.q / 2:Nat):Int))),iN (s.c.word s.p)] (fc s.cx (fc s.cQ fr)) [(.quo,sy 2,iz 2,sy 3)] [] [(.u32,sy 3,sy 4)] (fc (λ_ _ _=>dH (by decide) (hM s.c)) fn) fn (fc (bF rfl rfl (by have q2:=s.c.qb;rw[bj];omega)) fn) s.W0 s.F0 [pG s,[C9 s,jq s,fP s],[C9 s,bP 415 (λv=>aD 3 1 v (s.ts.length+1) ((aO s.ts)++[iz s.gg])),fP s]] [⟨[11,45,45],[sy 0],some (1,1,[sy 6]),1,some 415,.complex .f32 415 0,some 2⟩] [⟨113,[sy 15,sy 4],0,none,sy 18,none⟩,⟨5,[.agg #[sy 9,sy 2,sy 10,sy 11,sy 12,sy 13],sy 14],0,none,sy 19,none⟩,⟨116,[sy 17,sy 19,sy 15,sy 18],0,none,.bool true,some 1⟩]) (fc (by obtain⟨i,i1,i2,i3,i4⟩:=b0;exact eG (ci:=2) (m:=1) (cs:=[iz s.gg]) rfl rfl rfl underlying45 underlying45 i1 i2 (by omega) i3 (by rw[i2];rfl) (by rw[i4];omega) (by omega) rfl rfl (ak (by kernel_rfl) (by kernel_rfl))) fn) (fc (pc (args:=[uz s.w,wN (s.c.q / 2)]) rfl (λw hb=>bN (Oy _ _ s.hw w))) (fc (pc rfl (λw hb=>dD s.c s.p s.hp w)) (fc (cc rfl [aj s.bm (s.m.put (s.c.word s.p) (gF s.w (-((s.c.q / 2:Nat):Int))))] [0] [1,2] (λw F ho hn hF=>Bg hn hxa (by omega) s.w (gF s.w (-((s.c.q / 2:Nat):Int))) hc)) fn))) rfl [(4,s.bp)] Jp [(4,[sy 9,sy 2,sy 10,sy 11,sy 12,sy 13,sy 14,iz 0,sy 15,sy 16,sy 6,sy 0,.complex .f32 415 0],124)] 2 rfl rfl pF (.bool true)).conv (λκ w=>⟨(λ_ h=>h),(λ_ h=>h),(λ_ h=>aS (a:=λv=>aD 3 1 v (s.ts.length+1) ((aO s.ts)++[iz s.gg])) (λ_ _ _ _ _ h=>h) h),(λ_ h=>h),trivial⟩)
end Go.Proofs.YtbcnbofkgkheeaaGreat
namespace Go.Proofs.YtbcnbofkgkheeaaGreat
open Go.Ev Go.Proofs.Tryz
open Go.RowKit
structure cU where
 st:Nat
 gg:Int
 w:Int
 ts:List Int
 hs:List Int
def ld(m:aG)(a:Nat):Int:=m.cells.getD a 0
def za(c:aT)(w:Int)(n:Nat):Int:=(cq w-((c.q / 2:Nat):Int)+(n:Int))%4294967296
def af(c:aT)(p:Nat)(x:cU)(m:aG):cU×aG :=
 match x.st with
 | 1=>(⟨if (c.q:Int)<=cu (ld m (c.word p)) then 4 else 2,x.gg,ld m (c.word p),[],x.hs⟩,m.tick)
 | 2=>(⟨3,x.gg,x.w,x.ts,x.hs⟩,m.put (c.slot p (cq x.w)) x.gg)
 | 3=>if ld m (c.word p)=x.w then (⟨0,x.gg,x.w,x.ts,[]⟩,m.put (c.word p) (gF x.w 1)) else (⟨1,x.gg,x.w,x.ts,x.hs⟩,m.tick)
 | 4=>(⟨if x.ts.length+1=c.q / 2 then 5 else 4,x.gg,x.w,x.ts++[IntKind.i64.wrap (ld m (c.slot p (za c x.w x.ts.length)))],x.hs⟩,m.tick)
 | 5=>if ld m (c.word p)=x.w then (⟨0,x.gg,x.w,x.ts,x.ts++[x.gg]⟩,m.put (c.word p) (gF x.w (-((c.q / 2:Nat):Int)))) else (⟨1,x.gg,x.w,x.ts,x.hs⟩,m.tick)
 | _=>(x,m)
structure eC(c:aT)(x:cU):Prop where
 st:x.st<=5
 gg:x.st≠0->0<=x.gg/\x.gg<=9223372036854775807
 w:c7 x.w
 ts:x.ts.length<=c.q / 2
 t4:x.st=4->x.ts.length<c.q / 2
 hs:x.hs.length<=64
structure bC(c:aT)(m:aG):Prop where
 len:m.cells.length=4+c.off c.n
 u:∀ x ∈ m.cells,c7 x
theorem bC.en{c:aT}{m:aG}(h:bC c m){p:Nat}(hp:p<c.n):c.word p<m.cells.length:=by
 have:=c.ft hp;have:=h.len;unfold aT.word;omega
theorem bC.lt_next{c:aT}{m:aG}(h:bC c m){p:Nat}(hp:p<c.n):c.word p+1<m.cells.length:=by
 have:=c.ft hp;have:=h.len;unfold aT.word;omega
theorem bC.lB{c:aT}{m:aG}(h:bC c m){p:Nat}(hp:p<c.n)(i:Int):c.slot p i<m.cells.length:=by
 have:=c.ft hp;have:=h.len;have:=c.mD i;unfold aT.slot;omega
theorem bC.get{c:aT}{m:aG}(h:bC c m){a:Nat}(ha:a<m.cells.length):m.cells[a]? = some (ld m a)/\c7 (ld m a):=by
 unfold ld;rw[List.getD_eq_getElem?_getD,List.getElem?_eq_getElem ha];exact⟨rfl,h.u _ (List.getElem_mem ha)⟩
theorem bC.tick{c:aT}{m:aG}(h:bC c m):bC c m.tick:=⟨h.len,h.u⟩
theorem bC.put{c:aT}{m:aG}(h:bC c m)(a:Nat){v:Int}(hv:c7 v):bC c (m.put a v) :=
 ⟨by simp only[aG.put,List.length_set];exact h.len,λx hx=>by
  rcases List.mem_or_eq_of_mem_set hx with hx | rfl
  ·exact h.u x hx
  ·exact hv⟩
theorem OD{x:Int}(h:c7 x)(d:Int):c7 (gF x d):=by
 have h1:=lx h;unfold gF eB c7;omega
theorem bC.big{c:aT}{m:aG}(h:bC c m):m.cells.length<=564:=by
 have:=c.gL;have:=h.len;omega
theorem C_{c:aT}{p:Nat}(hp:p<c.n){x:cU}{m:aG}(hx:eC c x)(hm:bC c m):eC c (af c p x m).1/\bC c (af c p x m).2:=by
 have hq:=c.qb;have hw:=hm.get (hm.en hp);obtain⟨st,gg,w,ts,hs⟩:=x;have h1:st<=5:=hx.st;have h2:st≠0->0<=gg/\gg<=9223372036854775807:=hx.gg;have h3:c7 w:=hx.w;have h4:ts.length<=c.q / 2:=hx.ts;have h5:st=4->ts.length<c.q / 2:=hx.t4;have h6:hs.length<=64:=hx.hs
 match st,h1 with
 | 0,_=>exact⟨hx,hm⟩
 | 1,_ =>
  refine⟨⟨?_,λ_=>h2 (by decide),hw.2,Nat.zero_le _,λ_=>?_,h6⟩,hm.tick⟩
  ·show(if (c.q:Int)<=cu (ld m (c.word p)) then 4 else 2)<=5
   split<;>decide
  ·show 0<c.q / 2
   omega
 | 2,_=>exact⟨⟨show 3<=5 by decide,λ_=>h2 (by decide),h3,h4,λh=>(by cases h),h6⟩,hm.put _ (show c7 gg by have:=h2 (by decide);unfold c7;omega)⟩
 | 3,_ =>
  unfold af;simp only
  split
  ·exact⟨⟨show 0<=5 by decide,λh=>absurd rfl h,h3,h4,λh=>(by cases h),Nat.zero_le _⟩,hm.put _ (OD h3 _)⟩
  ·exact⟨⟨show 1<=5 by decide,λ_=>h2 (by decide),h3,h4,λh=>(by cases h),h6⟩,hm.tick⟩
 | 4,_ =>
  have:=h5 rfl;refine⟨⟨?_,λ_=>h2 (by decide),h3,by show(ts++[_]).length<=_;rw[List.length_append];exact this,λh=>?_,h6⟩,hm.tick⟩
  ·show(if ts.length+1=c.q / 2 then 5 else 4)<=5
   split<;>decide
  ·replace h:(if ts.length+1=c.q / 2 then 5 else 4)=4:=h
   show(ts++[_]).length<c.q / 2;rw[List.length_append]
   split at h
   ·cases h
   ·show ts.length+1<c.q / 2
    omega
 | 5,_ =>
  unfold af;simp only
  split
  ·exact⟨⟨show 0<=5 by decide,λh=>absurd rfl h,h3,h4,λh=>(by cases h),by show(ts++[gg]).length<=64;rw[List.length_append];simp;omega⟩,hm.put _ (OD h3 _)⟩
  ·exact⟨⟨show 1<=5 by decide,λ_=>h2 (by decide),h3,h4,λh=>(by cases h),h6⟩,hm.tick⟩
theorem Nn(c:aT)(w:Int)(n:Nat):IntKind.u32.wrap (IntKind.u32.wrap (cq w-((c.q / 2:Nat):Int))+(n:Int))=za c w n:=by
 rw[bj,bj];unfold za;omega
theorem Jr(c:aT)(w:Int)(n:Nat):IntKind.u32.wrap (cq w+IntKind.u32.wrap ((n:Int)-((c.q / 2:Nat):Int)))=za c w n:=by
 rw[bj,bj];unfold za;omega
end Go.Proofs.YtbcnbofkgkheeaaGreat
namespace Go.Proofs.YtbcnbofkgkheeaaGreat
open Go.Ev Go.Proofs.Tryz
open Go.RowKit
open Go.Ev (sy)
set_option maxRecDepth 8000
def vz(c:aT)(p bp:Nat)(x:cU)(k:Int)(tk hd:Value):aC:=aH bp [.int .i64 (c.n:Int),.int .i64 (c.q:Int),.int .i64 c.g,.int .i64 c.m,.int .i64 c.t,.int .i64 c.s,.int .i64 (p:Int),.int .i64 (x.st:Int),.int .u64 x.w,.int .u32 k,.int .i64 x.gg,tk,hd] 124
def aw(v:Value)(xs:List Int):aC:=aD 3 1 v xs.length (aO xs)
def Js(c:aT)(p bp:Nat)(x:cU)(e:Int×Value×Value):List aC:=vz c p bp x e.1 e.2.1 e.2.2::aw e.2.2 x.hs::(if x.st=0 then [] else [aw e.2.1 x.ts])
def cz(c:aT)(p bp:Nat)(x:cU):aC:=Me (λe:Int×Value×Value=>ai e.2.1=true) (λe=>b_ (Js c p bp x e))
section
variable{c:aT}{p bp:Nat}{x:cU}{k:Int}{tk hd:Value}{ctx:fQ}{w:World}{l:List aC}
theorem dT(h0:x.st≠0)(cx:ai tk=true)(h:ah ctx (vz c p bp x k tk hd::aw hd x.hs::aw tk x.ts::l) w):ah ctx (cz c p bp x::l) w:=by
 refine ah.vu (k,tk,hd) cx (ah.shut ?_);simp only[Js,if_neg h0];exact h
theorem gG(h0:x.st=0)(cx:ai tk=true)(h:ah ctx (vz c p bp x k tk hd::aw hd x.hs::l) w):ah ctx (cz c p bp x::l) w:=by
 refine ah.vu (k,tk,hd) cx (ah.shut ?_);simp only[Js,if_pos h0];exact h
theorem t_(h0:x.st≠0)(h:ah ctx (cz c p bp x::l) w):∃ k tk hd,ai tk=true/\ai hd=true/\ah ctx (vz c p bp x k tk hd::aw hd x.hs::aw tk x.ts::l) w:=by
 obtain⟨⟨k,tk,hd⟩,cx,hh⟩:=h.vt;have h2:=hh.open;simp only[Js,if_neg h0]at h2;refine⟨k,tk,hd,cx,?_,h2⟩;obtain⟨F,n1,n2,n3⟩:=h2.ex;exact t9 n1 (i:=1) rfl
theorem wl(h0:x.st=0)(h:ah ctx (cz c p bp x::l) w):∃ k tk hd,ai tk=true/\ai hd=true/\ah ctx (vz c p bp x k tk hd::aw hd x.hs::l) w:=by
 obtain⟨⟨k,tk,hd⟩,cx,hh⟩:=h.vt;have h2:=hh.open;simp only[Js,if_pos h0]at h2;refine⟨k,tk,hd,cx,?_,h2⟩;obtain⟨F,n1,n2,n3⟩:=h2.ex;exact t9 n1 (i:=1) rfl
end
theorem Gx(ts:List Int)(v:Int):aO (ts++[v])=aO ts++[.int .i64 v]:=by simp[aO]
theorem ua(v:Value)(ts:List Int)(x:Int):aw v (ts++[x])=aD 3 1 v (ts.length+1) (aO ts++[.int .i64 x]):=by
 unfold aw;rw[Gx,List.length_append];rfl
theorem Bv{w:World}{F:Nat->Prop}{c:aT}{p:Nat}(hp:p<c.n){x:cU}(hx:eC c x)(h0:x.st≠0){m:aG}(hm:bC c m){bp bm:Nat}(h:bI [cz c p bp x,aj bm m] F w) :
  Calls prog 100 #[.pointer (some ⟨bp,0,none⟩),.pointer (some ⟨bm,0,none⟩)] w λe w'=>e=.returned (.bool (decide ((af c p x m).1.st=0)))/\ah ⟨w,F⟩ [cz c p bp (af c p x m).1,aj bm (af c p x m).2] w':=by
 obtain⟨k,tk,hd,cx,cQ,hh⟩:=t_ h0 (ah.start h);obtain⟨F',n1,n2,n3⟩:=(hh.sel [0,3,2,1]).ex;have hw:=hm.get (hm.en hp);obtain⟨st,gg,ww,ts,hs⟩:=x;have hgg:=hx.gg h0
 let s:SP:=⟨w,F',c,p,hp,gg,hgg,ww,hx.w,k,bp,bm,m,tk,hd,cx,cQ,ts,hs,hm.len,by have:=hx.ts;have:=c.qb;show ts.length<=64;have e:ts.length<=c.q / 2:=hx.ts;omega⟩
 have into:∀ {l:List aC} {w1:World},ah ⟨w,F'⟩ l w1->ah ⟨w,F⟩ l w1:=λhh=>hh.into (l:=[]) n2 n3
 match st,hx.st with
 | 0,_=>exact absurd rfl h0
 | 1,_ =>
  by_cases hq:(c.q:Int)<=cu (ld m (c.word p))
  ·rw[show af c p ⟨1,gg,ww,ts,hs⟩ m=(⟨4,gg,ld m (c.word p),[],hs⟩,m.tick) by simp only[af,if_pos hq]]
   refine aB (WP s _ hw.2 hw.1 hq) (by kernel_rfl) n1 (by simp) (by simp[s]) (λκ w1 h1=>⟨rfl,?_⟩);exact dT (k:=0) (tk:=.slice none 0 0) (hd:=hd) (Nat.succ_ne_zero _) rfl (((into h1).cJ (e := 3) (sz:=1)).sel [1,4,0,2])
  ·rw[show af c p ⟨1,gg,ww,ts,hs⟩ m=(⟨2,gg,ld m (c.word p),[],hs⟩,m.tick) by simp only[af,if_neg hq]]
   refine aB (pub s _ hw.2 hw.1 hq) (by kernel_rfl) n1 (by simp) (by simp[s]) (λκ w1 h1=>⟨rfl,?_⟩);exact dT (k:=0) (tk:=.slice none 0 0) (hd:=hd) (Nat.succ_ne_zero _) rfl (((into h1).cJ (e := 3) (sz:=1)).sel [1,4,0,2])
 | 2,_ =>
  refine aB (WQ s (hm.lB hp _)) (by kernel_rfl) n1 (by simp) (by simp[s]) (λκ w1 h1=>⟨rfl,?_⟩);exact dT (k:=k) (tk:=tk) (hd:=hd) (Nat.succ_ne_zero _) cx ((into h1).sel [0,3,2,1])
 | 3,_ =>
  by_cases hc:ld m (c.word p)=ww
  ·rw[show af c p ⟨3,gg,ww,ts,hs⟩ m=(⟨0,gg,ww,ts,[]⟩,m.put (c.word p) (gF ww 1)) by simp only[af,if_pos hc]]
   refine aB (WS s _ hw.2 hw.1 hc) (by kernel_rfl) n1 (by simp) (by simp[s]) (λκ w1 h1=>⟨rfl,?_⟩);exact gG (k:=k) (tk:=tk) (hd:=.slice none 0 0) rfl cx (((into h1).cJ (e := 3) (sz:=1)).sel [1,0,2])
  ·rw[show af c p ⟨3,gg,ww,ts,hs⟩ m=(⟨1,gg,ww,ts,hs⟩,m.tick) by simp only[af,if_neg hc]]
   refine aB (WR s _ hw.2 hw.1 hc) (by kernel_rfl) n1 (by simp) (by simp[s]) (λκ w1 h1=>⟨rfl,?_⟩);exact dT (k:=k) (tk:=tk) (hd:=hd) (Nat.succ_ne_zero _) cx ((into h1).sel [0,3,2,1])
 | 4,_ =>
  have hsl:=hm.get (hm.lB hp (za c ww ts.length));have ha:m.cells[c.slot p s.i4]? = some (ld m (c.slot p (za c ww ts.length))):=by
   rw[show s.i4=za c ww ts.length from Jr c ww ts.length];exact hsl.1
  by_cases hq:ts.length+1=c.q / 2
  ·rw[show af c p ⟨4,gg,ww,ts,hs⟩ m=(⟨5,gg,ww,ts++[IntKind.i64.wrap (ld m (c.slot p (za c ww ts.length)))],hs⟩,m.tick) by simp only[af,if_pos hq]]
   refine aB (WT s _ hsl.2 ha (by show((ts.length+1:Nat):Int)=((c.q / 2:Nat):Int);rw[hq])) (by kernel_rfl) n1 (by simp) (by simp[s]) (λκ w1 h1=>⟨rfl,?_⟩);have h2:=into h1;rw[← ua]at h2;exact dT (k:=k) (hd:=hd) (Nat.succ_ne_zero _) (aN (h2.sel [2])) (h2.sel [0,3,2,1])
  ·rw[show af c p ⟨4,gg,ww,ts,hs⟩ m=(⟨4,gg,ww,ts++[IntKind.i64.wrap (ld m (c.slot p (za c ww ts.length)))],hs⟩,m.tick) by simp only[af,if_neg hq]]
   refine aB (WU s _ hsl.2 ha (by show ¬ ((ts.length+1:Nat):Int)=((c.q / 2:Nat):Int);omega)) (by kernel_rfl) n1 (by simp) (by simp[s]) (λκ w1 h1=>⟨rfl,?_⟩);have h2:=into h1;rw[← ua]at h2;exact dT (k:=k) (hd:=hd) (Nat.succ_ne_zero _) (aN (h2.sel [2])) (h2.sel [0,3,2,1])
 | 5,_ =>
  by_cases hc:ld m (c.word p)=ww
  ·rw[show af c p ⟨5,gg,ww,ts,hs⟩ m=(⟨0,gg,ww,ts,ts++[gg]⟩,m.put (c.word p) (gF ww (-((c.q / 2:Nat):Int)))) by simp only[af,if_pos hc]]
   refine aB (WW s _ hw.2 hw.1 hc) (by kernel_rfl) n1 (by simp) (by simp[s]) (λκ w1 h1=>⟨rfl,?_⟩);have h2:=into h1;rw[← ua]at h2;exact gG (k:=k) (tk:=tk) rfl cx (h2.sel [0,2,1])
  ·rw[show af c p ⟨5,gg,ww,ts,hs⟩ m=(⟨1,gg,ww,ts,hs⟩,m.tick) by simp only[af,if_neg hc]]
   refine aB (WV s _ hw.2 hw.1 hc) (by kernel_rfl) n1 (by simp) (by simp[s]) (λκ w1 h1=>⟨rfl,?_⟩);exact dT (k:=k) (tk:=tk) (hd:=hd) (Nat.succ_ne_zero _) cx ((into h1).sel [0,3,2,1])
end Go.Proofs.YtbcnbofkgkheeaaGreat
