/- Part of a proof: see the last text. -/
import Derived.Test.YtankbefdlbcdnaaZd14
import Derived.Test.YtankbefdlbcdnaaZd20
set_option linter.unusedSectionVars false
set_option linter.unusedSimpArgs false
set_option linter.unusedVariables false
namespace Go.Ev
open Go.RowKit
section
variable{k:Kn}{P:Program}{g g':Nat}{l:List aK}{t e:TypeId}{n sz:Nat}{i:TypeInfo}{z:Value}{xs:List Value}
theorem AO{d1:Nat}{kd kd':IntKind}{x y:Value}(hg:k.gs[g]? = some (star l))(hg':k.gs[g']? = some (star (l++[ce d1 (λv=>aO e sz v n xs)])))(hx:oC k x (.int kd (n:Int)))(hy:oC k y (.int kd' (n:Int)))(ht:P.underlying t=some (.slice e))(cZ:P.info? e=some i)(hsz:i.size=sz)(hz:i.zero=some z)(hm:(madeCells z.cells (n*sz)).toList=xs)(hb:i.bytes*n<=281474976710656)(hn:n<=maxLen):aD k P ⟨[19,t],[x,y],none,g,some d1,.complex .f32 d1 0,some g'⟩:=by
 refine aD.make ?_;letI:aL:=k.sig;intro ι F w d x' y' q H5 EZ;obtain rfl:=q.name d1 rfl;obtain⟨b,q1,q2⟩:=q.st;rw[hg]at q1;cases q1;rw[hx _ _ H5,hy _ _ EZ];obtain⟨w',r1,r2,r3⟩:=run_make_full (P:=P) w w.heap.size t e i z sz ht cZ hz hsz kd kd' n hb hn (Nat.le_refl _);have hsl:dG e sz (.slice (some ⟨w.heap.size,0,none⟩) n n) n xs (λj=>j=w.heap.size) w':=by
  obtain⟨s1,s2⟩:=r2;rw[hm]at s1 s2;rcases s2 with ⟨h,_⟩ | ⟨gb,cap,cur,hv,hb',hh,c1,c2,c3,c4⟩
  ·cases h
  ·cases hv
   refine⟨s1,.inr ⟨w.heap.size,0,n,cur,rfl,λ_=>Iff.rfl,hh,λj hj=>?_,by omega,Nat.le_refl _⟩⟩;rw[← c4,Nat.zero_add,List.getElem?_take_of_lt hj];simp
 obtain⟨cc,hcc⟩:=hsl.code;have hup:(ι.upd d1 cc) d1=some cc:=by simp[ag.upd]
 exact⟨_,w',r1,grow_end hg' q2 q.lt (bU q) cc ⟨cc,hup,by rw[hcc];exact hsl⟩ (vC r3) (λj hj=>⟨hsl.lt j hj,by rw[hj];exact Nat.le_refl _⟩) (.dyn d1 cc _ hup hcc)⟩
end
end Go.Ev
namespace Go.Proofs.Ytankbefdlbcdnaa
open Go.Ev Go.Proofs.Try
open Go.RowKit
open Go.Ev (sy iz uz wz iN uN wN pz dv fc fn ak vk vd kn pc cc cr cm cd fr)
set_option maxRecDepth 8000
attribute [local irreducible] dF
structure NQ where
 W0:World
 F0:Nat->Prop
 n:Nat
 b:Nat
 c:Nat
 h:n<=12/\b<256/\c<=2
theorem NQ.z(q:NQ):q.n<=12/\q.b<256/\q.c<=2:=q.h
theorem Dp{b:Nat}(h:b<256):IntKind.i64.wrap ((b:Int).tdiv 8)=((b / 8:Nat):Int):=by
 rw[show(b:Int).tdiv 8=((b / 8:Nat):Int) from rfl];exact aM (by omega) (by omega)
theorem NJ(q:NQ):aI prog 13 [] 0 11 ⟨q.W0,q.F0⟩ [(0,(.int .u8 ((q.b:Nat):Int)))] [] (λκ:ag=>(.agg #[iN (q.b%8),iN (q.b / 8%4)])) (λκ:ag=>[]):=by have z:=q.z;exact(br (c:=⟨q.W0,q.F0⟩) 10 (kn [.int .u8 ((q.b:Nat):Int),iN (q.b),iN (q.b%8),iN (q.b / 8),iN (q.b / 8%4)] fr [(.rem,sy 1,iz 8,sy 2),(.quo,sy 1,iz 8,sy 3),(.rem,sy 3,iz 4,sy 4)] [] [(.i64,sy 0,sy 1)] (fc (λ_ _ _=>g9 (by decide) rfl) (fc (λ_ _ _=>HL (by decide) (Dp q.z.2.1)) (fc (λ_ _ _=>g9 (by decide) rfl) fn))) fn (fc (y6 rfl rfl (aM (by omega) (by omega))) fn) q.W0 q.F0 [[]] [] []) fn fn rfl [] [] [] 0 rfl rfl [(0,sy 0)] (.agg #[sy 2,sy 4]))
theorem NK(q:NQ):aI prog 7 [] 0 44 ⟨q.W0,q.F0⟩ [(0,iz 4),(1,iN q.c)] [] (λκ:ag=>(.tuple #[(pz ((κ 404).getD 0)),iz 0])) (λκ:ag=>[bv ((κ 404).getD 0) ((.map none)::(iz 0)::(iz 0)::(iN q.c)::(.map none)::(iz 0)::(iz 0)::(iN q.c)::(.map none)::(iz 0)::(iz 0)::(iN q.c)::(.map none)::(iz 0)::(iz 0)::(iN q.c)::(.map none)::(iz 0)::(iz 0)::(iz 0)::(.map none)::(iz 0)::(iz 0)::(iz 0)::(.map none)::(iz 0)::(iz 0)::(iz 0)::(.map none)::(iz 0)::(iz 0)::(iz 0)::(.map none)::(iz 0)::(iz 0)::(iz 0)::(.map none)::(iz 0)::(iz 0)::(iz 0)::(.map none)::(iz 0)::(iz 0)::(iz 0)::(.map none)::(iz 0)::(iz 0)::(iz 0)::(.map none)::(iz 0)::(iz 0)::(iz 0)::(.map none)::(iz 0)::(iz 0)::(iz 0)::(.map none)::(iz 0)::(iz 0)::(iz 0)::(.map none)::(iz 0)::(iz 0)::(iz 0)::(iz 4)::(dv κ 403)::[]) 79,jM prog 3 3 (dv κ 403) 0 (λ_=>none)]):=by have z:=q.z;exact(br (c:=⟨q.W0,q.F0⟩) 20 (kn [iN (q.c)] fr [(.lss,sy 0,iz 0,.bool false),(.gtr,sy 0,iz 1073741824,.bool false)] [] [] (fc (λ_ _ _=>ax (by first|(simp;done)|(simp;omega))) (fc (λ_ _ _=>bJ (by first|(simp;done)|(simp;omega))) fn)) fn fn q.W0 q.F0 [[],[ce 403 (λv=>jM prog 3 3 v 0 (λ_=>none))]] [⟨[18,71],[],none,0,some 403,.complex .f32 403 0,some 1⟩] []) (fc (sZ rfl rfl) fn) fn rfl [] [] [(404,(.map none::.int .i64 0::.int .i64 0::sy 0::.map none::.int .i64 0::.int .i64 0::sy 0::.map none::.int .i64 0::.int .i64 0::sy 0::.map none::.int .i64 0::.int .i64 0::sy 0::.map none::.int .i64 0::.int .i64 0::.int .i64 0::.map none::.int .i64 0::.int .i64 0::.int .i64 0::.map none::.int .i64 0::.int .i64 0::.int .i64 0::.map none::.int .i64 0::.int .i64 0::.int .i64 0::.map none::.int .i64 0::.int .i64 0::.int .i64 0::.map none::.int .i64 0::.int .i64 0::.int .i64 0::.map none::.int .i64 0::.int .i64 0::.int .i64 0::.map none::.int .i64 0::.int .i64 0::.int .i64 0::.map none::.int .i64 0::.int .i64 0::.int .i64 0::.map none::.int .i64 0::.int .i64 0::.int .i64 0::.map none::.int .i64 0::.int .i64 0::.int .i64 0::.map none::.int .i64 0::.int .i64 0::.int .i64 0::.int .i64 4::.complex .f32 403 0::[]),79)] 1 rfl rfl [(0,iz 4),(1,sy 0)] (.tuple #[.pointer (some ⟨404,0,none⟩),iz 0])).conv (λκ w=>⟨(λ_ h=>h),(λ_ h=>bN (a:=λv=>jM prog 3 3 v 0 (λ_=>none)) (λ_ _ _ _ _ h=>h) h),trivial⟩)
def zG(n:Nat):List (Int×Int):=List.replicate n (0,0)
theorem Dq(n:Nat)(h:n<=12):(madeCells (Value.agg #[.int .i64 0,.int .i64 0]).cells (n*2)).toList=mQ (zG n) :=
 match n,h with
 | 0,_=>by kernel_rfl
 | 1,_=>by kernel_rfl
 | 2,_=>by kernel_rfl
 | 3,_=>by kernel_rfl
 | 4,_=>by kernel_rfl
 | 5,_=>by kernel_rfl
 | 6,_=>by kernel_rfl
 | 7,_=>by kernel_rfl
 | 8,_=>by kernel_rfl
 | 9,_=>by kernel_rfl
 | 10,_=>by kernel_rfl
 | 11,_=>by kernel_rfl
 | 12,_=>by kernel_rfl
abbrev jg:List g_:=[(4,[sy 0,sy 1],83)]
abbrev pQ:List (Nat×Value):=[(3,.pointer (some ⟨4,0,none⟩)),(15,sy 2),(16,sy 3)]
abbrev tw(q:NQ)(av:Value):aK:=aO 87 2 (av) (q.n) (mQ (zG q.n))
abbrev pR(q:NQ)(av:Value)(fv:Value)(fs:List Int):List aK:=[(tw q av),aO 3 1 (fv) (fs.length) (aB fs)]
abbrev lH(q:NQ)(b3:Nat)(ix:Nat):List (Nat×Value):=[(3,pz b3),(15,iN q.n),(16,iN ix)]
abbrev jh(q:NQ)(b3:Nat)(av:Value)(fv:Value)(fs:List Int):List aK:=[bv b3 [av,fv] 83,(tw q av),aO 3 1 (fv) (fs.length) (aB fs)]
theorem NL(q:NQ):dH prog 8 [] 0 3 38 ⟨q.W0,q.F0⟩ [(0,iN q.n)] [] .normal (λκ:ag=>[(3,(pz ((κ 404).getD 0))),(15,(iN ((q.n)))),(16,iz 0)]) (λκ:ag=>[bv ((κ 404).getD 0) [dv κ 403,.slice none 0 0] 83,aO 87 2 (dv κ 403) (q.n) (mQ (zG (q.n)))]):=by have z:=q.z;obtain⟨i,i1,i2,i3,i4⟩:=eI;exact(tr (c:=⟨q.W0,q.F0⟩) (kn [iN (q.n),iN ((q.n))] fr [] [] [] fn fn fn q.W0 q.F0 [[],[ce 403 (λv=>aO 87 2 v (q.n) (mQ (zG (q.n))))]] [⟨[16,3,3],[sy 0,iz 256],none,0,none,sy 0,none⟩,⟨[17,3,3],[iz 0,sy 0],none,0,none,sy 0,none⟩,⟨[19,81],[sy 0,sy 0],none,0,some 403,.complex .f32 403 0,some 1⟩,⟨[10,81],[.complex .f32 403 0],none,1,none,sy 1,none⟩] []) (fc (by exact FH (kd:=.i64) (a:=(q.n:Int)) (b:=256) (cu rfl) dM (by show Value.int .i64 _=Value.int .i64 _;refine congrArg _ ?_;omega)) (fc (by exact FI (kd:=.i64) (a:=0) (b:=(q.n:Int)) dM (cu rfl) (by show Value.int .i64 _=Value.int .i64 _;refine congrArg _ ?_;omega)) (fc (by exact AO (sz:=2) (xs:=mQ (zG (q.n))) rfl rfl (cu rfl) (cu rfl) underlying81 i1 i2 i3 (Dq _ (by omega)) (by rw[i4];omega) (by unfold maxLen;omega)) (fc (by exact zh (ci:=1) rfl rfl underlying81 i2 rfl) fn)))) fn rfl [] [] [(404,[.complex .f32 403 0,.slice none 0 0],83)] 1 rfl rfl [(0,sy 0)] [(3,.pointer (some ⟨404,0,none⟩)),(15,sy 1),(16,iz 0)] .normal).conv (λκ w=>⟨(λ_ h=>h),(λ_ h=>bN (a:=λv=>aO 87 2 v (q.n) (mQ (zG (q.n)))) (λ_ _ _ _ _ h=>h) h),trivial⟩)
theorem NM(q:NQ)(b3:Nat)(av:Value)(fh:aR av=true)(fv:Value)(fC:aR fv=true)(fs:List Int)(hfr:fs.length<=12)(ix:Nat)(hi:ix<q.n):dH prog 8 [6,0] 0 2 38 ⟨q.W0,q.F0⟩ (lH q b3 ix) (jh q b3 av fv fs) .normal (λκ:ag=>(lH q b3 ix)) (λκ:ag=>(jh q b3 av fv fs)):=(tr (c:=⟨q.W0,q.F0⟩) (kn [av,fv,iN (q.n),iN (ix)] (fc (by assumption) (fc (by assumption) fr)) [(.lss,sy 3,sy 2,.bool true)] [] [] (fc (λ_ _ _=>ax (by have z:=q.z;first|(simp;done)|(simp;omega))) fn) fn fn q.W0 q.F0 [(pR q av fv fs)] [] []) fn fn rfl [(4,b3)] jg jg 0 rfl rfl pQ pQ .normal)
theorem NN(q:NQ)(b3:Nat)(av:Value)(fh:aR av=true)(fv:Value)(fC:aR fv=true)(fs:List Int)(hfr:fs.length<=12)(ix:Nat)(hi:¬ ix<q.n):dH prog 8 [6,0] 0 2 38 ⟨q.W0,q.F0⟩ (lH q b3 ix) (jh q b3 av fv fs) (.exit 0) (λκ:ag=>(lH q b3 ix)) (λκ:ag=>(jh q b3 av fv fs)):=(tr (c:=⟨q.W0,q.F0⟩) (kn [av,fv,iN (q.n),iN (ix)] (fc (by assumption) (fc (by assumption) fr)) [(.lss,sy 3,sy 2,.bool false)] [] [] (fc (λ_ _ _=>ax (by have z:=q.z;first|(simp;done)|(simp;omega))) fn) fn fn q.W0 q.F0 [(pR q av fv fs)] [] []) fn fn rfl [(4,b3)] jg jg 0 rfl rfl pQ pQ (.exit 0))
theorem NP(q:NQ)(b3:Nat)(av:Value)(fh:aR av=true)(fv:Value)(fC:aR fv=true)(fs:List Int)(hfr:fs.length<=12)(ix:Nat)(hi:ix<q.n):dH prog 8 [6,0,4] 0 2 38 ⟨q.W0,q.F0⟩ (lH q b3 ix) (jh q b3 av fv fs) .normal (λκ:ag=>(lH q b3 ix)) (λκ:ag=>[bv b3 [av,dv κ 407] 83,(tw q av),aO 3 1 (dv κ 407) (fs.length+1) ((aB fs)++[iN (q.n-1-ix)])]):=by have z:=q.z;exact(tr (c:=⟨q.W0,q.F0⟩) (kn [av,fv,iN (q.n),iN (q.n-1),iN (q.n-1-ix),iN (ix)] (fc (by assumption) (fc (by assumption) fr)) [(.sub,sy 2,iz 1,sy 3),(.sub,sy 3,sy 5,sy 4)] [] [] (fc (λ_ _ _=>jE (by rw[aM (by omega) (by omega)];omega)) (fc (λ_ _ _=>jE (by rw[aM (by omega) (by omega)];omega)) fn)) fn fn q.W0 q.F0 [(pR q av fv fs),[(tw q av),ce 407 (λv=>aO 3 1 v (fs.length+1) ((aB fs)++[iN (q.n-1-ix)]))]] [⟨[10,81],[sy 0],none,0,none,sy 2,none⟩,⟨[11,37,37],[sy 1],some (1,1,[sy 4]),0,some 407,.complex .f32 407 0,some 1⟩] []) (fc (by obtain⟨i,i1,i2,i3,i4⟩:=eI;exact de (ci:=1) rfl rfl underlying81 i2 rfl rfl) (fc (by obtain⟨i,i1,i2,i3,i4⟩:=aT;exact iA (ci:=2) (m:=1) (cs:=[iN (q.n-1-ix)]) rfl rfl rfl underlying37 underlying37 i1 i2 (by omega) i3 (by rw[i2];rfl) (by rw[i4];omega) (by omega) rfl rfl (ak (by kernel_rfl) (by kernel_rfl))) fn)) fn rfl [(4,b3)] jg [(4,[sy 0,.complex .f32 407 0],83)] 1 rfl rfl [(3,.pointer (some ⟨4,0,none⟩)),(15,sy 2),(16,sy 5)] [(3,.pointer (some ⟨4,0,none⟩)),(15,sy 2),(16,sy 5)] .normal).conv (λκ w=>⟨(λ_ h=>h),(λ_ h=>h),(λ_ h=>bN (a:=λv=>aO 3 1 v (fs.length+1) ((aB fs)++[iN (q.n-1-ix)])) (λ_ _ _ _ _ h=>h) h),trivial⟩)
theorem NR(q:NQ)(b3:Nat)(av:Value)(fh:aR av=true)(fv:Value)(fC:aR fv=true)(fs:List Int)(hfr:fs.length<=12)(ix:Nat)(hi:ix<q.n):dH prog 8 [6,0] 3 1 38 ⟨q.W0,q.F0⟩ (lH q b3 ix) (jh q b3 av fv fs) .normal (λκ:ag=>[(3,pz b3),(15,iN q.n),(16,(iN ((ix)+1)))]) (λκ:ag=>(jh q b3 av fv fs)):=(tr (c:=⟨q.W0,q.F0⟩) (kn [av,fv,iN (q.n),iN (ix),iN ((ix)+1)] (fc (by assumption) (fc (by assumption) fr)) [(.add,sy 3,iz 1,sy 4)] [] [] (fc (λ_ _ _=>bM (by have z:=q.z;rw[aM (by omega) (by omega)];omega)) fn) fn fn q.W0 q.F0 [(pR q av fv fs)] [] []) fn fn rfl [(4,b3)] jg jg 0 rfl rfl pQ [(3,.pointer (some ⟨4,0,none⟩)),(15,sy 2),(16,sy 4)] .normal)
theorem NS(q:NQ)(b3:Nat)(av:Value)(fh:aR av=true)(fv:Value)(fC:aR fv=true)(fs:List Int)(hfr:fs.length<=12)(ix:Nat):aI prog 8 [] 4 38 ⟨q.W0,q.F0⟩ [(3,pz b3)] (jh q b3 av fv fs) (λκ:ag=>(pz b3)) (λκ:ag=>(jh q b3 av fv fs)):=(br (c:=⟨q.W0,q.F0⟩) 2 (kn [av,fv] (fc (by assumption) (fc (by assumption) fn)) [] [] [] fn fn fn q.W0 q.F0 [(pR q av fv fs)] [] []) fn fn rfl [(4,b3)] jg jg 0 rfl rfl [(3,.pointer (some ⟨4,0,none⟩))] (.pointer (some ⟨4,0,none⟩)))
structure DQ where
 W0:World
 F0:Nat->Prop
 bt:Nat
 bs:Nat
 t:Tab
 s:Sem
 ht:t.Ok
 hs:s.Ok
 ca:Int
 mo:Int
 k:Nat
 kd:Nat
 j:Nat
 b:Nat
 x:Nat
 xa:Nat
 xb:Nat
 r:List Int
 g:Int
 h:k<4/\kd<8
theorem DQ.z(q:DQ):q.k<4/\q.kd<8/\(q.s.ln q.k).length<=12:=⟨q.h.1,q.h.2,q.hs.len _ q.h.1⟩
theorem DQ.hj(q:DQ)(h:q.t.gs[q.j]? = some (2,q.b)):0<=(q.j:Int)/\(q.j:Int)<4096:=by
 have h1:=(List.getElem?_eq_some_iff.1 h).1;have h2:=q.ht.n;omega
theorem vJ{w:World}{F:Nat->Prop}{bs k:Nat}{s:Sem}(O:s.Ok)(hk:k<s.nn)(h:bu [aQ bs s] F w) :
  Calls prog 15 #[sP bs 0,iN k] w λe w'=>∃ v cd,Ev.dec cd=v/\e=.returned v/\ay ⟨w,F⟩ [fZ v (s.ln k),aQ bs s] w' :=
 (Gc O hk h).mono (λ_ _ ⟨v,cd,h1,h2,h3⟩=>⟨v,cd,h1,h2,h3.sel [1,0]⟩)
abbrev cg(q:DQ):List aK:=[aE q.bt q.t,aQ q.bs q.s]
abbrev n8(q:DQ):Value:=(.agg #[pz q.bt,pz q.bs,iz q.ca,iz q.mo])
abbrev Dr:Value:=(.agg #[iz 0,(.int .i64 (-1))])
abbrev Ds:List (Nat×Value):=[(0,.agg #[sy 0,sy 1,sy 2,sy 3]),(1,.agg #[iz 3,sy 4]),(2,sy 5)]
abbrev Dt(q:DQ):List (Nat×Value):=[(0,n8 q),(1,(.agg #[iz 3,iN q.k])),(2,iN q.j)]
abbrev Du:List (Nat×Value):=[(0,.agg #[sy 0,sy 1,sy 2,sy 3]),(1,.agg #[iz 5,sy 4]),(2,sy 5)]
abbrev Dv(q:DQ):List (Nat×Value):=[(0,n8 q),(1,(.agg #[iz 5,iN q.k])),(2,iN q.j)]
abbrev Dw(q:DQ):aK:=aQ q.bs ({ q.s with ln:=aZ q.s.ln q.k (q.s.ln q.k++[(q.j:Int)]),nw:=q.s.nw+1 })
abbrev Dx(q:DQ):List aK:=[aE q.bt (q.t.set q.j 3),Dw q]
abbrev Dy:List (Nat×Value):=[(0,.agg #[sy 0,sy 1,sy 2,sy 3]),(1,.agg #[iz 7,sy 4]),(2,sy 5)]
abbrev Dz(q:DQ):List (Nat×Value):=[(0,n8 q),(1,(.agg #[iz 7,iN q.k])),(2,iN q.j)]
abbrev xI(q:DQ)(b4:Nat):aK:=bv b4 [pz q.bt,pz q.bs,iz q.ca,iz q.mo] 31
abbrev DA(q:DQ)(v:Value)(b4:Nat)(b6:Nat):List aK:=[(xI q b4),bv b6 [iz 0,iz 0] 41,fZ v (q.s.ln q.k),aQ q.bs q.s,aE q.bt q.t]
abbrev xJ(q:DQ):aK:=aQ q.bs ({ q.s with ln:=aZ q.s.ln q.k q.r })
theorem DB(q:DQ)(hj:q.t.gs[q.j]? = some (2,q.b)):aI prog 12 [] 0 46 ⟨q.W0,q.F0⟩ [(0,n8 q),(1,(.agg #[iz 0,iN q.k])),(2,iN q.j)] (cg q) (λκ:ag=>(.tuple #[Dr,iz 0])) (λκ:ag=>(cg q)):=by have z:=q.z;exact(br (c:=⟨q.W0,q.F0⟩) 60 (kn [pz q.bt,pz q.bs,iz (q.ca),iz (q.mo),iN (q.k),iN (q.j)] fr [(.geq,sy 4,iz 0,.bool true),(.lss,sy 4,iz 4,.bool true)] [] [] (fc (λ_ _ _=>aP (by first|(simp;done)|(simp;omega))) (fc (λ_ _ _=>ax (by first|(simp;done)|(simp;omega))) fn)) fn fn q.W0 q.F0 [cg q,cg q] [] [⟨11,[sy 0,sy 5],0,none,.tuple #[iz 2,.bool true],some 1⟩]) fn (fc (cc rfl [aE q.bt q.t] [0] [1] (λw F ho hn hF=>(bP q.ht hj hn).mono (λ_ _ h=>h))) fn) rfl [] [] [] 1 rfl rfl [(0,.agg #[sy 0,sy 1,sy 2,sy 3]),(1,.agg #[iz 0,sy 4]),(2,sy 5)] (.tuple #[.agg #[iz 0,.int .i64 (-1)],iz 0]))
theorem zn(q:DQ)(hj:q.t.gs[q.j]? = some (2,q.b)):aI prog 12 [] 0 46 ⟨q.W0,q.F0⟩ [(0,n8 q),(1,(.agg #[iz 1,iN q.k])),(2,iN q.j)] (cg q) (λκ:ag=>(.tuple #[(.agg #[iz 1,(.int .i64 (-1))]),iz 0])) (λκ:ag=>(cg q)):=by have z:=q.z;exact(br (c:=⟨q.W0,q.F0⟩) 60 (kn [pz q.bt,pz q.bs,iz (q.ca),iz (q.mo),iN (q.k),iN (q.j)] fr [(.geq,sy 4,iz 0,.bool true),(.lss,sy 4,iz 4,.bool true)] [] [] (fc (λ_ _ _=>aP (by first|(simp;done)|(simp;omega))) (fc (λ_ _ _=>ax (by first|(simp;done)|(simp;omega))) fn)) fn fn q.W0 q.F0 [cg q,cg q] [] [⟨11,[sy 0,sy 5],0,none,.tuple #[iz 2,.bool true],some 1⟩]) fn (fc (cc rfl [aE q.bt q.t] [0] [1] (λw F ho hn hF=>(bP q.ht hj hn).mono (λ_ _ h=>h))) fn) rfl [] [] [] 1 rfl rfl [(0,.agg #[sy 0,sy 1,sy 2,sy 3]),(1,.agg #[iz 1,sy 4]),(2,sy 5)] (.tuple #[.agg #[iz 1,.int .i64 (-1)],iz 0]))
theorem zo(q:DQ)(hj:q.t.gs[q.j]? = some (2,q.b)):aI prog 12 [] 0 46 ⟨q.W0,q.F0⟩ [(0,n8 q),(1,(.agg #[iz 2,iN q.k])),(2,iN q.j)] (cg q) (λκ:ag=>(.tuple #[(.agg #[iz 3,(.int .i64 (-1))]),iz 0])) (λκ:ag=>[aE q.bt (q.t.set q.j 1),aQ q.bs q.s]):=by have z:=q.z;exact(br (c:=⟨q.W0,q.F0⟩) 60 (kn [pz q.bt,pz q.bs,iz (q.ca),iz (q.mo),iN (q.k),iN (q.j)] fr [(.geq,sy 4,iz 0,.bool true),(.lss,sy 4,iz 4,.bool true)] [] [] (fc (λ_ _ _=>aP (by first|(simp;done)|(simp;omega))) (fc (λ_ _ _=>ax (by first|(simp;done)|(simp;omega))) fn)) fn fn q.W0 q.F0 [cg q,cg q,[aE q.bt (q.t.set q.j 1),aQ q.bs q.s]] [] [⟨11,[sy 0,sy 5],0,none,.tuple #[iz 2,.bool true],some 1⟩,⟨10,[sy 0,sy 5,iz 1],1,none,iz 0,some 2⟩]) fn (fc (cc rfl [aE q.bt q.t] [0] [1] (λw F ho hn hF=>(bP q.ht hj hn).mono (λ_ _ h=>h))) (fc (cc rfl [aE q.bt (q.t.set q.j 1)] [0] [1] (λw F ho hn hF=>jf q.ht (by decide) hj rfl hn)) fn)) rfl [] [] [] 2 rfl rfl [(0,.agg #[sy 0,sy 1,sy 2,sy 3]),(1,.agg #[iz 2,sy 4]),(2,sy 5)] (.tuple #[.agg #[iz 3,.int .i64 (-1)],iz 0]))
theorem G9(q:DQ)(hj:q.t.gs[q.j]? = some (2,q.b))(hf:q.t.fr[q.t.fr.length-1]? = some q.x)(hx:q.t.gs[q.x]? = some (q.xa,q.xb)):aI prog 12 [] 0 46 ⟨q.W0,q.F0⟩ (Dt q) (cg q) (λκ:ag=>(.tuple #[(.agg #[iz 2,iN q.x]),iz 0])) (λκ:ag=>[aE q.bt (q.t.make q.x),aQ q.bs q.s]):=by have z:=q.z;exact(br (c:=⟨q.W0,q.F0⟩) 60 (kn [pz q.bt,pz q.bs,iz (q.ca),iz (q.mo),iN (q.k),iN (q.j),iN (q.x)] fr [(.geq,sy 4,iz 0,.bool true),(.lss,sy 4,iz 4,.bool true)] [] [] (fc (λ_ _ _=>aP (by first|(simp;done)|(simp;omega))) (fc (λ_ _ _=>ax (by first|(simp;done)|(simp;omega))) fn)) fn fn q.W0 q.F0 [cg q,cg q,[aE q.bt (q.t.make q.x),aQ q.bs q.s]] [] [⟨11,[sy 0,sy 5],0,none,.tuple #[iz 2,.bool true],some 1⟩,⟨9,[sy 0],1,none,.tuple #[sy 6,iz 0],some 2⟩]) fn (fc (cc rfl [aE q.bt q.t] [0] [1] (λw F ho hn hF=>(bP q.ht hj hn).mono (λ_ _ h=>h))) (fc (cc rfl [aE q.bt (q.t.make q.x)] [0] [1] (λw F ho hn hF=>vI q.ht hf hx hn)) fn)) rfl [] [] [] 2 rfl rfl Ds (.tuple #[.agg #[iz 2,sy 6],iz 0]))
theorem G_(q:DQ)(hj:q.t.gs[q.j]? = some (2,q.b))(hf:q.t.fr=[]):aI prog 12 [] 0 46 ⟨q.W0,q.F0⟩ (Dt q) (cg q) (λκ:ag=>(.tuple #[(.agg #[iz 0,iz 0]),iz 282])) (λκ:ag=>(cg q)):=by have z:=q.z;exact(br (c:=⟨q.W0,q.F0⟩) 60 (kn [pz q.bt,pz q.bs,iz (q.ca),iz (q.mo),iN (q.k),iN (q.j)] fr [(.geq,sy 4,iz 0,.bool true),(.lss,sy 4,iz 4,.bool true)] [] [] (fc (λ_ _ _=>aP (by first|(simp;done)|(simp;omega))) (fc (λ_ _ _=>ax (by first|(simp;done)|(simp;omega))) fn)) fn fn q.W0 q.F0 [cg q,cg q,cg q] [] [⟨11,[sy 0,sy 5],0,none,.tuple #[iz 2,.bool true],some 1⟩,⟨9,[sy 0],1,none,.tuple #[.int .i64 (-1),iz 130],some 2⟩]) fn (fc (cc rfl [aE q.bt q.t] [0] [1] (λw F ho hn hF=>(bP q.ht hj hn).mono (λ_ _ h=>h))) (fc (cc rfl [aE q.bt q.t] [0] [1] (λw F ho hn hF=>Ge q.ht hf hn)) fn)) rfl [] [] [] 2 rfl rfl Ds (.tuple #[.agg #[iz 0,iz 0],iz 282]))
theorem DC(q:DQ)(hj:q.t.gs[q.j]? = some (2,q.b)):aI prog 12 [] 0 46 ⟨q.W0,q.F0⟩ [(0,n8 q),(1,(.agg #[iz 4,iN q.k])),(2,iN q.j)] (cg q) (λκ:ag=>(.tuple #[(.agg #[iz 4,(.int .i64 (-1))]),iz 0])) (λκ:ag=>[aE q.bt (q.t.set q.j 0),aQ q.bs q.s]):=by have z:=q.z;exact(br (c:=⟨q.W0,q.F0⟩) 60 (kn [pz q.bt,pz q.bs,iz (q.ca),iz (q.mo),iN (q.k),iN (q.j)] fr [(.geq,sy 4,iz 0,.bool true),(.lss,sy 4,iz 4,.bool true)] [] [] (fc (λ_ _ _=>aP (by first|(simp;done)|(simp;omega))) (fc (λ_ _ _=>ax (by first|(simp;done)|(simp;omega))) fn)) fn fn q.W0 q.F0 [cg q,cg q,[aE q.bt (q.t.set q.j 0),aQ q.bs q.s]] [] [⟨11,[sy 0,sy 5],0,none,.tuple #[iz 2,.bool true],some 1⟩,⟨10,[sy 0,sy 5,iz 0],1,none,iz 0,some 2⟩]) fn (fc (cc rfl [aE q.bt q.t] [0] [1] (λw F ho hn hF=>(bP q.ht hj hn).mono (λ_ _ h=>h))) (fc (cc rfl [aE q.bt (q.t.set q.j 0)] [0] [1] (λw F ho hn hF=>jf q.ht (by decide) hj rfl hn)) fn)) rfl [] [] [] 2 rfl rfl [(0,.agg #[sy 0,sy 1,sy 2,sy 3]),(1,.agg #[iz 4,sy 4]),(2,sy 5)] (.tuple #[.agg #[iz 4,.int .i64 (-1)],iz 0]))
theorem JP(q:DQ)(hj:q.t.gs[q.j]? = some (2,q.b))(hk:q.k<q.s.nn)(hw:∀ i,i<4->(q.j:Int) ∉ q.s.ln i)(hc:0<q.s.ct q.k):aI prog 12 [] 0 46 ⟨q.W0,q.F0⟩ (Dv q) (cg q) (λκ:ag=>(.tuple #[Dr,iz 0])) (λκ:ag=>[aQ q.bs ({ q.s with ct:=aZ q.s.ct q.k (q.s.ct q.k-1) }),aE q.bt q.t]):=by have z:=q.z;exact(br (c:=⟨q.W0,q.F0⟩) 60 (kn [pz q.bt,pz q.bs,iz (q.ca),iz (q.mo),iN (q.k),iN (q.j)] fr [(.geq,sy 4,iz 0,.bool true),(.lss,sy 4,iz 4,.bool true)] [] [] (fc (λ_ _ _=>aP (by first|(simp;done)|(simp;omega))) (fc (λ_ _ _=>ax (by first|(simp;done)|(simp;omega))) fn)) fn fn q.W0 q.F0 [cg q,cg q,[aQ q.bs ({ q.s with ct:=aZ q.s.ct q.k (q.s.ct q.k-1) }),aE q.bt q.t]] [] [⟨11,[sy 0,sy 5],0,none,.tuple #[iz 2,.bool true],some 1⟩,⟨56,[sy 1,sy 4,sy 5],1,none,.tuple #[.bool true,iz 0],some 2⟩]) fn (fc (cc rfl [aE q.bt q.t] [0] [1] (λw F ho hn hF=>(bP q.ht hj hn).mono (λ_ _ h=>h))) (fc (cc rfl [aQ q.bs ({ q.s with ct:=aZ q.s.ct q.k (q.s.ct q.k-1) })] [1] [0] (λw F ho hn hF=>Dg q.hs hk (q.hj hj) hw hc hn)) fn)) rfl [] [] [] 2 rfl rfl Du (.tuple #[.agg #[iz 0,.int .i64 (-1)],iz 0]))
theorem JQ(q:DQ)(hj:q.t.gs[q.j]? = some (2,q.b))(hk:q.k<q.s.nn)(hw:∀ i,i<4->(q.j:Int) ∉ q.s.ln i)(hc:q.s.ct q.k=0):aI prog 12 [] 0 46 ⟨q.W0,q.F0⟩ (Dv q) (cg q) (λκ:ag=>(.tuple #[(.agg #[iz 4,(.int .i64 (-1))]),iz 0])) (λκ:ag=>(Dx q)):=by have z:=q.z;exact(br (c:=⟨q.W0,q.F0⟩) 60 (kn [pz q.bt,pz q.bs,iz (q.ca),iz (q.mo),iN (q.k),iN (q.j)] fr [(.geq,sy 4,iz 0,.bool true),(.lss,sy 4,iz 4,.bool true)] [] [] (fc (λ_ _ _=>aP (by first|(simp;done)|(simp;omega))) (fc (λ_ _ _=>ax (by first|(simp;done)|(simp;omega))) fn)) fn fn q.W0 q.F0 [cg q,cg q,[Dw q,aE q.bt q.t],Dx q] [] [⟨11,[sy 0,sy 5],0,none,.tuple #[iz 2,.bool true],some 1⟩,⟨56,[sy 1,sy 4,sy 5],1,none,.tuple #[.bool false,iz 0],some 2⟩,⟨10,[sy 0,sy 5,iz 3],2,none,iz 0,some 3⟩]) fn (fc (cc rfl [aE q.bt q.t] [0] [1] (λw F ho hn hF=>(bP q.ht hj hn).mono (λ_ _ h=>h))) (fc (cc rfl [aQ q.bs ({ q.s with ln:=aZ q.s.ln q.k (q.s.ln q.k++[(q.j:Int)]),nw:=q.s.nw+1 })] [1] [0] (λw F ho hn hF=>Dh q.hs hk (q.hj hj) hw hc hn)) (fc (cc rfl [aE q.bt (q.t.set q.j 3)] [1] [0] (λw F ho hn hF=>jf q.ht (by decide) hj rfl hn)) fn))) rfl [] [] [] 3 rfl rfl Du (.tuple #[.agg #[iz 4,.int .i64 (-1)],iz 0]))
theorem G'(q:DQ)(hj:q.t.gs[q.j]? = some (2,q.b))(hm:q.mo<=q.ca):aI prog 12 [] 0 46 ⟨q.W0,q.F0⟩ (Dz q) (cg q) (λκ:ag=>(.tuple #[(.agg #[iz 0,iz 0]),iz 282])) (λκ:ag=>(cg q)):=by have z:=q.z;exact(br (c:=⟨q.W0,q.F0⟩) 60 (kn [pz q.bt,pz q.bs,iz (q.ca),iz (q.mo),iN (q.k),iN (q.j)] fr [(.geq,sy 4,iz 0,.bool true),(.lss,sy 4,iz 4,.bool true),(.geq,sy 2,sy 3,.bool true)] [] [] (fc (λ_ _ _=>aP (by first|(simp;done)|(simp;omega))) (fc (λ_ _ _=>ax (by first|(simp;done)|(simp;omega))) (fc (λ_ _ _=>aP (by first|(simp;done)|(simp;omega))) fn))) fn fn q.W0 q.F0 [cg q,cg q] [] [⟨11,[sy 0,sy 5],0,none,.tuple #[iz 2,.bool true],some 1⟩]) fn (fc (cc rfl [aE q.bt q.t] [0] [1] (λw F ho hn hF=>(bP q.ht hj hn).mono (λ_ _ h=>h))) fn) rfl [] [] [] 1 rfl rfl Dy (.tuple #[.agg #[iz 0,iz 0],iz 282]))
theorem Ha(q:DQ)(hj:q.t.gs[q.j]? = some (2,q.b))(hm:q.ca<q.mo):aI prog 12 [] 0 46 ⟨q.W0,q.F0⟩ (Dz q) (cg q) (λκ:ag=>(.tuple #[(.agg #[iz 5,(.int .i64 (-1))]),iz 0])) (λκ:ag=>[aE q.bt (q.t.set q.j 4),aQ q.bs q.s]):=by have z:=q.z;exact(br (c:=⟨q.W0,q.F0⟩) 60 (kn [pz q.bt,pz q.bs,iz (q.ca),iz (q.mo),iN (q.k),iN (q.j)] fr [(.geq,sy 4,iz 0,.bool true),(.lss,sy 4,iz 4,.bool true),(.geq,sy 2,sy 3,.bool false)] [] [] (fc (λ_ _ _=>aP (by first|(simp;done)|(simp;omega))) (fc (λ_ _ _=>ax (by first|(simp;done)|(simp;omega))) (fc (λ_ _ _=>aP (by first|(simp;done)|(simp;omega))) fn))) fn fn q.W0 q.F0 [cg q,cg q,[aE q.bt (q.t.set q.j 4),aQ q.bs q.s]] [] [⟨11,[sy 0,sy 5],0,none,.tuple #[iz 2,.bool true],some 1⟩,⟨10,[sy 0,sy 5,iz 4],1,none,iz 0,some 2⟩]) fn (fc (cc rfl [aE q.bt q.t] [0] [1] (λw F ho hn hF=>(bP q.ht hj hn).mono (λ_ _ h=>h))) (fc (cc rfl [aE q.bt (q.t.set q.j 4)] [0] [1] (λw F ho hn hF=>jf q.ht (by decide) hj rfl hn)) fn)) rfl [] [] [] 2 rfl rfl Dy (.tuple #[.agg #[iz 5,.int .i64 (-1)],iz 0]))
theorem M7(q:DQ)(hk:q.k<q.s.nn):dH prog 37 [] 0 2 63 ⟨q.W0,q.F0⟩ [(0,n8 q),(1,iN q.j),(2,iN q.k)] (cg q) .normal (λκ:ag=>[(2,iN q.k),(3,(pz ((κ 400).getD 0))),(6,(pz ((κ 404).getD 0))),(18,dv κ 411),(19,(iN ((q.s.ln q.k).length))),(20,iz 0)]) (λκ:ag=>[bv ((κ 400).getD 0) [pz q.bt,pz q.bs,iz q.ca,iz q.mo] 31,bv ((κ 404).getD 0) [iz 0,iz 0] 41,fZ (dv κ 411) (q.s.ln q.k),aQ q.bs q.s,aE q.bt q.t]):=(tr (c:=⟨q.W0,q.F0⟩) (kn [pz q.bt,pz q.bs,iz (q.ca),iz (q.mo),iN (q.j),iN (q.k),iN ((q.s.ln q.k).length)] fr [] [] [] fn fn fn q.W0 q.F0 [cg q,[ce 411 (λv=>fZ v (q.s.ln q.k)),aQ q.bs q.s,aE q.bt q.t]] [⟨[10,37],[.complex .f32 411 0],none,1,none,sy 6,none⟩] [⟨15,[sy 1,sy 5],0,some 411,.complex .f32 411 0,some 1⟩]) (fc (by obtain⟨i,i1,i2,i3,i4⟩:=aT;exact zh (ci:=1) rfl rfl underlying37 i2 rfl) fn) (fc (cm rfl [λv=>fZ v (q.s.ln q.k)] [aQ q.bs q.s] [1] [0] (λw F ho hn hF=>vJ q.hs hk hn)) fn) rfl [] [] [(400,[sy 0,sy 1,sy 2,sy 3],31),(404,[iz 0,iz 0],41)] 1 rfl rfl [(0,.agg #[sy 0,sy 1,sy 2,sy 3]),(1,sy 4),(2,sy 5)] [(2,sy 5),(3,.pointer (some ⟨400,0,none⟩)),(6,.pointer (some ⟨404,0,none⟩)),(18,.complex .f32 411 0),(19,sy 6),(20,iz 0)] .normal).conv (λκ w=>⟨(λ_ h=>h),(λ_ h=>h),(λ_ h=>bN (a:=λv=>fZ v (q.s.ln q.k)) (λ_ _ _ _ _ h=>h) h),(λ_ h=>h),(λ_ h=>h),trivial⟩)
theorem NT(q:DQ)(hk:q.k<q.s.nn)(v:Value)(lv:aR v=true)(b4 b6:Nat)(hl:q.s.ln q.k=[])(hl1:(q.s.ln q.k).length=0):aI prog 37 [] 2 63 ⟨q.W0,q.F0⟩ [(2,iN q.k),(3,pz b4),(6,pz b6),(18,(v)),(19,(iN ((q.s.ln q.k).length))),(20,iz 0)] (DA q v b4 b6) (λκ:ag=>(.tuple #[Dr,iz 0])) (λκ:ag=>[(xI q b4),bv b6 [iz 0,(.int .i64 (-1))] 41,aQ q.bs ({ q.s with ct:=aZ q.s.ct q.k (q.s.ct q.k+1) }),fZ v (q.s.ln q.k),aE q.bt q.t]):=(br (c:=⟨q.W0,q.F0⟩) 20 (kn [v,iN ((q.s.ln q.k).length),iN (q.k),pz q.bt,pz q.bs,iz (q.ca),iz (q.mo)] (fc (by assumption) fr) [(.lss,iz 0,sy 1,.bool false)] [] [] (fc (λ_ _ _=>ax (by have z:=q.z;first|(simp;done)|(simp;omega))) fn) fn fn q.W0 q.F0 [[fZ v (q.s.ln q.k),aQ q.bs q.s,aE q.bt q.t],[aQ q.bs ({ q.s with ct:=aZ q.s.ct q.k (q.s.ct q.k+1) }),fZ v (q.s.ln q.k),aE q.bt q.t]] [] [⟨57,[sy 4,sy 2],0,none,.tuple #[iz 0,.bool false,iz 0],some 1⟩]) fn (fc (cc rfl [aQ q.bs ({ q.s with ct:=aZ q.s.ct q.k (q.s.ct q.k+1) })] [1] [0,2] (λw F ho hn hF=>AN q.hs hk hl hn)) fn) rfl [(4,b4),(8,b6)] [(4,[sy 3,sy 4,sy 5,sy 6],31),(8,[iz 0,iz 0],41)] [(4,[sy 3,sy 4,sy 5,sy 6],31),(8,[iz 0,.int .i64 (-1)],41)] 1 rfl rfl [(2,sy 2),(3,.pointer (some ⟨4,0,none⟩)),(6,.pointer (some ⟨8,0,none⟩)),(18,sy 0),(19,sy 1),(20,iz 0)] (.tuple #[.agg #[iz 0,.int .i64 (-1)],iz 0]))
theorem NU(q:DQ)(hk:q.k<q.s.nn)(v:Value)(lv:aR v=true)(b4 b6:Nat)(hl:q.s.ln q.k=(q.x:Int)::q.r)(hl1:0<(q.s.ln q.k).length)(hl0:(aB (q.s.ln q.k))[(0*1)]? = some (iN q.x))(hx:q.t.gs[q.x]? = some (3,q.xb)):aI prog 37 [] 2 63 ⟨q.W0,q.F0⟩ [(2,iN q.k),(3,pz b4),(6,pz b6),(18,(v)),(19,(iN ((q.s.ln q.k).length))),(20,iz 0)] (DA q v b4 b6) (λκ:ag=>(.tuple #[(.agg #[iz 2,iN q.x]),iz 0])) (λκ:ag=>[(xI q b4),bv b6 [iz 2,iN q.x] 41,aE q.bt (q.t.set q.x 1),xJ q,fZ v (q.s.ln q.k)]):=by have z:=q.z;exact(br (c:=⟨q.W0,q.F0⟩) 20 (kn [v,au (v) (0*1),iN ((q.s.ln q.k).length),iN (q.k),pz q.bt,pz q.bs,iz (q.ca),iz (q.mo),iN (q.x)] (fc (by assumption) (fc (ae _ _) fr)) [(.lss,iz 0,sy 2,.bool true)] [] [] (fc (λ_ _ _=>ax (by first|(simp;done)|(simp;omega))) fn) fn fn q.W0 q.F0 [[fZ v (q.s.ln q.k),aQ q.bs q.s,aE q.bt q.t],[aE q.bt q.t,fZ v (q.s.ln q.k),aQ q.bs q.s],[xJ q,aE q.bt q.t,fZ v (q.s.ln q.k)],[aE q.bt (q.t.set q.x 1),xJ q,fZ v (q.s.ln q.k)]] [⟨[3,37],[sy 0,iz 0],none,0,none,sy 1,none⟩,⟨[1,3],[sy 1],none,0,none,sy 8,none⟩] [⟨11,[sy 4,sy 8],0,none,.tuple #[iz 3,.bool true],some 1⟩,⟨57,[sy 5,sy 3],1,none,.tuple #[sy 8,.bool true,iz 0],some 2⟩,⟨10,[sy 4,sy 8,iz 1],2,none,iz 0,some 3⟩]) (fc (by obtain⟨i,i1,i2,i3,i4⟩:=aT;exact eX (ci:=1) (j:=0) rfl rfl underlying37 i1 i2 rfl dM (by omega) rfl) (fc (by exact ah (ci:=1) (m:=0*1) (x:=(iN q.x)) rfl rfl aG hl0 (by simp;omega) rfl (λι=>(vk (by kernel_rfl) (by kernel_rfl)))) fn)) (fc (cc rfl [aE q.bt q.t] [2] [0,1] (λw F ho hn hF=>(bP q.ht hx hn).mono (λ_ _ h=>h))) (fc (cc rfl [aQ q.bs ({ q.s with ln:=aZ q.s.ln q.k q.r })] [2] [0,1] (λw F ho hn hF=>Di q.hs hk hl hn)) (fc (cc rfl [aE q.bt (q.t.set q.x 1)] [1] [0,2] (λw F ho hn hF=>jf q.ht (by decide) hx rfl hn)) fn))) rfl [(4,b4),(8,b6)] [(4,[sy 4,sy 5,sy 6,sy 7],31),(8,[iz 0,iz 0],41)] [(4,[sy 4,sy 5,sy 6,sy 7],31),(8,[iz 2,sy 8],41)] 3 rfl rfl [(2,sy 3),(3,.pointer (some ⟨4,0,none⟩)),(6,.pointer (some ⟨8,0,none⟩)),(18,sy 0),(19,sy 2),(20,iz 0)] (.tuple #[.agg #[iz 2,sy 8],iz 0]))
end Go.Proofs.Ytankbefdlbcdnaa
namespace Go.Proofs.Ytankbefdlbcdnaa
open Go.Ev Go.Proofs.Try
open Go.RowKit
open Go.Ev (iz iN pz)
attribute [local irreducible] dF
abbrev nD(bt bs:Nat)(ca mo:Int):Value:=.agg #[pz bt,pz bs,iz ca,iz mo]
abbrev xK(nx x e:Int):Value:=.tuple #[.agg #[iz nx,iz x],iz e]
theorem relE(q:DQ){w:World}{F:Nat->Prop}(hk:q.k<q.s.nn)(hl:q.s.ln q.k=[])(h:bu [aE q.bt q.t,aQ q.bs q.s] F w) :
  Calls prog 37 #[nD q.bt q.bs q.ca q.mo,iN q.j,iN q.k] w λe w'=>e=.returned (xK 0 (-1) 0)/\ay ⟨w,F⟩ [aE q.bt q.t,aQ q.bs { q.s with ct:=aZ q.s.ct q.k (q.s.ct q.k+1) }] w':=by
 let p:DQ:={ q with W0:=w,F0:=F }
 refine bx (N:=63) (tm:=[(0,nD q.bt q.bs q.ca q.mo),(1,iN q.j),(2,iN q.k)]) (by kernel_rfl) h (by simp) (by simp) (λA hA=>?_);refine M7 p hk A w _ hA ?_;intro κ A1 w1 h1;dsimp only at h1;have lv:aR (Ev.dv κ 411)=true:=cV _;generalize (κ 400).getD 0=b4 at h1;generalize (κ 404).getD 0=b6 at h1;generalize Ev.dv κ 411=v at h1 lv;refine NT p hk v lv b4 b6 hl (by show(q.s.ln q.k).length=0;rw[hl];rfl) A1 w1 _ h1 ?_;intro κ2 w2 h2;exact⟨rfl,h2.sel [4,2]⟩
theorem LY(q:DQ){w:World}{F:Nat->Prop}(hk:q.k<q.s.nn)(hl:q.s.ln q.k=(q.x:Int)::q.r)(hx:q.t.gs[q.x]? = some (3,q.xb))(h:bu [aE q.bt q.t,aQ q.bs q.s] F w) :
  Calls prog 37 #[nD q.bt q.bs q.ca q.mo,iN q.j,iN q.k] w λe w'=>e=.returned (xK 2 (q.x:Int) 0)/\ay ⟨w,F⟩ [aE q.bt (q.t.set q.x 1),aQ q.bs { q.s with ln:=aZ q.s.ln q.k q.r }] w':=by
 let p:DQ:={ q with W0:=w,F0:=F }
 refine bx (N:=63) (tm:=[(0,nD q.bt q.bs q.ca q.mo),(1,iN q.j),(2,iN q.k)]) (by kernel_rfl) h (by simp) (by simp) (λA hA=>?_);refine M7 p hk A w _ hA ?_;intro κ A1 w1 h1;dsimp only at h1;have lv:aR (Ev.dv κ 411)=true:=cV _;generalize (κ 400).getD 0=b4 at h1;generalize (κ 404).getD 0=b6 at h1;generalize Ev.dv κ 411=v at h1 lv;refine NU p hk v lv b4 b6 hl (by show 0<(q.s.ln q.k).length;rw[hl];exact Nat.succ_pos _) (by show(aB (q.s.ln q.k))[0]? = _;rw[hl];rfl) hx A1 w1 _ h1 ?_;intro κ2 w2 h2;exact⟨rfl,h2.sel [2,3]⟩
end Go.Proofs.Ytankbefdlbcdnaa
namespace Go.Proofs.Ytankbefdlbcdnaa
open Go.Ev Go.Proofs.Try
open Go.RowKit
open Go.Ev (sy iz uz wz iN uN wN pz dv fc fn ak vk vd kn pc cc cr cm cd fr)
set_option maxRecDepth 8000
attribute [local irreducible] dF
abbrev gW(q:DQ):List aK:=[aE q.bt q.t,aQ q.bs q.s]
abbrev DE(q:DQ):Value:=(.agg #[pz q.bt,pz q.bs,iz q.ca,iz q.mo])
abbrev DF:List (Nat×Value):=[(0,.agg #[sy 0,sy 1,sy 2,sy 3]),(1,.agg #[iz 6,sy 4]),(2,sy 5)]
abbrev DG(q:DQ):List (Nat×Value):=[(0,DE q),(1,(.agg #[iz 6,iN q.k])),(2,iN q.j)]
theorem JR(q:DQ)(hj:q.t.gs[q.j]? = some (2,q.b))(hk:q.k<q.s.nn)(hl:q.s.ln q.k=[]):aI prog 12 [] 0 46 ⟨q.W0,q.F0⟩ (DG q) (gW q) (λκ:ag=>(.tuple #[(.agg #[iz 0,(.int .i64 (-1))]),iz 0])) (λκ:ag=>[aE q.bt q.t,aQ q.bs ({ q.s with ct:=aZ q.s.ct q.k (q.s.ct q.k+1) })]):=by have z:=q.z;exact(br (c:=⟨q.W0,q.F0⟩) 60 (kn [pz q.bt,pz q.bs,iz (q.ca),iz (q.mo),iN (q.k),iN (q.j)] fr [(.geq,sy 4,iz 0,.bool true),(.lss,sy 4,iz 4,.bool true)] [] [] (fc (λ_ _ _=>aP (by first|(simp;done)|(simp;omega))) (fc (λ_ _ _=>ax (by first|(simp;done)|(simp;omega))) fn)) fn fn q.W0 q.F0 [gW q,gW q,[aE q.bt q.t,aQ q.bs ({ q.s with ct:=aZ q.s.ct q.k (q.s.ct q.k+1) })]] [] [⟨11,[sy 0,sy 5],0,none,.tuple #[iz 2,.bool true],some 1⟩,⟨37,[.agg #[sy 0,sy 1,sy 2,sy 3],sy 5,sy 4],1,none,.tuple #[.agg #[iz 0,.int .i64 (-1)],iz 0],some 2⟩]) fn (fc (cc rfl [aE q.bt q.t] [0] [1] (λw F ho hn hF=>(bP q.ht hj hn).mono (λ_ _ h=>h))) (fc (cc rfl [aE q.bt q.t,aQ q.bs ({ q.s with ct:=aZ q.s.ct q.k (q.s.ct q.k+1) })] [0,1] [] (λw F ho hn hF=>relE q hk hl hn)) fn)) rfl [] [] [] 2 rfl rfl DF (.tuple #[.agg #[iz 0,.int .i64 (-1)],iz 0]))
theorem JS(q:DQ)(hj:q.t.gs[q.j]? = some (2,q.b))(hk:q.k<q.s.nn)(hl:q.s.ln q.k=(q.x:Int)::q.r)(hx:q.t.gs[q.x]? = some (3,q.xb)):aI prog 12 [] 0 46 ⟨q.W0,q.F0⟩ (DG q) (gW q) (λκ:ag=>(.tuple #[(.agg #[iz 2,iN q.x]),iz 0])) (λκ:ag=>[aE q.bt (q.t.set q.x 1),aQ q.bs ({ q.s with ln:=aZ q.s.ln q.k q.r })]):=by have z:=q.z;exact(br (c:=⟨q.W0,q.F0⟩) 60 (kn [pz q.bt,pz q.bs,iz (q.ca),iz (q.mo),iN (q.k),iN (q.j),iN (q.x)] fr [(.geq,sy 4,iz 0,.bool true),(.lss,sy 4,iz 4,.bool true)] [] [] (fc (λ_ _ _=>aP (by first|(simp;done)|(simp;omega))) (fc (λ_ _ _=>ax (by first|(simp;done)|(simp;omega))) fn)) fn fn q.W0 q.F0 [gW q,gW q,[aE q.bt (q.t.set q.x 1),aQ q.bs ({ q.s with ln:=aZ q.s.ln q.k q.r })]] [] [⟨11,[sy 0,sy 5],0,none,.tuple #[iz 2,.bool true],some 1⟩,⟨37,[.agg #[sy 0,sy 1,sy 2,sy 3],sy 5,sy 4],1,none,.tuple #[.agg #[iz 2,sy 6],iz 0],some 2⟩]) fn (fc (cc rfl [aE q.bt q.t] [0] [1] (λw F ho hn hF=>(bP q.ht hj hn).mono (λ_ _ h=>h))) (fc (cc rfl [aE q.bt (q.t.set q.x 1),aQ q.bs ({ q.s with ln:=aZ q.s.ln q.k q.r })] [0,1] [] (λw F ho hn hF=>LY q hk hl hx hn)) fn)) rfl [] [] [] 2 rfl rfl DF (.tuple #[.agg #[iz 2,sy 6],iz 0]))
theorem JT(q:DQ)(hj:q.t.gs[q.j]? = some (q.xa,q.b))(h2:q.xa≠2):aI prog 12 [] 0 46 ⟨q.W0,q.F0⟩ [(0,DE q),(1,(.agg #[iN q.kd,iN q.k])),(2,iN q.j)] (gW q) (λκ:ag=>(.tuple #[(.agg #[iz 0,iz 0]),iz 2])) (λκ:ag=>(gW q)):=by have z:=q.z;exact(br (c:=⟨q.W0,q.F0⟩) 60 (kn [pz q.bt,pz q.bs,iz (q.ca),iz (q.mo),iN (q.kd),iN (q.k),iN (q.j),iN (q.xa)] fr [(.geq,sy 4,iz 0,.bool true),(.lss,sy 4,iz 8,.bool true),(.geq,sy 5,iz 0,.bool true),(.lss,sy 5,iz 4,.bool true),(.eql,sy 7,iz 2,.bool false)] [] [] (fc (λ_ _ _=>aP (by first|(simp;done)|(simp;omega))) (fc (λ_ _ _=>ax (by first|(simp;done)|(simp;omega))) (fc (λ_ _ _=>aP (by first|(simp;done)|(simp;omega))) (fc (λ_ _ _=>ax (by first|(simp;done)|(simp;omega))) (fc (λ_ _ _=>bL (by first|(simp;done)|(simp;omega))) fn))))) fn fn q.W0 q.F0 [gW q,gW q] [] [⟨11,[sy 0,sy 6],0,none,.tuple #[sy 7,.bool true],some 1⟩]) fn (fc (cc rfl [aE q.bt q.t] [0] [1] (λw F ho hn hF=>(bP q.ht hj hn).mono (λ_ _ h=>h))) fn) rfl [] [] [] 1 rfl rfl [(0,.agg #[sy 0,sy 1,sy 2,sy 3]),(1,.agg #[sy 4,sy 5]),(2,sy 6)] (.tuple #[.agg #[iz 0,iz 0],iz 2]))
theorem Hb(q:DQ)(hx:q.g<0\/(q.t.gs.length:Int)<=q.g):aI prog 12 [] 0 46 ⟨q.W0,q.F0⟩ [(0,DE q),(1,(.agg #[iN q.kd,iN q.k])),(2,iz q.g)] (gW q) (λκ:ag=>(.tuple #[(.agg #[iz 0,iz 0]),iz 2])) (λκ:ag=>(gW q)):=by have z:=q.z;exact(br (c:=⟨q.W0,q.F0⟩) 60 (kn [pz q.bt,pz q.bs,iz (q.ca),iz (q.mo),iN (q.kd),iN (q.k),iz (q.g)] fr [(.geq,sy 4,iz 0,.bool true),(.lss,sy 4,iz 8,.bool true),(.geq,sy 5,iz 0,.bool true),(.lss,sy 5,iz 4,.bool true)] [] [] (fc (λ_ _ _=>aP (by first|(simp;done)|(simp;omega))) (fc (λ_ _ _=>ax (by first|(simp;done)|(simp;omega))) (fc (λ_ _ _=>aP (by first|(simp;done)|(simp;omega))) (fc (λ_ _ _=>ax (by first|(simp;done)|(simp;omega))) fn)))) fn fn q.W0 q.F0 [gW q,gW q] [] [⟨11,[sy 0,sy 6],0,none,.tuple #[iz 0,.bool false],some 1⟩]) fn (fc (cc rfl [aE q.bt q.t] [0] [1] (λw F ho hn hF=>(pP q.ht hx hn).mono (λ_ _ h=>h))) fn) rfl [] [] [] 1 rfl rfl [(0,.agg #[sy 0,sy 1,sy 2,sy 3]),(1,.agg #[sy 4,sy 5]),(2,sy 6)] (.tuple #[.agg #[iz 0,iz 0],iz 2]))
end Go.Proofs.Ytankbefdlbcdnaa
namespace Go.Proofs.Ytankbefdlbcdnaa
open Go.Ev Go.Proofs.Try
open Go.RowKit
open Go.Ev (iz iN pz)
attribute [local irreducible] dF
structure Out where
 nx:Int
 x:Int
 e:Int
 t:Tab
 s:Sem
def dC(t:Tab)(s:Sem)(ca mo:Int)(kd k j:Nat):Out :=
 match kd with
 | 0=>⟨0,-1,0,t,s⟩
 | 1=>⟨1,-1,0,t,s⟩
 | 2=>⟨3,-1,0,t.set j 1,s⟩
 | 3=>match t.fr[t.fr.length-1]? with
  | some x=>⟨2,x,0,t.make x,s⟩
  | none=>⟨0,0,282,t,s⟩
 | 4=>⟨4,-1,0,t.set j 0,s⟩
 | 5=>if s.nn<=k then ⟨0,0,282,t,s⟩ else if s.ct k=0 then ⟨4,-1,0,t.set j 3,{ s with ln:=aZ s.ln k (s.ln k++[(j:Int)]),nw:=s.nw+1 }⟩ else ⟨0,-1,0,t,{ s with ct:=aZ s.ct k (s.ct k-1) }⟩
 | 6=>if s.nn<=k then ⟨0,0,282,t,s⟩ else match s.ln k with
  | []=>⟨0,-1,0,t,{ s with ct:=aZ s.ct k (s.ct k+1) }⟩
  | g::r=>⟨2,g,0,t.set g.toNat 1,{ s with ln:=aZ s.ln k r }⟩
 | _=>if mo<=ca then ⟨0,0,282,t,s⟩ else ⟨5,-1,0,t.set j 4,s⟩
def Tab.runs(t:Tab)(g:Int):Option Nat:=if 0<=g then (match t.gs[g.toNat]? with
 | some (2,_)=>some g.toNat
 | _=>none) else none
def d8(t:Tab)(s:Sem)(ca mo:Int)(kd k:Nat)(g:Int):Out:=match t.runs g with
 | some j=>dC t s ca mo kd k j
 | none=>⟨0,0,2,t,s⟩
theorem Tab.e8{t:Tab}{g:Int}{j:Nat}(h:t.runs g=some j):g=(j:Int)/\∃ b,t.gs[j]? = some (2,b):=by
 unfold Tab.runs at h
 split at h
 ·rename_i h0
  split at h
  ·rename_i b hb
   cases h;exact⟨by omega,b,hb⟩
  ·cases h
 ·cases h
theorem Tab.iE{t:Tab}{g:Int}(h:t.runs g=none):(g<0\/(t.gs.length:Int)<=g)\/∃ a b,0<=g/\t.gs[g.toNat]? = some (a,b)/\a≠2:=by
 unfold Tab.runs at h
 split at h
 ·rename_i h0
  cases hg:t.gs[g.toNat]? with
  | none=>exact .inl (.inr (by have:=List.getElem?_eq_none_iff.1 hg;omega))
  | some p =>
   refine .inr ⟨p.1,p.2,h0,rfl,λe=>?_⟩;obtain⟨a,b⟩:=p;replace e:a=2:=e;subst e;rw[hg]at h;cases h
 ·exact .inl (.inl (by omega))
abbrev Gf(kd k:Nat):Value:=.agg #[iN kd,iN k]
theorem AP{w:World}{F:Nat->Prop}{bt bs:Nat}{t:Tab}{s:Sem}{ca mo:Int}{kd k:Nat}{g:Int}(ht:t.Ok)(hs:s.Ok)(hkd:kd<8)(hk4:k<4)(hk:k<s.nn)(hf:∀ j ∈ t.fr,j<t.gs.length)
  (hw:∀ j b:Nat,t.gs[j]? = some (2,b)->∀ i,i<4->(j:Int) ∉ s.ln i) (hl:∀ i,i<4->∀ x ∈ s.ln i,∃ b,t.gs[x.toNat]? = some (3,b)) (h:bu [aE bt t,aQ bs s] F w) :
  Calls prog 12 #[nD bt bs ca mo,Gf kd k,iz g] w λe w'=>e=.returned (xK (d8 t s ca mo kd k g).nx (d8 t s ca mo kd k g).x (d8 t s ca mo kd k g).e)/\ay ⟨w,F⟩ [aE bt (d8 t s ca mo kd k g).t,aQ bs (d8 t s ca mo kd k g).s] w':=by
 let q0:DQ:=⟨w,F,bt,bs,t,s,ht,hs,ca,mo,k,kd,0,0,0,0,0,[],g,hk4,hkd⟩
 unfold d8;cases hr:t.runs g with
 | none =>
  rcases Tab.iE hr with hx | ⟨a,b,h0,hj,h2⟩
  ·exact ao (Hb q0 hx) (by kernel_rfl) h (by simp) (by simp[q0]) (λκ w1 hh=>⟨rfl,hh⟩)
  ·obtain⟨j,rfl⟩:∃ j:Nat,g=(j:Int):=⟨g.toNat,by omega⟩
   exact ao (JT { q0 with j:=j,b:=b,xa:=a } hj h2) (by kernel_rfl) h (by simp) (by simp[q0]) (λκ w1 hh=>⟨rfl,hh⟩)
 | some j =>
  obtain⟨rfl,b,hj⟩:=Tab.e8 hr
  let q:DQ:={ q0 with j:=j,b:=b }
  show Calls _ _ _ _ λe w'=>e=.returned (xK (dC t s ca mo kd k j).nx (dC t s ca mo kd k j).x (dC t s ca mo kd k j).e)/\ay ⟨w,F⟩ [aE bt (dC t s ca mo kd k j).t,aQ bs (dC t s ca mo kd k j).s] w'
  have hnk:¬ s.nn<=k:=by omega
  match kd,hkd with
  | 0,_=>exact ao (DB q hj) (by kernel_rfl) h (by simp) (by simp[q,q0]) (λκ w1 hh=>⟨rfl,hh⟩)
  | 1,_=>exact ao (zn q hj) (by kernel_rfl) h (by simp) (by simp[q,q0]) (λκ w1 hh=>⟨rfl,hh⟩)
  | 2,_=>exact ao (zo q hj) (by kernel_rfl) h (by simp) (by simp[q,q0]) (λκ w1 hh=>⟨rfl,hh⟩)
  | 3,_ =>
   unfold dC;cases hx:t.fr[t.fr.length-1]? with
   | some x =>
    have hx2:=hf x (List.mem_of_getElem? hx);refine ao (G9 { q with x:=x,xa:=(t.gs[x]).1,xb:=(t.gs[x]).2 } hj hx (List.getElem?_eq_getElem hx2)) (by kernel_rfl) h (by simp) (by simp[q,q0]) (λκ w1 hh=>⟨rfl,hh⟩)
   | none =>
    have hz:t.fr=[]:=by
     have:=List.getElem?_eq_none_iff.1 hx;exact List.length_eq_zero_iff.1 (by omega)
    refine ao (G_ q hj hz) (by kernel_rfl) h (by simp) (by simp[q,q0]) (λκ w1 hh=>⟨rfl,hh⟩)
  | 4,_=>exact ao (DC q hj) (by kernel_rfl) h (by simp) (by simp[q,q0]) (λκ w1 hh=>⟨rfl,hh⟩)
  | 5,_ =>
   unfold dC;rw[if_neg hnk]
   by_cases hc:s.ct k=0
   ·rw[if_pos hc]
    exact ao (JQ q hj hk (hw j b hj) hc) (by kernel_rfl) h (by simp) (by simp[q,q0]) (λκ w1 hh=>⟨rfl,hh⟩)
   ·rw[if_neg hc]
    exact ao (JP q hj hk (hw j b hj) (by show 0<s.ct k;omega)) (by kernel_rfl) h (by simp) (by simp[q,q0]) (λκ w1 hh=>⟨rfl,hh.sel [1,0]⟩)
  | 6,_ =>
   have e0:dC t s ca mo 6 k j=(match s.ln k with
    | []=>⟨0,-1,0,t,{ s with ct:=aZ s.ct k (s.ct k+1) }⟩
    | g::r=>⟨2,g,0,t.set g.toNat 1,{ s with ln:=aZ s.ln k r }⟩):=if_neg hnk
   rw[e0];cases hln:s.ln k with
   | nil=>exact ao (JR q hj hk hln) (by kernel_rfl) h (by simp) (by simp[q,q0]) (λκ w1 hh=>⟨rfl,hh⟩)
   | cons x r =>
    obtain⟨b2,hx⟩:=hl k hk4 x (by rw[hln];exact List.mem_cons_self);have hr2:=hs.rng k hk4 x (by rw[hln];exact List.mem_cons_self);obtain⟨y,rfl⟩:∃ y:Nat,x=(y:Int):=⟨x.toNat,by omega⟩;exact ao (JS { q with x:=y,xb:=b2,r:=r } hj hk hln hx) (by kernel_rfl) h (by simp) (by simp[q,q0]) (λκ w1 hh=>⟨rfl,hh⟩)
  | 7,_ =>
   unfold dC
   by_cases hm:mo<=ca
   ·rw[if_pos hm]
    exact ao (G' q hj hm) (by kernel_rfl) h (by simp) (by simp[q,q0]) (λκ w1 hh=>⟨rfl,hh⟩)
   ·rw[if_neg hm]
    exact ao (Ha q hj (by show ca<mo;omega)) (by kernel_rfl) h (by simp) (by simp[q,q0]) (λκ w1 hh=>⟨rfl,hh⟩)
end Go.Proofs.Ytankbefdlbcdnaa
namespace Go.Proofs.Ytankbefdlbcdnaa
open Go.Ev Go.Proofs.Try
open Go.RowKit
open Go.Ev (iz iN pz)
set_option maxRecDepth 8000
attribute [local irreducible] dF
abbrev nq(w:World)(F:Nat->Prop)(n b c:Nat)(h:n<=12/\b<256/\c<=2):NQ:=⟨w,F,n,b,c,h⟩
theorem JU(b:Nat)(hb:b<256)(w:World):Calls prog 13 #[.int .u8 (b:Int)] w λe w'=>e=.returned (Gf (b%8) (b / 8%4))/\Below w.heap.size w w' :=
 ao (NJ (nq w (λ_=>False) 0 b 0 ⟨by omega,hb,by omega⟩)) (by kernel_rfl) (aX w) (by simp) (by simp) (λκ w1 h1=>⟨rfl,h1.below (λ_ h=>h)⟩)
theorem iF{c:eO}{l:List aK}{w:World}{b:Nat}{cs:List Value}{t:TypeId}(h:ay c (bv b cs t::l) w):ay c (aO t 1 (ap b cs.length) cs.length cs::l) w :=
 h.head (λF h=>⟨by simp,.inr ⟨b,0,cs.length,cs.toArray,rfl,h.1,h.2,λi hi=>by simp,by simp,Nat.le_refl _⟩⟩)
def mG(v:Value)(s:Sem):aK where
 p:=λι F w=>∃ b,v=pz b/\(aQ b s).p ι F w
 keep:=λι F w w' hk ⟨b,h0,h⟩=>⟨b,h0,(aQ b s).keep ι F w w' hk h⟩
 mono:=λ_ _ _ _ _ h=>h
def mH(v:Value)(t:Tab):aK where
 p:=λι F w=>∃ b,v=pz b/\(aE b t).p ι F w
 keep:=λι F w w' hk ⟨b,h0,h⟩=>⟨b,h0,(aE b t).keep ι F w w' hk h⟩
 mono:=λ_ _ _ _ _ h=>h
section
variable{c:eO}{l:List aK}{w:World}{F:Nat->Prop}
theorem DH{v:Value}{s:Sem}(h:ay c (mG v s::l) w):∃ b,v=pz b/\ay c (aQ b s::l) w :=
 ay.vq (b:=λb=>aQ b s) (p:=λb=>v=pz b) h (λG ⟨b,e,h1⟩=>⟨b,e,h1⟩)
theorem pS{v:Value}{t:Tab}(h:ay c (mH v t::l) w):∃ b,v=pz b/\ay c (aE b t::l) w :=
 ay.vq (b:=λb=>aE b t) (p:=λb=>v=pz b) h (λG ⟨b,e,h1⟩=>⟨b,e,h1⟩)
def AQ(c:Nat):Sem:=⟨4,λ_=>c,λ_=>[],0⟩
def pT(n i:Nat):List Nat:=(List.range i).map (λk=>n-1-k)
def rf(n i:Nat):List Int:=(pT n i).map (λj:Nat=>(j:Int))
theorem zp(n i:Nat):(rf n i).length=i:=by simp[rf,pT]
theorem DI(n i:Nat):rf n (i+1)=rf n i++[((n-1-i:Nat):Int)]:=by simp[rf,pT,List.range_succ]
def bW(n:Nat):Tab:=⟨List.replicate n (0,0),pT n n⟩
theorem Ik(n:Nat):zG n=(bW n).g:=by simp[zG,bW,Tab.g]
theorem Gg{n:Nat}(hn:n<=12)(h:bu [] F w) :
  Calls prog 8 #[iN n] w λe w'=>∃ v cd,Ev.dec cd=v/\e=.returned v/\ay ⟨w,F⟩ [mH v (bW n)] w':=by
 let q:=nq w F n 0 0 ⟨hn,by omega,by omega⟩
 refine bx (N:=38) (tm:=[(0,iN n)]) (by kernel_rfl) h (by simp) (by simp) (λA hA=>?_);refine NL q A w _ hA ?_;intro κ A1 w1 h1;dsimp only at h1;have fh:aR (Ev.dv κ 403)=true:=cV _;generalize (κ 404).getD 0=b3 at h1;generalize Ev.dv κ 403=av at h1 fh;refine cY (id:=0) (by kernel_rfl) ?_;refine eD (by kernel_rfl) (λ(x:Nat×Value) A w'=>Ev.At ⟨w,F⟩ 38 [(3,pz b3),(15,iN n),(16,iN x.1)] (lG b3 av x.2 (zG n) (rf n x.1)) A w'/\x.1<=n) (λx=>n-x.1) (x:=(0,.slice none 0 0)) ⟨h1.to (λq hq=>hq) (λhh=>?_),Nat.zero_le _⟩ ?_
 ·have e:(zG n).length=n:=by simp[zG]
  unfold lG;rw[e];exact(hh.pG (e := 3) (sz:=1)).sel [1,2,0]
 clear h1 hA A1 w1;rintro⟨ix,fv⟩ A w' ⟨h1,hx⟩;replace hx:ix<=n:=hx;have e:(zG n).length=n:=by simp[zG]
 have h2:Ev.At ⟨w,F⟩ 38 [(3,pz b3),(15,iN n),(16,iN ix)] [bv b3 [av,fv] 83,aO 87 2 av n (mQ (zG n)),aO 3 1 fv (rf n ix).length (aB (rf n ix))] A w':=by
  have:=h1;unfold lG at this
  rwa [e]at this
 have fC:aR fv=true:=bV (h2.hold.sel [2]);have hl:(rf n ix).length<=12:=by rw[zp];omega
 by_cases hi:ix<n
 ·refine NM q b3 av fh fv fC (rf n ix) hl ix hi A w' _ h2 ?_
  intro κ3 A3 w3 h3;refine cY (id:=1) (by kernel_rfl) ?_;refine NP q b3 av fh fv fC (rf n ix) hl ix hi A3 w3 _ h3 ?_;intro κ4 A4 w4 h4;dsimp only at h4;have JV:aR (Ev.dv κ4 407)=true:=cV _;generalize Ev.dv κ4 407=fv2 at h4 JV;have hl2:(rf n (ix+1)).length<=12:=by rw[zp];omega
  refine db (by kernel_rfl) ?_;refine NR q b3 av fh fv2 JV (rf n (ix+1)) hl2 ix hi A4 w4 _ (h4.to (λq hq=>hq) (λhh=>?_)) ?_
  ·rw[DI]
   have e1:aB (rf n ix++[((n-1-ix:Nat):Int)])=aB (rf n ix)++[iN (n-1-ix)]:=by simp[aB]
   show ay _ [_,_,aO 3 1 fv2 (rf n ix++[((n-1-ix:Nat):Int)]).length (aB (rf n ix++[((n-1-ix:Nat):Int)]))] w4;rw[e1,List.length_append];exact hh
  ·intro κ5 A5 w5 h5
   refine db (by kernel_rfl) ⟨(ix+1,fv2),⟨h5.to (λq hq=>hq) (λhh=>?_),by show ix+1<=n;omega⟩,by show n-(ix+1)<n-ix;omega⟩;unfold lG;rw[e];exact hh
 ·refine NN q b3 av fh fv fC (rf n ix) hl ix hi A w' _ h2 ?_
  intro κ3 A3 w3 h3;obtain rfl:ix=n:=by omega
  refine NS q b3 av fh fv fC (rf ix ix) hl ix A3 w3 _ (h3.to (λq hq=>?_) (λhh=>hh)) ?_
  ·simp at hq
   subst hq;exact List.mem_cons_self
  intro κ4 w4 h4;refine⟨pz b3,_,lL b3 0,rfl,?_⟩;have h5:ay ⟨w,F⟩ (lG b3 av fv (zG ix) (rf ix ix)++[]) w4:=by
   unfold lG;rw[e];exact h4
  exact(cR (t:=bW ix) h5 (Ik ix) rfl).head (b:=mH (pz b3) (bW ix)) (λG h=>⟨b3,rfl,h⟩)
end
end Go.Proofs.Ytankbefdlbcdnaa
