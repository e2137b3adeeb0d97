/- Part of a proof: see the last text. -/
import Derived.Test.YtkmccgombmogmaaGreatZe15
import Derived.WalkKit
import Derived.WalkSpells
import Derived.Lib.Walk
import Derived.Lib.SliceRun
import Derived.Deep.LoopGhost
import Derived.Laws.AppendOwn
set_option linter.unusedSectionVars false
set_option linter.unusedSimpArgs false
set_option linter.unusedVariables false
namespace Go.Proofs.YtkmccgombmogmaaGreat
open Go.Ev Go.Proofs.Tryz
open Go.RowKit Go.Lib
open Go.Ev (sy)
theorem rK{l:List aG}{e:TypeId}{v':Value}{n:Nat}{xs:List Value}{F:Nat->Prop}{w w':World}(h:cG l F w)(ho:w'.ownsRow w.heap.size e 1 v' n xs)(hb:Below w.heap.size w w'):∃ v2 cd,Ev.dec cd=v2/\Ending.returned v'=.returned v2/\af ⟨w,F⟩ (bQ e 1 v2 n xs::l) w':=by
 obtain⟨hl,ho⟩:=ho;have key:∃ Fn,dQ e 1 v' n xs Fn w'/\∀ j,Fn j->w.heap.size<=j:=by
  rcases ho with ⟨rfl,rfl⟩ | ⟨g,cap,cur,rfl,hg,hh,h1,h2,h3,h4⟩
  ·have:xs=[]:=List.eq_nil_of_length_eq_zero (by rw[hl])
   subst this;exact⟨λ_=>False,dQ.nil e 1 w',λ_ h=>h.elim⟩
  ·refine⟨λj=>j=g,⟨hl,.inr ⟨g,0,cap,cur,rfl,λ_=>Iff.rfl,hh,λi hi=>?_,by rw[h3];omega,h1⟩⟩,λj hj=>by rw[hj];exact hg⟩
   rw[← h4,Nat.zero_add,List.getElem?_take_of_lt hi];simp
 obtain⟨Fn,k1,k2⟩:=key;obtain⟨cd,hcd⟩:=k1.code;have hk:cG l F w':=fV h (λj hj=>hb.block j (h.lt j hj)) hb.size;refine⟨v',cd,hcd,rfl,⟨⟨_,bP (a:=bQ e 1 v' n xs) k1 hk (λj hj=>dQ.lt k1 j hj) (λj hj hf=>?_),⟨hb.os,hb.tape,hb.output,hb.size,λj hj _=>hb.block j hj⟩,λj hj=>?_⟩⟩⟩
 ·have:=h.lt j hf
  have:=k2 j hj;omega
 ·exact hj.elim (λh=>.inr (k2 j h)) .inl
set_option maxHeartbeats 2000000 in
set_option maxRecDepth 100000 in
theorem kO(ad:Addr)(n c:Nat)(xs:List Value)(w:World)(hl:xs.length=n)(hn:n<=1000000)(hone:∀ u ∈ xs,u.oneCell'=true)(hc:∀ (j:Nat) u,xs[j]? = some u->w.cell? (ad.add j)=some u) :
  Calls prog 97 #[.slice (some ad) n c] w λe w'=>∃ v',e=.returned v'/\w'.ownsRow w.heap.size 3 1 v' n xs/\Below w.heap.size w w':=by
 have mixed:=dD;obtain⟨i0,hi,hz1,hz0,hz2⟩:=bY;have q22:∀ (w:World) (a:Option Addr) (n c n' c':Nat),(binOp .eql 35 (.slice a n c) (.slice none n' c')).run prog w=.ok (.bool a.isNone) w:=λw a n c n' c'=>Lib.run_eql_slice_nil w _ _ a n c n' c' underlying35
 have A:Aside (∀ (j:Nat) u,xs[j]? = some u->w.cell? (ad.add j)=some u):=hc;clear hc
 go_enter func97,ntmps97
 go_wp2_with (at_builtin;refine wpList_append_own _ rfl _ _ 35 rfl w.heap.size 3 i0 (.int .i64 0) 1 8 underlying35 hi hz0 hz1 hz2 rfl (by decide) _ _ _ rfl (World.ownsRow_made w #[] 0 (Nat.le_refl _) (Nat.zero_le _) rfl) ad n c xs rfl ?qc1 ?qc2 ?qc3 ?qc4 ?qc5 ?qc6 ?_)
 case qc1=>simp;omega
 case qc2 =>
  intro j u hj;refine Lib.cell?_alloc_some _ ?_;exact A.out j u hj
 case qc3=>exact hone
 case qc4=>unfold maxLen;omega
 case qc5=>omega
 case qc6=>simp
 intro v' w1 hown hgrow hnil
 go_wp2
 go_ret
 refine⟨v',rfl,by simpa using hown,?_⟩;exact((Below.refl _ w).alloc (Nat.le_refl _) _).grown hgrow (by simp) (by intro k hk;simp[Value.ownBlock]at hk;omega)
set_option maxHeartbeats 1000000 in
theorem mR(n c:Nat)(w:World) :
  Calls prog 97 #[.slice none n c] w λe w'=>e=.returned (.slice none 0 0)/\w'=w:=by
 have mixed:=dD;have q22:∀ (w:World) (a:Option Addr) (n c n' c':Nat),(binOp .eql 35 (.slice a n c) (.slice none n' c')).run prog w=.ok (.bool a.isNone) w:=λw a n c n' c'=>Lib.run_eql_slice_nil w _ _ a n c n' c' underlying35
 go_enter func97,ntmps97
 go_wp2
 go_ret
 exact⟨rfl,rfl⟩
theorem t6{v:Value}{n:Nat}{xs:List Value}{F:Nat->Prop}{w:World}(hn:n<=1000000)(hone:∀ u ∈ xs,u.oneCell'=true)(h:cG [bQ 3 1 v n xs] F w) :
  Calls prog 97 #[v] w λe w'=>∃ v' cd,Ev.dec cd=v'/\e=.returned v'/\af ⟨w,F⟩ [bQ 3 1 v' n xs,bQ 3 1 v n xs] w':=by
 obtain⟨Fa,h1,h2⟩:=kM h;obtain⟨hl,hr⟩:=dQ.ro h1;rw[Nat.mul_one]at hl;have jS:∀ ad c,v=.slice (some ad) n c->(∀ (j:Nat) u,xs[j]? = some u->w.cell? (ad.add j)=some u)->Calls prog 97 #[v] w λe w'=>∃ v' cd,Ev.dec cd=v'/\e=.returned v'/\af ⟨w,F⟩ [bQ 3 1 v' n xs,bQ 3 1 v n xs] w':=by
  rintro ad c rfl hc;refine(kO ad n c xs w hl hn hone hc).mono ?_;rintro e w' ⟨v',rfl,ho,hb⟩;exact rK h ho hb
 rcases hr with ⟨rfl,a,c,rfl⟩ | ⟨b,off,c,rfl,_,hx⟩
 ·cases a with
  | some a=>exact jS a c rfl (λj u hj=>by rw[List.eq_nil_of_length_eq_zero hl]at hj;simp at hj)
  | none =>
   refine(mR 0 c w).mono ?_;rintro e w' ⟨rfl,rfl⟩;have hx0:xs=[]:=List.eq_nil_of_length_eq_zero hl;subst hx0;exact⟨_,_,(dQ.nil 3 1 w').code.choose_spec,rfl,(af.start h).eC⟩
 ·refine jS ⟨b,off,none⟩ c rfl (λj u hj=>?_)
  have hj':=(List.getElem?_eq_some_iff.1 hj).1;rw[fB,hx j (by omega),hj]
set_option maxHeartbeats 2000000 in
set_option maxRecDepth 100000 in
theorem vY(ad:Addr)(n c:Nat)(xs:List Value)(w:World)(hl:xs.length=n)(hn:n<=1000000)(hone:∀ u ∈ xs,u.oneCell'=true)(hc:∀ (j:Nat) u,xs[j]? = some u->w.cell? (ad.add j)=some u) :
  Calls prog 71 #[.slice (some ad) n c] w λe w'=>∃ v',e=.returned v'/\w'.ownsRow w.heap.size 51 1 v' n xs/\Below w.heap.size w w':=by
 have mixed:=dD;obtain⟨i0,hi,hz1,hz0,hz2⟩:=FM;have q22:∀ (w:World) (a:Option Addr) (n c n' c':Nat),(binOp .eql 50 (.slice a n c) (.slice none n' c')).run prog w=.ok (.bool a.isNone) w:=λw a n c n' c'=>Lib.run_eql_slice_nil w _ _ a n c n' c' underlying50
 have A:Aside (∀ (j:Nat) u,xs[j]? = some u->w.cell? (ad.add j)=some u):=hc;clear hc
 go_enter func71,ntmps71
 go_wp2_with (at_builtin;refine wpList_append_own _ rfl _ _ 50 rfl w.heap.size 51 i0 (.int .u64 0) 1 8 underlying50 hi hz0 hz1 hz2 rfl (by decide) _ _ _ rfl (World.ownsRow_made w #[] 0 (Nat.le_refl _) (Nat.zero_le _) rfl) ad n c xs rfl ?qc1 ?qc2 ?qc3 ?qc4 ?qc5 ?qc6 ?_)
 case qc1=>simp;omega
 case qc2 =>
  intro j u hj;refine Lib.cell?_alloc_some _ ?_;exact A.out j u hj
 case qc3=>exact hone
 case qc4=>unfold maxLen;omega
 case qc5=>omega
 case qc6=>simp
 intro v' w1 hown hgrow hnil
 go_wp2
 go_ret
 refine⟨v',rfl,by simpa using hown,?_⟩;exact((Below.refl _ w).alloc (Nat.le_refl _) _).grown hgrow (by simp) (by intro k hk;simp[Value.ownBlock]at hk;omega)
set_option maxHeartbeats 1000000 in
theorem tw(n c:Nat)(w:World) :
  Calls prog 71 #[.slice none n c] w λe w'=>e=.returned (.slice none 0 0)/\w'=w:=by
 have mixed:=dD;have q22:∀ (w:World) (a:Option Addr) (n c n' c':Nat),(binOp .eql 50 (.slice a n c) (.slice none n' c')).run prog w=.ok (.bool a.isNone) w:=λw a n c n' c'=>Lib.run_eql_slice_nil w _ _ a n c n' c' underlying50
 go_enter func71,ntmps71
 go_wp2
 go_ret
 exact⟨rfl,rfl⟩
theorem C6{v:Value}{n:Nat}{xs:List Value}{F:Nat->Prop}{w:World}(hn:n<=1000000)(hone:∀ u ∈ xs,u.oneCell'=true)(h:cG [bQ 51 1 v n xs] F w) :
  Calls prog 71 #[v] w λe w'=>∃ v' cd,Ev.dec cd=v'/\e=.returned v'/\af ⟨w,F⟩ [bQ 51 1 v' n xs,bQ 51 1 v n xs] w':=by
 obtain⟨Fa,h1,h2⟩:=kM h;obtain⟨hl,hr⟩:=dQ.ro h1;rw[Nat.mul_one]at hl;have jS:∀ ad c,v=.slice (some ad) n c->(∀ (j:Nat) u,xs[j]? = some u->w.cell? (ad.add j)=some u)->Calls prog 71 #[v] w λe w'=>∃ v' cd,Ev.dec cd=v'/\e=.returned v'/\af ⟨w,F⟩ [bQ 51 1 v' n xs,bQ 51 1 v n xs] w':=by
  rintro ad c rfl hc;refine(vY ad n c xs w hl hn hone hc).mono ?_;rintro e w' ⟨v',rfl,ho,hb⟩;exact rK h ho hb
 rcases hr with ⟨rfl,a,c,rfl⟩ | ⟨b,off,c,rfl,_,hx⟩
 ·cases a with
  | some a=>exact jS a c rfl (λj u hj=>by rw[List.eq_nil_of_length_eq_zero hl]at hj;simp at hj)
  | none =>
   refine(tw 0 c w).mono ?_;rintro e w' ⟨rfl,rfl⟩;have hx0:xs=[]:=List.eq_nil_of_length_eq_zero hl;subst hx0;exact⟨_,_,(dQ.nil 51 1 w').code.choose_spec,rfl,(af.start h).eC⟩
 ·refine jS ⟨b,off,none⟩ c rfl (λj u hj=>?_)
  have hj':=(List.getElem?_eq_some_iff.1 hj).1;rw[fB,hx j (by omega),hj]
end Go.Proofs.YtkmccgombmogmaaGreat
namespace Go.Proofs.YtkmccgombmogmaaGreat
open Go.Ev Go.Proofs.Tryz
open Go.RowKit
open Go.Ev (sy iz uz wz iN uN wN pz dv fc fn ak vk vd kn pc cc cr cm cd fr)
set_option maxRecDepth 8000
attribute [local irreducible] og
theorem Rx(W0:World)(F0:Nat->Prop)(n:Nat)(hn:n<=65536):ce prog 29 [] 0 9 ⟨W0,F0⟩ [(0,iN n)] [] (λκ:am=>(pz ((κ 404).getD 0))) (λκ:am=>[aH ((κ 404).getD 0) [.int .u64 0,.int .u64 0,.int .u64 0,.int .u64 0,.int .u64 0,.int .u64 0,.slice none 0 0,dv κ 403] 137,bQ 51 1 (dv κ 403) (n) (List.replicate (n) (.int .u64 0))]):=(eH (c:=⟨W0,F0⟩) 3 (kn [iN (n)] fr [] [] [] fn fn fn W0 F0 [[],[jE 403 (λv=>bQ 51 1 v (n) (List.replicate (n) (.int .u64 0)))]] [⟨[16,3,3],[sy 0,iz 65536],none,0,none,sy 0,none⟩,⟨[17,3,3],[iz 0,sy 0],none,0,none,sy 0,none⟩,⟨[19,50],[sy 0,sy 0],none,0,some 403,.complex .f32 403 0,some 1⟩] []) (fc (om (kd:=.i64) (a:=(n:Int)) (b:=65536) (gS rfl) Fz (by show Value.int .i64 (n:Int)=_;rw[show min (n:Int) 65536=n by omega])) (fc (I4 (kd:=.i64) (a:=0) (b:=(n:Int)) Fz (gS rfl) (by show Value.int .i64 (n:Int)=_;rw[show max 0 (n:Int)=n by omega])) (fc (by obtain⟨i,i1,i2,i3,i4⟩:=FM;exact FJ rfl rfl (gS rfl) (gS rfl) underlying50 i1 i2 i3 rfl (by rw[i4];omega) (by unfold maxLen;omega)) fn))) fn rfl [] [] [(404,[.int .u64 0,.int .u64 0,.int .u64 0,.int .u64 0,.int .u64 0,.int .u64 0,.slice none 0 0,.complex .f32 403 0],137)] 1 rfl rfl [(0,sy 0)] (.pointer (some ⟨404,0,none⟩))).conv (λκ w=>⟨(λ_ h=>h),(λ_ h=>fW (a:=λv=>bQ 51 1 v (n) (List.replicate (n) (.int .u64 0))) (λ_ _ _ _ _ h=>h) h),trivial⟩)
theorem PD(W0:World)(F0:Nat->Prop)(bm:Nat)(ops c1 c2 c3 c4 c5:Int)(lg cl:Value)(ll:aV lg=true)(lc:aV cl=true)(xs:List Int)(hx:xs.length<=1000000)(n:Nat)(xl:List Value):ce prog 39 [] 0 10 ⟨W0,F0⟩ [(0,pz bm)] [aH bm [uz ops,uz c1,uz c2,uz c3,uz c4,uz c5,lg,cl] 137,bQ 51 1 (cl) (xs.length) (iy xs),bQ 234 4 (lg) (n) (xl)] (λκ:am=>(dv κ 403)) (λκ:am=>[aH bm [uz ops,uz c1,uz c2,uz c3,uz c4,uz c5,lg,cl] 137,bQ 51 1 (dv κ 403) xs.length (iy xs),bQ 51 1 (cl) (xs.length) (iy xs),bQ 234 4 (lg) (n) (xl)]):=(eH (c:=⟨W0,F0⟩) 5 (kn [lg,cl,uz (ops),uz (c1),uz (c2),uz (c3),uz (c4),uz (c5)] (fc (by assumption) (fc (by assumption) fr)) [] [] [] fn fn fn W0 F0 [[bQ 51 1 (cl) (xs.length) (iy xs),bQ 234 4 (lg) (n) (xl)],[jE 403 (λv=>bQ 51 1 v xs.length (iy xs)),jE 403 (λv=>bQ 51 1 (cl) (xs.length) (iy xs)),bQ 234 4 (lg) (n) (xl)]] [] [⟨71,[sy 1],0,some 403,.complex .f32 403 0,some 1⟩]) fn (fc (cd rfl [λv=>bQ 51 1 v xs.length (iy xs),λv=>bQ 51 1 (cl) (xs.length) (iy xs)] [0] [1] (λw F ho hn hF=>C6 hx jQ hn)) fn) rfl [(4,bm)] [(4,[sy 2,sy 3,sy 4,sy 5,sy 6,sy 7,sy 0,sy 1],137)] [(4,[sy 2,sy 3,sy 4,sy 5,sy 6,sy 7,sy 0,sy 1],137)] 1 rfl rfl [(0,.pointer (some ⟨4,0,none⟩))] (.complex .f32 403 0)).conv (λκ w=>⟨(λ_ h=>h),(λ_ h=>fW (a:=λv=>bQ 51 1 v xs.length (iy xs)) (λ_ _ _ _ _ h=>h) h),(λ_ h=>fW (a:=λv=>bQ 51 1 (cl) (xs.length) (iy xs)) (λ_ _ _ _ _ h=>h) h),(λ_ h=>h),trivial⟩)
end Go.Proofs.YtkmccgombmogmaaGreat
namespace Go.Proofs.YtkmccgombmogmaaGreat
open Go.Ev Go.Proofs.Tryz
open Go.RowKit
open Go.Ev (sy)
set_option maxRecDepth 8000
def L0(v:Value)(m:bw):aG where
 p:=λ_ F w=>∃ bm,v=.pointer (some ⟨bm,0,none⟩)/\i9 bm m F w
 keep:=λ_ F w w' hk ⟨bm,e,h⟩=>⟨bm,e,rD h hk⟩
 mono:=λ_ _ _ _ _ h=>h
theorem C7{v:Value}{m:bw}{c:dc}{l:List aG}{w:World}(h:af c (L0 v m::l) w):∃ bm,v=.pointer (some ⟨bm,0,none⟩)/\af c (aK bm m::l) w :=
 h.yi (b:=λbm=>aK bm m) (p:=λbm=>v=.pointer (some ⟨bm,0,none⟩)) (λF ⟨bm,e,h⟩=>⟨bm,e,h⟩)
theorem C8{bm:Nat}{m:bw}{c:dc}{l:List aG}{w:World}(h:af c (aK bm m::l) w):af c (L0 (.pointer (some ⟨bm,0,none⟩)) m::l) w :=
 h.head (λF h=>⟨bm,rfl,h⟩)
theorem FSq(n:Nat):iy (List.replicate n 0)=List.replicate n (.int .u64 0):=by simp[iy]
section
variable{F:Nat->Prop}{w:World}
theorem FT{n:Nat}(hn:n<=65536)(h:cG [] F w) :
  Calls prog 29 #[.int .i64 (n:Int)] w λe w'=>∃ v cd,Ev.dec cd=v/\e=.returned v/\af ⟨w,F⟩ [L0 v ⟨List.replicate n 0,0⟩] w':=by
 refine a_ (Rx w F n hn) (by kernel_rfl) h (by simp) (by simp) (λκ w1 h1=>⟨_,_,qj _ _,rfl,?_⟩);refine C8 (yv (0,0,0,0,0,.slice none 0 0,Ev.dec ((κ 403).getD 0),0,[]) (Nat.zero_le _) ?_);have h2:=h1.eC (e := 234) (sz:=4);rw[← FSq]at h2;have h3:=h2.sel [1,2,0];have e:(List.replicate n (0:Int)).length=n:=by simp
 simp only[LW,e];exact h3
theorem FU{bm:Nat}{m:bw}(hx:m.cells.length<=1000000)(h:cG [aK bm m] F w) :
  Calls prog 39 #[.pointer (some ⟨bm,0,none⟩)] w λe w'=>∃ v cd,Ev.dec cd=v/\e=.returned v/\af ⟨w,F⟩ [bQ 51 1 v m.cells.length (iy m.cells),aK bm m] w':=by
 obtain⟨⟨c1,c2,c3,c4,c5,lg,cl,n,xl⟩,hn,l1,l2,hh⟩:=FI (af.start h);obtain⟨F',n1,n2,n3⟩:=hh.ex;refine a_ (PD w F' bm m.ops c1 c2 c3 c4 c5 lg cl l1 l2 m.cells hx n xl) (by kernel_rfl) n1 (by simp) (by simp) (λκ w1 h1=>⟨_,_,rfl,rfl,?_⟩);exact(yv (l:=[_]) (c1,c2,c3,c4,c5,lg,cl,n,xl) hn ((h1.into (l:=[]) n2 n3).sel [0,2,3,1])).sel [1,0]
end
end Go.Proofs.YtkmccgombmogmaaGreat
namespace Go.Proofs.YtkmccgombmogmaaGreat
open Go.Ev Go.Proofs.Tryz
open Go.RowKit
open Go.Ev (sy iz uz wz iN uN wN pz dv fc fn ak vk vd kn pc cc cr cm cd fr)
set_option maxRecDepth 8000
attribute [local irreducible] og
end Go.Proofs.YtkmccgombmogmaaGreat
namespace Go.Proofs.YtkmccgombmogmaaGreat
open Go.Ev Go.Proofs.Tryz
open Go.RowKit
open Go.Ev (sy)
set_option maxRecDepth 8000
end Go.Proofs.YtkmccgombmogmaaGreat
namespace Go.Proofs.YtkmccgombmogmaaGreat
open Go.Ev Go.Proofs.Tryz
open Go.RowKit
open Go.Ev (sy iz uz wz iN uN wN pz dv fc fn ak vk vd kn pc cc cr cm cd fr)
set_option maxRecDepth 8000
attribute [local irreducible] og
theorem yy{l:List aG}{F:Nat->Prop}{w:World}(h:cG l F w){i:Nat}{e:TypeId}{sz n:Nat}{v:Value}{xs:List Value}(hi:l[i]? = some (bQ e sz v n xs)):aV v=true:=by
 obtain⟨f,hf⟩:=h.part hi;exact dQ.leaf hf
structure SP where
 W0:World
 F0:Nat->Prop
 c:aP
 p:Nat
 hp:p<c.n
 gg:Int
 hg:0<=gg/\gg<=9223372036854775807
 w:Int
 hw:fg w
 k:Int
 bp:Nat
 bm:Nat
 m:bw
 tk:Value
 hd:Value
 mF:aV tk=true
 wB:aV hd=true
 ts:List Int
 hs:List Int
 hl:m.cells.length=4+c.off c.n
 hts:ts.length<=64
theorem fp{xs:List Int}{a:Nat}{x:Int}(h:xs[a]? = some x)(hl:xs.length<=1000000):(a:Int)<=9223372036854775807:=by
 have:=(List.getElem?_eq_some_iff.1 h).1;omega
abbrev SP.i4(s:SP):Int:=IntKind.u32.wrap (cy s.w+IntKind.u32.wrap (((s.ts.length:Nat):Int)-((s.c.q / 2:Nat):Int)))
abbrev FV(s:SP):Value:=(.agg #[iN s.c.n,iN s.c.q,iz s.c.g,iz s.c.m,iz s.c.t,iz s.c.s])
abbrev BI:List ic:=[(4,[sy 9,sy 2,sy 10,sy 11,sy 12,sy 13,sy 14,iz 1,sy 15,sy 16,sy 6,sy 0,sy 1],148)]
abbrev oB:List (Nat×Value):=[(0,.pointer (some ⟨4,0,none⟩)),(1,sy 17)]
abbrev i_(s:SP):aG:=bQ 3 1 (s.tk) (s.ts.length) (bu s.ts)
abbrev fF(s:SP):aG:=bQ 3 1 (s.hd) (s.hs.length) (bu s.hs)
abbrev oC(s:SP):List aG:=[aK s.bm s.m,i_ s,fF s]
abbrev t7(s:SP):List aG:=[aK s.bm s.m.tick,i_ s,fF s]
abbrev oD(s:SP):List (Nat×Value):=[(0,pz s.bp),(1,pz s.bm)]
abbrev FW(s:SP):aG:=aH s.bp [iN s.c.n,iN s.c.q,iz s.c.g,iz s.c.m,iz s.c.t,iz s.c.s,iN s.p,iz 1,uz s.w,wz s.k,iz s.gg,s.tk,s.hd] 148
abbrev FX(s:SP):List aG:=[FW s,aK s.bm s.m,i_ s,fF s]
abbrev Ap:List ic:=[(4,[sy 9,sy 2,sy 10,sy 11,sy 12,sy 13,sy 14,iz 3,sy 15,sy 16,sy 6,sy 0,sy 1],148)]
abbrev FY(s:SP):aG:=aH s.bp [iN s.c.n,iN s.c.q,iz s.c.g,iz s.c.m,iz s.c.t,iz s.c.s,iN s.p,iz 3,uz s.w,wz s.k,iz s.gg,s.tk,s.hd] 148
abbrev FZ(s:SP):List aG:=[FY s,aK s.bm s.m,i_ s,fF s]
abbrev F6(s:SP):List aG:=[FW s,aK s.bm s.m.tick,i_ s,fF s]
abbrev F7:List ic:=[(4,[sy 9,sy 2,sy 10,sy 11,sy 12,sy 13,sy 14,iz 4,sy 15,sy 16,sy 6,sy 0,sy 1],148)]
abbrev F8(s:SP)(x:Int):List aG:=[aK s.bm s.m.tick,jE 415 (λv=>bQ 3 1 v (s.ts.length+1) ((bu s.ts)++[(iz (IntKind.i64.wrap (x)))])),fF s]
abbrev Ga(s:SP):List aG:=[aH s.bp [iN s.c.n,iN s.c.q,iz s.c.g,iz s.c.m,iz s.c.t,iz s.c.s,iN s.p,iz 4,uz s.w,wz s.k,iz s.gg,s.tk,s.hd] 148,aK s.bm s.m,i_ s,fF s]
abbrev Gb:List ic:=[(4,[sy 9,sy 2,sy 10,sy 11,sy 12,sy 13,sy 14,iz 5,sy 15,sy 16,sy 6,sy 0,sy 1],148)]
abbrev Gc(s:SP):List aG:=[aH s.bp [iN s.c.n,iN s.c.q,iz s.c.g,iz s.c.m,iz s.c.t,iz s.c.s,iN s.p,iz 5,uz s.w,wz s.k,iz s.gg,s.tk,s.hd] 148,aK s.bm s.m,i_ s,fF s]
abbrev Aq(s:SP):aG:=aK s.bm (s.m.put (s.c.word s.p) (dF s.w (-((s.c.q / 2:Nat):Int))))
theorem Ry(s:SP)(x:Int)(hxu:fg x)(hxa:s.m.cells[s.c.word s.p]? = some x)(h1:(aO (x))≥((s.c.q:Nat):Int)):ce prog 138 [] 0 20 ⟨s.W0,s.F0⟩ (oD s) (FX s) (λκ:am=>(.bool false)) (λκ:am=>[aH s.bp [iN s.c.n,iN s.c.q,iz s.c.g,iz s.c.m,iz s.c.t,iz s.c.s,iN s.p,iz 4,uz x,.int .u32 0,iz s.gg,.slice none 0 0,s.hd] 148,aK s.bm s.m.tick,i_ s,fF s]):=by have q0:=s.c.z s.hp;have q6:=s.hl;have q8:=s.hg;have q9:=s.hts;exact(eH (c:=⟨s.W0,s.F0⟩) 5 (kn [s.tk,s.hd,iN (s.c.q),iN (s.c.q / 2),wN (s.c.q / 2),wN (s.c.q),iz (s.gg),uz (s.gg),wz (cy (s.w)),iN (s.c.n),iz (s.c.g),iz (s.c.m),iz (s.c.t),iz (s.c.s),iN (s.p),uz (s.w),wz (s.k),pz s.bm,iN (s.c.word s.p),uz (x),wz (aO (x))] (fc s.mF (fc s.wB fr)) [(.geq,sy 20,sy 5,.bool true)] [] [(.u32,sy 2,sy 5)] (fc (λ_ _ _=>fe (by first|(simpa using h1)|(simp;omega))) fn) fn (fc (cx rfl rfl (by have q2:=s.c.qb;rw[b7];omega)) fn) s.W0 s.F0 [oC s,t7 s] [] [⟨40,[.agg #[sy 9,sy 2,sy 10,sy 11,sy 12,sy 13],sy 14],0,none,sy 18,none⟩,⟨150,[sy 17,sy 18],0,none,sy 19,some 1⟩,⟨42,[sy 19],1,none,sy 20,none⟩]) fn (fc (pc rfl (λw hb=>cD s.c s.p s.hp w)) (fc (cc rfl [aK s.bm s.m.tick] [0] [1,2] (λw F ho hn hF=>cZ hn hxa (fp hxa (by omega)))) (fc (pc (args:=[uz x]) rfl (λw hb=>ag (cz _ hxu w))) fn))) rfl [(4,s.bp)] BI [(4,[sy 9,sy 2,sy 10,sy 11,sy 12,sy 13,sy 14,iz 4,sy 19,.int .u32 0,sy 6,.slice none 0 0,sy 1],148)] 1 rfl rfl oB (.bool false))
theorem pub(s:SP)(x:Int)(hxu:fg x)(hxa:s.m.cells[s.c.word s.p]? = some x)(h1:¬ (aO (x))≥((s.c.q:Nat):Int)):ce prog 138 [] 0 20 ⟨s.W0,s.F0⟩ (oD s) (FX s) (λκ:am=>(.bool false)) (λκ:am=>[aH s.bp [iN s.c.n,iN s.c.q,iz s.c.g,iz s.c.m,iz s.c.t,iz s.c.s,iN s.p,iz 2,uz x,.int .u32 0,iz s.gg,.slice none 0 0,s.hd] 148,aK s.bm s.m.tick,i_ s,fF s]):=by have q0:=s.c.z s.hp;have q6:=s.hl;have q8:=s.hg;have q9:=s.hts;exact(eH (c:=⟨s.W0,s.F0⟩) 5 (kn [s.tk,s.hd,iN (s.c.q),iN (s.c.q / 2),wN (s.c.q / 2),wN (s.c.q),iz (s.gg),uz (s.gg),wz (cy (s.w)),iN (s.c.n),iz (s.c.g),iz (s.c.m),iz (s.c.t),iz (s.c.s),iN (s.p),uz (s.w),wz (s.k),pz s.bm,iN (s.c.word s.p),uz (x),wz (aO (x))] (fc s.mF (fc s.wB fr)) [(.geq,sy 20,sy 5,.bool false)] [] [(.u32,sy 2,sy 5)] (fc (λ_ _ _=>fe (by first|(simpa using h1)|(simp;omega))) fn) fn (fc (cx rfl rfl (by have q2:=s.c.qb;rw[b7];omega)) fn) s.W0 s.F0 [oC s,t7 s] [] [⟨40,[.agg #[sy 9,sy 2,sy 10,sy 11,sy 12,sy 13],sy 14],0,none,sy 18,none⟩,⟨150,[sy 17,sy 18],0,none,sy 19,some 1⟩,⟨42,[sy 19],1,none,sy 20,none⟩]) fn (fc (pc rfl (λw hb=>cD s.c s.p s.hp w)) (fc (cc rfl [aK s.bm s.m.tick] [0] [1,2] (λw F ho hn hF=>cZ hn hxa (fp hxa (by omega)))) (fc (pc (args:=[uz x]) rfl (λw hb=>ag (cz _ hxu w))) fn))) rfl [(4,s.bp)] BI [(4,[sy 9,sy 2,sy 10,sy 11,sy 12,sy 13,sy 14,iz 2,sy 19,.int .u32 0,sy 6,.slice none 0 0,sy 1],148)] 1 rfl rfl oB (.bool false))
theorem Rz(s:SP)(ha:s.c.slot s.p (cy s.w)<s.m.cells.length):ce prog 138 [] 0 20 ⟨s.W0,s.F0⟩ (oD s) [aH s.bp [iN s.c.n,iN s.c.q,iz s.c.g,iz s.c.m,iz s.c.t,iz s.c.s,iN s.p,iz 2,uz s.w,wz s.k,iz s.gg,s.tk,s.hd] 148,aK s.bm s.m,i_ s,fF s] (λκ:am=>(.bool false)) (λκ:am=>[FY s,aK s.bm (s.m.put (s.c.slot s.p (cy (s.w))) (s.gg)),i_ s,fF s]):=by have q8:=s.hg;exact(eH (c:=⟨s.W0,s.F0⟩) 5 (kn [s.tk,s.hd,iN (s.c.q),iN (s.c.q / 2),wN (s.c.q / 2),wN (s.c.q),iz (s.gg),uz (s.gg),wz (cy (s.w)),iN (s.c.n),iz (s.c.g),iz (s.c.m),iz (s.c.t),iz (s.c.s),iN (s.p),uz (s.w),wz (s.k),pz s.bm,iN (s.c.slot s.p (cy (s.w)))] (fc s.mF (fc s.wB fr)) [(.add,sy 8,.int .u32 0,sy 8)] [] [(.u64,sy 6,sy 7)] (fc (λ_ _ _=>aN (by have:=bF s.w;rw[b7];omega)) fn) fn (fc (cx rfl rfl (FQ (by omega) (by omega))) fn) s.W0 s.F0 [oC s,[aK s.bm (s.m.put (s.c.slot s.p (cy (s.w))) (s.gg)),i_ s,fF s]] [] [⟨74,[sy 15],0,none,sy 8,none⟩,⟨43,[.agg #[sy 9,sy 2,sy 10,sy 11,sy 12,sy 13],sy 14,sy 8],0,none,sy 18,none⟩,⟨147,[sy 17,sy 18,sy 7],0,none,.tuple #[],some 1⟩]) fn (fc (pc (args:=[uz s.w]) rfl (λw hb=>ag (lR _ s.hw w))) (fc (pc (args:=[FV s,iN s.p,(wz (cy (s.w)))]) rfl (λw hb=>iA s.c s.p s.hp (cy (s.w)) (by first | exact(bF _).1 | exact kN _) w)) (fc (cc rfl [aK s.bm (s.m.put (s.c.slot s.p (cy (s.w))) (s.gg))] [0] [1,2] (λw F ho hn hF=>nu hn ha (by have q0:=s.c.z s.hp;have q6:=s.hl;have q9:=s.hts;omega) (s.gg))) fn))) rfl [(4,s.bp)] [(4,[sy 9,sy 2,sy 10,sy 11,sy 12,sy 13,sy 14,iz 2,sy 15,sy 16,sy 6,sy 0,sy 1],148)] Ap 1 rfl rfl oB (.bool false))
theorem RA(s:SP)(x:Int)(hxu:fg x)(hxa:s.m.cells[s.c.word s.p]? = some x)(hc:x≠s.w):ce prog 138 [] 0 20 ⟨s.W0,s.F0⟩ (oD s) (FZ s) (λκ:am=>(.bool false)) (λκ:am=>(F6 s)):=(eH (c:=⟨s.W0,s.F0⟩) 5 (kn [s.tk,s.hd,iN (s.c.q),iN (s.c.q / 2),wN (s.c.q / 2),wN (s.c.q),iz (s.gg),uz (s.gg),wz (cy (s.w)),iN (s.c.n),iz (s.c.g),iz (s.c.m),iz (s.c.t),iz (s.c.s),iN (s.p),uz (s.w),wz (s.k),pz s.bm,uz (dF s.w 1),iN (s.c.word s.p)] (fc s.mF (fc s.wB fr)) [] [] [] fn fn fn s.W0 s.F0 [oC s,t7 s] [] [⟨113,[sy 15,.int .u32 1],0,none,sy 18,none⟩,⟨40,[.agg #[sy 9,sy 2,sy 10,sy 11,sy 12,sy 13],sy 14],0,none,sy 19,none⟩,⟨154,[sy 17,sy 19,sy 15,sy 18],0,none,.bool false,some 1⟩]) fn (fc (pc (args:=[uz s.w,.int .u32 1]) rfl (λw hb=>ag (t5 _ 1 s.hw w))) (fc (pc rfl (λw hb=>cD s.c s.p s.hp w)) (fc (cc rfl [aK s.bm s.m.tick] [0] [1,2] (λw F ho hn hF=>ou hn hxa (by have q0:=s.c.z s.hp;have q6:=s.hl;have q8:=s.hg;have q9:=s.hts;omega) s.w (dF s.w 1) hc)) fn))) rfl [(4,s.bp)] Ap BI 1 rfl rfl oB (.bool false))
theorem RC(s:SP)(x:Int)(hxu:fg x)(hxa:s.m.cells[s.c.word s.p]? = some x)(hc:x=s.w):ce prog 138 [] 0 20 ⟨s.W0,s.F0⟩ (oD s) (FZ s) (λκ:am=>(.bool true)) (λκ:am=>[aH s.bp [iN s.c.n,iN s.c.q,iz s.c.g,iz s.c.m,iz s.c.t,iz s.c.s,iN s.p,iz 0,uz s.w,wz s.k,iz s.gg,s.tk,.slice none 0 0] 148,aK s.bm (s.m.put (s.c.word s.p) (dF s.w 1)),i_ s,fF s]):=(eH (c:=⟨s.W0,s.F0⟩) 5 (kn [s.tk,s.hd,iN (s.c.q),iN (s.c.q / 2),wN (s.c.q / 2),wN (s.c.q),iz (s.gg),uz (s.gg),wz (cy (s.w)),iN (s.c.n),iz (s.c.g),iz (s.c.m),iz (s.c.t),iz (s.c.s),iN (s.p),uz (s.w),wz (s.k),pz s.bm,uz (dF s.w 1),iN (s.c.word s.p)] (fc s.mF (fc s.wB fr)) [] [] [] fn fn fn s.W0 s.F0 [oC s,[aK s.bm (s.m.put (s.c.word s.p) (dF s.w 1)),i_ s,fF s]] [] [⟨113,[sy 15,.int .u32 1],0,none,sy 18,none⟩,⟨40,[.agg #[sy 9,sy 2,sy 10,sy 11,sy 12,sy 13],sy 14],0,none,sy 19,none⟩,⟨154,[sy 17,sy 19,sy 15,sy 18],0,none,.bool true,some 1⟩]) fn (fc (pc (args:=[uz s.w,.int .u32 1]) rfl (λw hb=>ag (t5 _ 1 s.hw w))) (fc (pc rfl (λw hb=>cD s.c s.p s.hp w)) (fc (cc rfl [aK s.bm (s.m.put (s.c.word s.p) (dF s.w 1))] [0] [1,2] (λw F ho hn hF=>jR hn hxa (by have q0:=s.c.z s.hp;have q6:=s.hl;have q8:=s.hg;have q9:=s.hts;omega) s.w (dF s.w 1) hc)) fn))) rfl [(4,s.bp)] Ap [(4,[sy 9,sy 2,sy 10,sy 11,sy 12,sy 13,sy 14,iz 0,sy 15,sy 16,sy 6,sy 0,.slice none 0 0],148)] 1 rfl rfl oB (.bool true))
theorem RD(s:SP)(x:Int)(hxu:fg x)(hxa:s.m.cells[s.c.slot s.p s.i4]? = some x)(h1:((s.ts.length+1:Nat):Int)=((s.c.q / 2:Nat):Int)):ce prog 138 [] 0 20 ⟨s.W0,s.F0⟩ (oD s) (Ga s) (λκ:am=>(.bool false)) (λκ:am=>[aH s.bp [iN s.c.n,iN s.c.q,iz s.c.g,iz s.c.m,iz s.c.t,iz s.c.s,iN s.p,iz 5,uz s.w,wz s.k,iz s.gg,dv κ 415,s.hd] 148,aK s.bm s.m.tick,bQ 3 1 (dv κ 415) (s.ts.length+1) ((bu s.ts)++[(iz (IntKind.i64.wrap (x)))]),fF s]):=by have q0:=s.c.z s.hp;have q6:=s.hl;have q8:=s.hg;have q9:=s.hts;have q2:=s.c.qb;obtain⟨i,i1,i2,i3,i4⟩:=bY;exact(eH (c:=⟨s.W0,s.F0⟩) 5 (kn [s.tk,s.hd,iN (s.c.q),iN (s.c.q / 2),wN (s.c.q / 2),wN (s.c.q),iz (s.gg),uz (s.gg),wz (cy (s.w)),iN (s.c.n),iz (s.c.g),iz (s.c.m),iz (s.c.t),iz (s.c.s),iN (s.p),uz (s.w),wz (s.k),pz s.bm,iN (s.ts.length),iz (((s.ts.length:Nat):Int)-((s.c.q / 2:Nat):Int)),wz (IntKind.u32.wrap (((s.ts.length:Nat):Int)-((s.c.q / 2:Nat):Int))),wz (IntKind.u32.wrap ((cy (s.w))+(IntKind.u32.wrap (((s.ts.length:Nat):Int)-((s.c.q / 2:Nat):Int))))),iN (s.c.slot s.p (IntKind.u32.wrap ((cy (s.w))+(IntKind.u32.wrap (((s.ts.length:Nat):Int)-((s.c.q / 2:Nat):Int)))))),uz (x),iz (IntKind.i64.wrap (x)),iN (s.ts.length+1)] (fc s.mF (fc s.wB fr)) [(.quo,sy 2,iz 2,sy 3),(.sub,sy 18,sy 3,sy 19),(.add,sy 8,sy 20,sy 21),(.eql,sy 25,sy 3,.bool true)] [] [(.u32,sy 3,sy 4),(.i64,sy 4,sy 3),(.u32,sy 19,sy 20),(.i64,sy 23,sy 24)] (fc (λ_ _ _=>nk (by decide) (oA s.c)) (fc (λ_ _ _=>rh (by exact aW (by omega) (by omega))) (fc (λ_ _ _=>aN rfl) (fc (λ_ _ _=>cO (by first|(simpa using h1)|(simp;omega))) fn)))) fn (fc (cx rfl rfl (by rw[b7];omega)) (fc (cx rfl rfl (by exact aW (by omega) (by omega))) (fc ⟨.i64,_,rfl,rfl⟩ (fc ⟨.u64,_,rfl,rfl⟩ fn)))) s.W0 s.F0 [oC s,t7 s,(F8 s x)] [⟨[10,35],[sy 0],none,0,none,sy 18,none⟩,⟨[11,35,35],[sy 0],some (1,1,[sy 24]),1,some 415,.complex .f32 415 0,some 2⟩,⟨[10,35],[.complex .f32 415 0],none,2,none,sy 25,none⟩] [⟨74,[sy 15],0,none,sy 8,none⟩,⟨43,[.agg #[sy 9,sy 2,sy 10,sy 11,sy 12,sy 13],sy 14,sy 21],0,none,sy 22,none⟩,⟨150,[sy 17,sy 22],0,none,sy 23,some 1⟩]) (fc (by exact bx (ci:=2) rfl rfl underlying35 i2 rfl rfl) (fc (by exact jP (ci:=2) (m:=1) (cs:=[(iz (IntKind.i64.wrap (x)))]) rfl rfl rfl underlying35 underlying35 i1 i2 (by omega) i3 (by rw[i2];rfl) (by rw[i4];omega) (by omega) rfl rfl (ak (by kernel_rfl) (by kernel_rfl))) (fc (by exact qx (ci:=2) rfl rfl underlying35 i2 rfl) fn))) (fc (pc (args:=[uz s.w]) rfl (λw hb=>ag (lR _ s.hw w))) (fc (pc (args:=[FV s,iN s.p,(wz (IntKind.u32.wrap ((cy (s.w))+(IntKind.u32.wrap (((s.ts.length:Nat):Int)-((s.c.q / 2:Nat):Int))))))]) rfl (λw hb=>iA s.c s.p s.hp (IntKind.u32.wrap ((cy (s.w))+(IntKind.u32.wrap (((s.ts.length:Nat):Int)-((s.c.q / 2:Nat):Int))))) (by first | exact(bF _).1 | exact kN _) w)) (fc (cc rfl [aK s.bm s.m.tick] [0] [1,2] (λw F ho hn hF=>cZ hn hxa (fp hxa (by omega)))) fn))) rfl [(4,s.bp)] F7 [(4,[sy 9,sy 2,sy 10,sy 11,sy 12,sy 13,sy 14,iz 5,sy 15,sy 16,sy 6,.complex .f32 415 0,sy 1],148)] 2 rfl rfl oB (.bool false)).conv (λκ w=>⟨(λ_ h=>h),(λ_ h=>h),(λ_ h=>fW (a:=λv=>bQ 3 1 v (s.ts.length+1) ((bu s.ts)++[(iz (IntKind.i64.wrap (x)))])) (λ_ _ _ _ _ h=>h) h),(λ_ h=>h),trivial⟩)
theorem RE(s:SP)(x:Int)(hxu:fg x)(hxa:s.m.cells[s.c.slot s.p s.i4]? = some x)(h1:¬ ((s.ts.length+1:Nat):Int)=((s.c.q / 2:Nat):Int)):ce prog 138 [] 0 20 ⟨s.W0,s.F0⟩ (oD s) (Ga s) (λκ:am=>(.bool false)) (λκ:am=>[aH s.bp [iN s.c.n,iN s.c.q,iz s.c.g,iz s.c.m,iz s.c.t,iz s.c.s,iN s.p,iz 4,uz s.w,wz s.k,iz s.gg,dv κ 415,s.hd] 148,aK s.bm s.m.tick,bQ 3 1 (dv κ 415) (s.ts.length+1) ((bu s.ts)++[(iz (IntKind.i64.wrap (x)))]),fF s]):=by have q0:=s.c.z s.hp;have q6:=s.hl;have q8:=s.hg;have q9:=s.hts;have q2:=s.c.qb;obtain⟨i,i1,i2,i3,i4⟩:=bY;exact(eH (c:=⟨s.W0,s.F0⟩) 5 (kn [s.tk,s.hd,iN (s.c.q),iN (s.c.q / 2),wN (s.c.q / 2),wN (s.c.q),iz (s.gg),uz (s.gg),wz (cy (s.w)),iN (s.c.n),iz (s.c.g),iz (s.c.m),iz (s.c.t),iz (s.c.s),iN (s.p),uz (s.w),wz (s.k),pz s.bm,iN (s.ts.length),iz (((s.ts.length:Nat):Int)-((s.c.q / 2:Nat):Int)),wz (IntKind.u32.wrap (((s.ts.length:Nat):Int)-((s.c.q / 2:Nat):Int))),wz (IntKind.u32.wrap ((cy (s.w))+(IntKind.u32.wrap (((s.ts.length:Nat):Int)-((s.c.q / 2:Nat):Int))))),iN (s.c.slot s.p (IntKind.u32.wrap ((cy (s.w))+(IntKind.u32.wrap (((s.ts.length:Nat):Int)-((s.c.q / 2:Nat):Int)))))),uz (x),iz (IntKind.i64.wrap (x)),iN (s.ts.length+1)] (fc s.mF (fc s.wB fr)) [(.quo,sy 2,iz 2,sy 3),(.sub,sy 18,sy 3,sy 19),(.add,sy 8,sy 20,sy 21),(.eql,sy 25,sy 3,.bool false)] [] [(.u32,sy 3,sy 4),(.i64,sy 4,sy 3),(.u32,sy 19,sy 20),(.i64,sy 23,sy 24)] (fc (λ_ _ _=>nk (by decide) (oA s.c)) (fc (λ_ _ _=>rh (by exact aW (by omega) (by omega))) (fc (λ_ _ _=>aN rfl) (fc (λ_ _ _=>cO (by first|(simpa using h1)|(simp;omega))) fn)))) fn (fc (cx rfl rfl (by rw[b7];omega)) (fc (cx rfl rfl (by exact aW (by omega) (by omega))) (fc ⟨.i64,_,rfl,rfl⟩ (fc ⟨.u64,_,rfl,rfl⟩ fn)))) s.W0 s.F0 [oC s,t7 s,(F8 s x)] [⟨[10,35],[sy 0],none,0,none,sy 18,none⟩,⟨[11,35,35],[sy 0],some (1,1,[sy 24]),1,some 415,.complex .f32 415 0,some 2⟩,⟨[10,35],[.complex .f32 415 0],none,2,none,sy 25,none⟩] [⟨74,[sy 15],0,none,sy 8,none⟩,⟨43,[.agg #[sy 9,sy 2,sy 10,sy 11,sy 12,sy 13],sy 14,sy 21],0,none,sy 22,none⟩,⟨150,[sy 17,sy 22],0,none,sy 23,some 1⟩]) (fc (by exact bx (ci:=2) rfl rfl underlying35 i2 rfl rfl) (fc (by exact jP (ci:=2) (m:=1) (cs:=[(iz (IntKind.i64.wrap (x)))]) rfl rfl rfl underlying35 underlying35 i1 i2 (by omega) i3 (by rw[i2];rfl) (by rw[i4];omega) (by omega) rfl rfl (ak (by kernel_rfl) (by kernel_rfl))) (fc (by exact qx (ci:=2) rfl rfl underlying35 i2 rfl) fn))) (fc (pc (args:=[uz s.w]) rfl (λw hb=>ag (lR _ s.hw w))) (fc (pc (args:=[FV s,iN s.p,(wz (IntKind.u32.wrap ((cy (s.w))+(IntKind.u32.wrap (((s.ts.length:Nat):Int)-((s.c.q / 2:Nat):Int))))))]) rfl (λw hb=>iA s.c s.p s.hp (IntKind.u32.wrap ((cy (s.w))+(IntKind.u32.wrap (((s.ts.length:Nat):Int)-((s.c.q / 2:Nat):Int))))) (by first | exact(bF _).1 | exact kN _) w)) (fc (cc rfl [aK s.bm s.m.tick] [0] [1,2] (λw F ho hn hF=>cZ hn hxa (fp hxa (by omega)))) fn))) rfl [(4,s.bp)] F7 [(4,[sy 9,sy 2,sy 10,sy 11,sy 12,sy 13,sy 14,iz 4,sy 15,sy 16,sy 6,.complex .f32 415 0,sy 1],148)] 2 rfl rfl oB (.bool false)).conv (λκ w=>⟨(λ_ h=>h),(λ_ h=>h),(λ_ h=>fW (a:=λv=>bQ 3 1 v (s.ts.length+1) ((bu s.ts)++[(iz (IntKind.i64.wrap (x)))])) (λ_ _ _ _ _ h=>h) h),(λ_ h=>h),trivial⟩)
theorem RF(s:SP)(x:Int)(hxu:fg x)(hxa:s.m.cells[s.c.word s.p]? = some x)(hc:x≠s.w):ce prog 138 [] 0 20 ⟨s.W0,s.F0⟩ (oD s) (Gc s) (λκ:am=>(.bool false)) (λκ:am=>(F6 s)):=(eH (c:=⟨s.W0,s.F0⟩) 5 (kn [s.tk,s.hd,iN (s.c.q),iN (s.c.q / 2),wN (s.c.q / 2),wN (s.c.q),iz (s.gg),uz (s.gg),wz (cy (s.w)),iN (s.c.n),iz (s.c.g),iz (s.c.m),iz (s.c.t),iz (s.c.s),iN (s.p),uz (s.w),wz (s.k),pz s.bm,uz (dF s.w (-((s.c.q / 2:Nat):Int))),iN (s.c.word s.p)] (fc s.mF (fc s.wB fr)) [(.quo,sy 2,iz 2,sy 3)] [] [(.u32,sy 3,sy 4)] (fc (λ_ _ _=>nk (by decide) (oA s.c)) fn) fn (fc (cx rfl rfl (by have q2:=s.c.qb;rw[b7];omega)) fn) s.W0 s.F0 [oC s,t7 s] [] [⟨96,[sy 15,sy 4],0,none,sy 18,none⟩,⟨40,[.agg #[sy 9,sy 2,sy 10,sy 11,sy 12,sy 13],sy 14],0,none,sy 19,none⟩,⟨154,[sy 17,sy 19,sy 15,sy 18],0,none,.bool false,some 1⟩]) fn (fc (pc (args:=[uz s.w,wN (s.c.q / 2)]) rfl (λw hb=>ag (yx _ _ s.hw w))) (fc (pc rfl (λw hb=>cD s.c s.p s.hp w)) (fc (cc rfl [aK s.bm s.m.tick] [0] [1,2] (λw F ho hn hF=>ou hn hxa (by have q0:=s.c.z s.hp;have q6:=s.hl;have q8:=s.hg;have q9:=s.hts;omega) s.w (dF s.w (-((s.c.q / 2:Nat):Int))) hc)) fn))) rfl [(4,s.bp)] Gb BI 1 rfl rfl oB (.bool false))
theorem RG(s:SP)(x:Int)(hxu:fg x)(hxa:s.m.cells[s.c.word s.p]? = some x)(hc:x=s.w):ce prog 138 [] 0 20 ⟨s.W0,s.F0⟩ (oD s) (Gc s) (λκ:am=>(.bool true)) (λκ:am=>[aH s.bp [iN s.c.n,iN s.c.q,iz s.c.g,iz s.c.m,iz s.c.t,iz s.c.s,iN s.p,iz 0,uz s.w,wz s.k,iz s.gg,s.tk,dv κ 415] 148,Aq s,bQ 3 1 (dv κ 415) (s.ts.length+1) ((bu s.ts)++[iz s.gg]),fF s]):=by have q0:=s.c.z s.hp;have q6:=s.hl;have q8:=s.hg;have q9:=s.hts;exact(eH (c:=⟨s.W0,s.F0⟩) 5 (kn [s.tk,s.hd,iN (s.c.q),iN (s.c.q / 2),wN (s.c.q / 2),wN (s.c.q),iz (s.gg),uz (s.gg),wz (cy (s.w)),iN (s.c.n),iz (s.c.g),iz (s.c.m),iz (s.c.t),iz (s.c.s),iN (s.p),uz (s.w),wz (s.k),pz s.bm,uz (dF s.w (-((s.c.q / 2:Nat):Int))),iN (s.c.word s.p)] (fc s.mF (fc s.wB fr)) [(.quo,sy 2,iz 2,sy 3)] [] [(.u32,sy 3,sy 4)] (fc (λ_ _ _=>nk (by decide) (oA s.c)) fn) fn (fc (cx rfl rfl (by have q2:=s.c.qb;rw[b7];omega)) fn) s.W0 s.F0 [oC s,[Aq s,i_ s,fF s],[Aq s,jE 415 (λv=>bQ 3 1 v (s.ts.length+1) ((bu s.ts)++[iz s.gg])),fF s]] [⟨[11,35,35],[sy 0],some (1,1,[sy 6]),1,some 415,.complex .f32 415 0,some 2⟩] [⟨96,[sy 15,sy 4],0,none,sy 18,none⟩,⟨40,[.agg #[sy 9,sy 2,sy 10,sy 11,sy 12,sy 13],sy 14],0,none,sy 19,none⟩,⟨154,[sy 17,sy 19,sy 15,sy 18],0,none,.bool true,some 1⟩]) (fc (by obtain⟨i,i1,i2,i3,i4⟩:=bY;exact jP (ci:=2) (m:=1) (cs:=[iz s.gg]) rfl rfl rfl underlying35 underlying35 i1 i2 (by omega) i3 (by rw[i2];rfl) (by rw[i4];omega) (by omega) rfl rfl (ak (by kernel_rfl) (by kernel_rfl))) fn) (fc (pc (args:=[uz s.w,wN (s.c.q / 2)]) rfl (λw hb=>ag (yx _ _ s.hw w))) (fc (pc rfl (λw hb=>cD s.c s.p s.hp w)) (fc (cc rfl [aK s.bm (s.m.put (s.c.word s.p) (dF s.w (-((s.c.q / 2:Nat):Int))))] [0] [1,2] (λw F ho hn hF=>jR hn hxa (by omega) s.w (dF s.w (-((s.c.q / 2:Nat):Int))) hc)) fn))) rfl [(4,s.bp)] Gb [(4,[sy 9,sy 2,sy 10,sy 11,sy 12,sy 13,sy 14,iz 0,sy 15,sy 16,sy 6,sy 0,.complex .f32 415 0],148)] 2 rfl rfl oB (.bool true)).conv (λκ w=>⟨(λ_ h=>h),(λ_ h=>h),(λ_ h=>fW (a:=λv=>bQ 3 1 v (s.ts.length+1) ((bu s.ts)++[iz s.gg])) (λ_ _ _ _ _ h=>h) h),(λ_ h=>h),trivial⟩)
end Go.Proofs.YtkmccgombmogmaaGreat
namespace Go.Proofs.YtkmccgombmogmaaGreat
open Go.Ev Go.Proofs.Tryz
open Go.RowKit
structure gy where
 st:Nat
 gg:Int
 w:Int
 ts:List Int
 hs:List Int
def ld(m:bw)(a:Nat):Int:=m.cells.getD a 0
def H2(c:aP)(w:Int)(n:Nat):Int:=(cy w-((c.q / 2:Nat):Int)+(n:Int))%4294967296
def aB(c:aP)(p:Nat)(x:gy)(m:bw):gy×bw :=
 match x.st with
 | 1=>(⟨if (c.q:Int)<=aO (ld m (c.word p)) then 4 else 2,x.gg,ld m (c.word p),[],x.hs⟩,m.tick)
 | 2=>(⟨3,x.gg,x.w,x.ts,x.hs⟩,m.put (c.slot p (cy x.w)) x.gg)
 | 3=>if ld m (c.word p)=x.w then (⟨0,x.gg,x.w,x.ts,[]⟩,m.put (c.word p) (dF x.w 1)) else (⟨1,x.gg,x.w,x.ts,x.hs⟩,m.tick)
 | 4=>(⟨if x.ts.length+1=c.q / 2 then 5 else 4,x.gg,x.w,x.ts++[IntKind.i64.wrap (ld m (c.slot p (H2 c x.w x.ts.length)))],x.hs⟩,m.tick)
 | 5=>if ld m (c.word p)=x.w then (⟨0,x.gg,x.w,x.ts,x.ts++[x.gg]⟩,m.put (c.word p) (dF x.w (-((c.q / 2:Nat):Int)))) else (⟨1,x.gg,x.w,x.ts,x.hs⟩,m.tick)
 | _=>(x,m)
structure oE(c:aP)(x:gy):Prop where
 st:x.st<=5
 gg:x.st≠0->0<=x.gg/\x.gg<=9223372036854775807
 w:fg x.w
 ts:x.ts.length<=c.q / 2
 t4:x.st=4->x.ts.length<c.q / 2
 hs:x.hs.length<=64
structure bT(c:aP)(m:bw):Prop where
 len:m.cells.length=4+c.off c.n
 u:∀ x ∈ m.cells,fg x
theorem bT.fl{c:aP}{m:bw}(h:bT c m){p:Nat}(hp:p<c.n):c.word p<m.cells.length:=by
 have:=c.ny hp;have:=h.len;unfold aP.word;omega
theorem bT.iB{c:aP}{m:bw}(h:bT c m){p:Nat}(hp:p<c.n)(i:Int):c.slot p i<m.cells.length:=by
 have:=c.ny hp;have:=h.len;have:=c.az i;unfold aP.slot;omega
theorem bT.get{c:aP}{m:bw}(h:bT c m){a:Nat}(ha:a<m.cells.length):m.cells[a]? = some (ld m a)/\fg (ld m a):=by
 unfold ld;rw[List.getD_eq_getElem?_getD,List.getElem?_eq_getElem ha];exact⟨rfl,h.u _ (List.getElem_mem ha)⟩
theorem bT.tick{c:aP}{m:bw}(h:bT c m):bT c m.tick:=⟨h.len,h.u⟩
theorem bT.put{c:aP}{m:bw}(h:bT c m)(a:Nat){v:Int}(hv:fg v):bT c (m.put a v) :=
 ⟨by simp only[bw.put,List.length_set];exact h.len,λx hx=>by
  rcases List.mem_or_eq_of_mem_set hx with hx | rfl
  ·exact h.u x hx
  ·exact hv⟩
theorem pY{x:Int}(h:fg x)(d:Int):fg (dF x d):=by
 have h1:=bJ h;unfold dF mQ fg;omega
theorem bT.big{c:aP}{m:bw}(h:bT c m):m.cells.length<=564:=by
 have:=c.mg;have:=h.len;omega
theorem rL{c:aP}{p:Nat}(hp:p<c.n){x:gy}{m:bw}(hx:oE c x)(hm:bT c m):oE c (aB c p x m).1/\bT c (aB c p x m).2:=by
 have hq:=c.qb;have hw:=hm.get (hm.fl hp);obtain⟨st,gg,w,ts,hs⟩:=x;have h1:st<=5:=hx.st;have h2:st≠0->0<=gg/\gg<=9223372036854775807:=hx.gg;have h3:fg w:=hx.w;have h4:ts.length<=c.q / 2:=hx.ts;have h5:st=4->ts.length<c.q / 2:=hx.t4;have h6:hs.length<=64:=hx.hs
 match st,h1 with
 | 0,_=>exact⟨hx,hm⟩
 | 1,_ =>
  refine⟨⟨?_,λ_=>h2 (by decide),hw.2,Nat.zero_le _,λ_=>?_,h6⟩,hm.tick⟩
  ·show(if (c.q:Int)<=aO (ld m (c.word p)) then 4 else 2)<=5
   split<;>decide
  ·show 0<c.q / 2
   omega
 | 2,_=>exact⟨⟨show 3<=5 by decide,λ_=>h2 (by decide),h3,h4,λh=>(by cases h),h6⟩,hm.put _ (show fg gg by have:=h2 (by decide);unfold fg;omega)⟩
 | 3,_ =>
  unfold aB;simp only
  split
  ·exact⟨⟨show 0<=5 by decide,λh=>absurd rfl h,h3,h4,λh=>(by cases h),Nat.zero_le _⟩,hm.put _ (pY h3 _)⟩
  ·exact⟨⟨show 1<=5 by decide,λ_=>h2 (by decide),h3,h4,λh=>(by cases h),h6⟩,hm.tick⟩
 | 4,_ =>
  have:=h5 rfl;refine⟨⟨?_,λ_=>h2 (by decide),h3,by show(ts++[_]).length<=_;rw[List.length_append];exact this,λh=>?_,h6⟩,hm.tick⟩
  ·show(if ts.length+1=c.q / 2 then 5 else 4)<=5
   split<;>decide
  ·replace h:(if ts.length+1=c.q / 2 then 5 else 4)=4:=h
   show(ts++[_]).length<c.q / 2;rw[List.length_append]
   split at h
   ·cases h
   ·show ts.length+1<c.q / 2
    omega
 | 5,_ =>
  unfold aB;simp only
  split
  ·exact⟨⟨show 0<=5 by decide,λh=>absurd rfl h,h3,h4,λh=>(by cases h),by show(ts++[gg]).length<=64;rw[List.length_append];simp;omega⟩,hm.put _ (pY h3 _)⟩
  ·exact⟨⟨show 1<=5 by decide,λ_=>h2 (by decide),h3,h4,λh=>(by cases h),h6⟩,hm.tick⟩
theorem Gd(c:aP)(w:Int)(n:Nat):IntKind.u32.wrap (cy w+IntKind.u32.wrap ((n:Int)-((c.q / 2:Nat):Int)))=H2 c w n:=by
 rw[b7,b7];unfold H2;omega
end Go.Proofs.YtkmccgombmogmaaGreat
namespace Go.Proofs.YtkmccgombmogmaaGreat
open Go.Ev Go.Proofs.Tryz
open Go.RowKit
open Go.Ev (sy)
set_option maxRecDepth 8000
def vZ(c:aP)(p bp:Nat)(x:gy)(k:Int)(tk hd:Value):aG:=aH bp [.int .i64 (c.n:Int),.int .i64 (c.q:Int),.int .i64 c.g,.int .i64 c.m,.int .i64 c.t,.int .i64 c.s,.int .i64 (p:Int),.int .i64 (x.st:Int),.int .u64 x.w,.int .u32 k,.int .i64 x.gg,tk,hd] 148
def cf(v:Value)(xs:List Int):aG:=bQ 3 1 v xs.length (bu xs)
def Ge(c:aP)(p bp:Nat)(x:gy)(e:Int×Value×Value):List aG:=vZ c p bp x e.1 e.2.1 e.2.2::cf e.2.2 x.hs::(if x.st=0 then [] else [cf e.2.1 x.ts])
def gA(c:aP)(p bp:Nat)(x:gy):aG:=C2 (λe:Int×Value×Value=>aV e.2.1=true) (λe=>FF (Ge c p bp x e))
section
variable{c:aP}{p bp:Nat}{x:gy}{k:Int}{tk hd:Value}{ctx:dc}{w:World}{l:List aG}
theorem eX(h0:x.st≠0)(mF:aV tk=true)(h:af ctx (vZ c p bp x k tk hd::cf hd x.hs::cf tk x.ts::l) w):af ctx (gA c p bp x::l) w:=by
 refine af.rJ (k,tk,hd) mF (af.shut ?_);simp only[Ge,if_neg h0];exact h
theorem kP(h0:x.st=0)(mF:aV tk=true)(h:af ctx (vZ c p bp x k tk hd::cf hd x.hs::l) w):af ctx (gA c p bp x::l) w:=by
 refine af.rJ (k,tk,hd) mF (af.shut ?_);simp only[Ge,if_pos h0];exact h
theorem yz(h0:x.st≠0)(h:af ctx (gA c p bp x::l) w):∃ k tk hd,aV tk=true/\aV hd=true/\af ctx (vZ c p bp x k tk hd::cf hd x.hs::cf tk x.ts::l) w:=by
 obtain⟨⟨k,tk,hd⟩,mF,hh⟩:=h.qh;have h2:=hh.open;simp only[Ge,if_neg h0]at h2;refine⟨k,tk,hd,mF,?_,h2⟩;obtain⟨F,n1,n2,n3⟩:=h2.ex;exact yy n1 (i:=1) rfl
theorem C9(h0:x.st=0)(h:af ctx (gA c p bp x::l) w):∃ k tk hd,aV tk=true/\aV hd=true/\af ctx (vZ c p bp x k tk hd::cf hd x.hs::l) w:=by
 obtain⟨⟨k,tk,hd⟩,mF,hh⟩:=h.qh;have h2:=hh.open;simp only[Ge,if_pos h0]at h2;refine⟨k,tk,hd,mF,?_,h2⟩;obtain⟨F,n1,n2,n3⟩:=h2.ex;exact yy n1 (i:=1) rfl
end
theorem C_(ts:List Int)(v:Int):bu (ts++[v])=bu ts++[.int .i64 v]:=by simp[bu]
theorem lS(v:Value)(ts:List Int)(x:Int):cf v (ts++[x])=bQ 3 1 v (ts.length+1) (bu ts++[.int .i64 x]):=by
 unfold cf;rw[C_,List.length_append];rfl
theorem Gf{w:World}{F:Nat->Prop}{c:aP}{p:Nat}(hp:p<c.n){x:gy}(hx:oE c x)(h0:x.st≠0){m:bw}(hm:bT c m){bp bm:Nat}(h:cG [gA c p bp x,aK bm m] F w) :
  Calls prog 138 #[.pointer (some ⟨bp,0,none⟩),.pointer (some ⟨bm,0,none⟩)] w λe w'=>e=.returned (.bool (decide ((aB c p x m).1.st=0)))/\af ⟨w,F⟩ [gA c p bp (aB c p x m).1,aK bm (aB c p x m).2] w':=by
 obtain⟨k,tk,hd,mF,wB,hh⟩:=yz h0 (af.start h);obtain⟨F',n1,n2,n3⟩:=(hh.sel [0,3,2,1]).ex;have hw:=hm.get (hm.fl hp);obtain⟨st,gg,ww,ts,hs⟩:=x;have hgg:=hx.gg h0
 let s:SP:=⟨w,F',c,p,hp,gg,hgg,ww,hx.w,k,bp,bm,m,tk,hd,mF,wB,ts,hs,hm.len,by have:=hx.ts;have:=c.qb;show ts.length<=64;have e:ts.length<=c.q / 2:=hx.ts;omega⟩
 have into:∀ {l:List aG} {w1:World},af ⟨w,F'⟩ l w1->af ⟨w,F⟩ l w1:=λhh=>hh.into (l:=[]) n2 n3
 match st,hx.st with
 | 0,_=>exact absurd rfl h0
 | 1,_ =>
  by_cases hq:(c.q:Int)<=aO (ld m (c.word p))
  ·rw[show aB c p ⟨1,gg,ww,ts,hs⟩ m=(⟨4,gg,ld m (c.word p),[],hs⟩,m.tick) by simp only[aB,if_pos hq]]
   refine a_ (Ry s _ hw.2 hw.1 hq) (by kernel_rfl) n1 (by simp) (by simp[s]) (λκ w1 h1=>⟨rfl,?_⟩);exact eX (k:=0) (tk:=.slice none 0 0) (hd:=hd) (Nat.succ_ne_zero _) rfl (((into h1).eC (e := 3) (sz:=1)).sel [1,4,0,2])
  ·rw[show aB c p ⟨1,gg,ww,ts,hs⟩ m=(⟨2,gg,ld m (c.word p),[],hs⟩,m.tick) by simp only[aB,if_neg hq]]
   refine a_ (pub s _ hw.2 hw.1 hq) (by kernel_rfl) n1 (by simp) (by simp[s]) (λκ w1 h1=>⟨rfl,?_⟩);exact eX (k:=0) (tk:=.slice none 0 0) (hd:=hd) (Nat.succ_ne_zero _) rfl (((into h1).eC (e := 3) (sz:=1)).sel [1,4,0,2])
 | 2,_ =>
  refine a_ (Rz s (hm.iB hp _)) (by kernel_rfl) n1 (by simp) (by simp[s]) (λκ w1 h1=>⟨rfl,?_⟩);exact eX (k:=k) (tk:=tk) (hd:=hd) (Nat.succ_ne_zero _) mF ((into h1).sel [0,3,2,1])
 | 3,_ =>
  by_cases hc:ld m (c.word p)=ww
  ·rw[show aB c p ⟨3,gg,ww,ts,hs⟩ m=(⟨0,gg,ww,ts,[]⟩,m.put (c.word p) (dF ww 1)) by simp only[aB,if_pos hc]]
   refine a_ (RC s _ hw.2 hw.1 hc) (by kernel_rfl) n1 (by simp) (by simp[s]) (λκ w1 h1=>⟨rfl,?_⟩);exact kP (k:=k) (tk:=tk) (hd:=.slice none 0 0) rfl mF (((into h1).eC (e := 3) (sz:=1)).sel [1,0,2])
  ·rw[show aB c p ⟨3,gg,ww,ts,hs⟩ m=(⟨1,gg,ww,ts,hs⟩,m.tick) by simp only[aB,if_neg hc]]
   refine a_ (RA s _ hw.2 hw.1 hc) (by kernel_rfl) n1 (by simp) (by simp[s]) (λκ w1 h1=>⟨rfl,?_⟩);exact eX (k:=k) (tk:=tk) (hd:=hd) (Nat.succ_ne_zero _) mF ((into h1).sel [0,3,2,1])
 | 4,_ =>
  have hsl:=hm.get (hm.iB hp (H2 c ww ts.length));have ha:m.cells[c.slot p s.i4]? = some (ld m (c.slot p (H2 c ww ts.length))):=by
   rw[show s.i4=H2 c ww ts.length from Gd c ww ts.length];exact hsl.1
  by_cases hq:ts.length+1=c.q / 2
  ·rw[show aB c p ⟨4,gg,ww,ts,hs⟩ m=(⟨5,gg,ww,ts++[IntKind.i64.wrap (ld m (c.slot p (H2 c ww ts.length)))],hs⟩,m.tick) by simp only[aB,if_pos hq]]
   refine a_ (RD s _ hsl.2 ha (by show((ts.length+1:Nat):Int)=((c.q / 2:Nat):Int);rw[hq])) (by kernel_rfl) n1 (by simp) (by simp[s]) (λκ w1 h1=>⟨rfl,?_⟩);have h2:=into h1;rw[← lS]at h2;exact eX (k:=k) (hd:=hd) (Nat.succ_ne_zero _) (dK (h2.sel [2])) (h2.sel [0,3,2,1])
  ·rw[show aB c p ⟨4,gg,ww,ts,hs⟩ m=(⟨4,gg,ww,ts++[IntKind.i64.wrap (ld m (c.slot p (H2 c ww ts.length)))],hs⟩,m.tick) by simp only[aB,if_neg hq]]
   refine a_ (RE s _ hsl.2 ha (by show ¬ ((ts.length+1:Nat):Int)=((c.q / 2:Nat):Int);omega)) (by kernel_rfl) n1 (by simp) (by simp[s]) (λκ w1 h1=>⟨rfl,?_⟩);have h2:=into h1;rw[← lS]at h2;exact eX (k:=k) (hd:=hd) (Nat.succ_ne_zero _) (dK (h2.sel [2])) (h2.sel [0,3,2,1])
 | 5,_ =>
  by_cases hc:ld m (c.word p)=ww
  ·rw[show aB c p ⟨5,gg,ww,ts,hs⟩ m=(⟨0,gg,ww,ts,ts++[gg]⟩,m.put (c.word p) (dF ww (-((c.q / 2:Nat):Int)))) by simp only[aB,if_pos hc]]
   refine a_ (RG s _ hw.2 hw.1 hc) (by kernel_rfl) n1 (by simp) (by simp[s]) (λκ w1 h1=>⟨rfl,?_⟩);have h2:=into h1;rw[← lS]at h2;exact kP (k:=k) (tk:=tk) rfl mF (h2.sel [0,2,1])
  ·rw[show aB c p ⟨5,gg,ww,ts,hs⟩ m=(⟨1,gg,ww,ts,hs⟩,m.tick) by simp only[aB,if_neg hc]]
   refine a_ (RF s _ hw.2 hw.1 hc) (by kernel_rfl) n1 (by simp) (by simp[s]) (λκ w1 h1=>⟨rfl,?_⟩);exact eX (k:=k) (tk:=tk) (hd:=hd) (Nat.succ_ne_zero _) mF ((into h1).sel [0,3,2,1])
end Go.Proofs.YtkmccgombmogmaaGreat
namespace Go.Proofs.YtkmccgombmogmaaGreat
open Go.Ev Go.Proofs.Tryz
open Go.RowKit
open Go.Ev (sy)
def fq(x d:Int):Int:=mQ ((aj x+d)%4294967296) (cy x)
theorem t8(x n:Int)(h:fg x)(w:World):Calls prog 115 #[.int .u64 x,.int .u32 n] w λe w'=>e=.returned (.int .u64 (fq x n))/\w=w':=by
 go_enter func115,ntmps115
 go_wp2_with (first | (go_at_call 74;refine(lR x h _).mono ?_;rintro e w' ⟨rfl,rfl⟩) | (go_at_call 73;refine(ct x h _).mono ?_;rintro e w' ⟨rfl,rfl⟩) | (go_at_call 114;refine(FN ((aj x+n)%4294967296) (cy x) (by omega) (bF x) _).mono ?_;rintro e w' ⟨rfl,rfl⟩))
 go_ret
 exact⟨rfl,rfl⟩
def cj(n:Int):Int:=n-n / 2
theorem pD(n:Int)(h:0<=n/\n<4294967296)(w:World):Calls prog 117 #[.int .u32 n] w λe w'=>e=.returned (.int .u32 (cj n))/\w=w':=by
 have e1:n.tdiv 2=n / 2:=Int.tdiv_eq_ediv_of_nonneg h.1;have e2:IntKind.u32.wrap (n / 2)=n / 2:=by rw[b7];omega
 have e3:IntKind.u32.wrap (n-n / 2)=n-n / 2:=by rw[b7];omega
 go_enter func117,ntmps117
 go_wp2
 go_ret
 refine⟨?_,rfl⟩;simp[cj,e1,e2,e3]
theorem yA{x:Int}(h:fg x)(d:Int):fg (fq x d):=by
 have:=bF x;unfold fq mQ fg;omega
end Go.Proofs.YtkmccgombmogmaaGreat
namespace Go.Ev
open Go.RowKit
section
variable{k:Kn}{P:Program}{g g':Nat}{l:List aG}{ci:Nat}{t u e:TypeId}{sL sS sB sV n sz m hi:Nat}{v vs:Value}{xs cs:List Value}{i:TypeInfo}{z:Value}
theorem dQ.L3{F:Nat->Prop}{w:World}(h:dQ e sz v n xs F w)(h2:hi<=n):dQ e sz (cutV sz v 0 hi) hi (xs.take (hi*sz)) F w:=by
 obtain⟨h1,h3⟩:=h;have hle:=Nat.mul_le_mul_right sz h2;refine⟨by rw[List.length_take,h1];omega,?_⟩;rcases h3 with ⟨he,rfl,hF⟩ | ⟨b,off,c,arr,rfl,hF,hb0,hx,hs,hnc⟩
 ·obtain rfl:hi=0:=by omega
  refine .inl ⟨?_,rfl,hF⟩;rcases he with rfl | ⟨b,off,rfl⟩
  ·exact .inl rfl
  ·exact .inr ⟨b,off,rfl⟩
 ·refine .inr ⟨b,off,c,arr,?_,hF,hb0,λk hk=>?_,hs,by omega⟩
  ·unfold cutV
   simp only[fB,Nat.zero_mul,Nat.add_zero,Nat.sub_zero,ite_self]
  ·rw[hx k (by omega),List.getElem?_take,if_pos hk]
theorem af.L3{c:dc}{l:List aG}{w:World}(h:af c (bQ e sz v n xs::l) w)(h2:hi<=n):af c (bQ e sz (cutV sz v 0 hi) hi (xs.take (hi*sz))::l) w:=h.head (λF h=>dQ.L3 h h2)
end
section
variable{k:Kn}{P:Program}{g g':Nat}{l:List aG}{t e:TypeId}{n sz:Nat}{i:TypeInfo}{z:Value}{xs:List Value}
theorem C'{ci sL sP:Nat}{v y:Value}{kd:IntKind}{j:Nat}(hg:k.gs[g]? = some (star l))(hi:l[ci]? = some (bQ e sz v n xs))(ht:P.underlying t=some (.slice e))(gw:P.info? e=some i)(hsz:i.size=sz)(hL:k.val sL=v)(hI:DN k y (.int kd (j:Int)))(hj:j<n)(hP:k.val sP=cY v (j*sz)):aZ k P ⟨[3,t],[sy sL,y],none,g,none,sy sP,none⟩:=by
 subst hsz;refine aZ.index k ?_;letI:bg:=k.sig;intro ι F w d x' y' q hx hy;obtain⟨Fs,ff,hS,hf,h1⟩:=eP hg hi q;rw[jw hx,hI _ _ hy,hL];obtain⟨b,off,c,e1,e2,_⟩:=dQ.at (kd:=kd) h1 ht gw hj;exact⟨_,w,e2,oi (by rw[hP,e1];rfl),Below.refl _ _⟩
end
end Go.Ev
