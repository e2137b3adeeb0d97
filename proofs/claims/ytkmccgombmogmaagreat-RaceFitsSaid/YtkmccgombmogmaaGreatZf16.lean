/- Part of a proof: see the last text. -/
import Derived.Test.YtkmccgombmogmaaGreatZf15
import Derived.WalkKit
import Derived.WalkSpells
import Derived.Lib.Walk
import Derived.Lib.SliceRun
import Derived.Deep.LoopGhost
import Derived.Laws.AppendOwn
set_option linter.unusedSimpArgs false
set_option linter.unusedVariables false
namespace Go.Proofs.YtkmccgombmogmaaGreat
open Go.Ev Go.Proofs.Tryz
open Go.RowKit
open Go.Ev (sy iz uz wz iN uN wN pz dv fc fn ak vk vd kn pc cc cr cm cd fr)
set_option maxRecDepth 8000
attribute [local irreducible] kA
abbrev OH:List (Nat×Value):=[(0,.agg #[sy 0,sy 1,sy 2,sy 3,sy 4,sy 5,sy 6]),(1,sy 7)]
theorem SI(W:World)(c:aU)(p i:Nat)(hp:p<c.n)(hi:i<=70):cw prog 72 [] 0 29 ⟨W,λ_=>False⟩ [(0,(.agg #[iN c.n,iN c.q,iz c.g,iz c.m,iz c.t,iz c.s,iN p])),(1,iN i)] [] (λκ:am=>(iN ((4+(c.off p))+(i)))) (λκ:am=>[]):=by have z:=c.z0;have q4:=c.nP hp;exact(eP (c:=⟨W,λ_=>False⟩) 6 (kn [iN (c.n),iN (c.q),iz (c.g),iz (c.m),iz (c.t),iz (c.s),iN (p),iN (i),iN (6+(c.q)),iN (c.off p),iz (((c.n:Nat):Int)-1),iN (4+(c.off p)),iN ((4+(c.off p))+(i))] fr [(.sub,sy 0,iz 1,sy 10),(.geq,sy 6,iz 0,.bool true),(.leq,sy 6,sy 10,.bool true),(.add,iz 6,sy 1,sy 8),(.mul,sy 6,sy 8,sy 9),(.add,iz 4,sy 9,sy 11),(.add,sy 11,sy 7,sy 12)] [] [] (fc (λ_ _ _=>rK (by exact bx (by omega) (by omega))) (fc (λ_ _ _=>ft (by first|(simp;done)|(simp;omega))) (fc (λ_ _ _=>Mz (by first|(simp;done)|(simp;omega))) (fc (λ_ _ _=>aQ (by rw[bx (by omega) (by omega)];omega)) (fc (λ_ _ _=>Fi (Kb c hp)) (fc (λ_ _ _=>aQ (by rw[bx (by omega) (by omega)];omega)) (fc (λ_ _ _=>aQ (by rw[bx (by omega) (by omega)];omega)) fn))))))) fn fn W (λ_=>False) [[]] [] [⟨21,[.agg #[sy 0,sy 1,sy 2,sy 3,sy 4,sy 5]],0,none,.bool true,none⟩]) fn (fc (pc rfl (λw hb=>c.right w)) fn) rfl [] [] [] 0 rfl rfl OH (sy 12))
theorem wH{W:World}{N:Nat}{f:FuncId}{args:Array Value}{tm:List (Nat×Value)}{r:Value}(hN:dS prog (λB=>kW B f [] (λfn _=>Nat.beq fn.ntmps N))=true)(ha:args.size<=N)(ht:∀ p ∈ tm,args[p.1]? = some p.2)(h:cw prog f [] 0 N ⟨W,λ_=>False⟩ tm [] (λκ:am=>r) (λκ:am=>[])):Calls prog f args W λe w'=>e=.returned r/\Below W.heap.size W w' :=
 mL hN (kZ W) ha ht (λA hA=>h A W _ hA (λκ w1 h1=>⟨rfl,h1.below (λ_ h=>h)⟩))
theorem yB(c:aU)(p i:Nat)(hp:p<c.n)(hi:i<=70)(w:World):Calls prog 72 #[.agg #[.int .i64 (c.n:Int),.int .i64 (c.q:Int),.int .i64 c.g,.int .i64 c.m,.int .i64 c.t,.int .i64 c.s,.int .i64 (p:Int)],.int .i64 (i:Int)] w λe w'=>e=.returned (.int .i64 ((4+c.off p+i:Nat):Int))/\Below w.heap.size w w' :=
 wH (by kernel_rfl) (by simp) (by simp) (SI w c p i hp hi)
abbrev Ly(c:aU)(p:Nat):Value:=(.agg #[iN c.n,iN c.q,iz c.g,iz c.m,iz c.t,iz c.s,iN p])
abbrev OI:List (Nat×Value):=[(0,.agg #[sy 0,sy 1,sy 2,sy 3,sy 4,sy 5]),(1,sy 6)]
abbrev Gq(c:aU):Value:=(.agg #[iN c.n,iN c.q,iz c.g,iz c.m,iz c.t,iz c.s])
abbrev OJ(c:aU)(p:Nat):List (Nat×Value):=[(0,Gq c),(1,iN p)]
abbrev M8(c:aU)(p:Nat)(i:Int):List (Nat×Value):=[(0,Gq c),(1,iN p),(2,wz i)]
theorem M9(W:World)(c:aU)(p:Nat)(hp:p<c.n):cw prog 40 [] 0 9 ⟨W,λ_=>False⟩ (OJ c p) [] (λκ:am=>(iN (4+c.off p+0))) (λκ:am=>[]):=(eP (c:=⟨W,λ_=>False⟩) 4 (kn [iN (c.n),iN (c.q),iz (c.g),iz (c.m),iz (c.t),iz (c.s),iN (p),iN (4+c.off p+0)] fr [] [] [] fn fn fn W (λ_=>False) [[]] [] [⟨72,[.agg #[sy 0,sy 1,sy 2,sy 3,sy 4,sy 5,sy 6],iz 0],0,none,sy 7,none⟩]) fn (fc (pc (args:=[(Ly c p),iz 0]) rfl (λw hb=>yB c p (0) hp (by have z:=c.z0;have q4:=c.nP hp;omega) w)) fn) rfl [] [] [] 0 rfl rfl OI (sy 7))
theorem M_(W:World)(c:aU)(p:Nat)(hp:p<c.n)(i:Int)(hi:0<=i):cw prog 43 [] 0 21 ⟨W,λ_=>False⟩ (M8 c p i) [] (λκ:am=>(iN (4+c.off p+(6+c.ae i)))) (λκ:am=>[]):=by have q2:=c.qb;have z:=c.z0;have q4:=c.nP hp;have q9:=c.aC i;exact(eP (c:=⟨W,λ_=>False⟩) 6 (kn [iN (c.n),iN (c.q),iz (c.g),iz (c.m),iz (c.t),iz (c.s),wz (i),iN (p),wN (c.ae i),wN (c.q),iN (c.ae i),iN (6+(c.ae i)),iN (4+c.off p+(6+c.ae i))] fr [(.rem,sy 6,sy 9,sy 8),(.add,iz 6,sy 10,sy 11)] [] [(.u32,sy 1,sy 9),(.i64,sy 8,sy 10)] (fc (λ_ _ _=>MA (by omega) (Gp c hi)) (fc (λ_ _ _=>aQ (by rw[bx (by omega) (by omega)];omega)) fn)) fn (fc (cF rfl rfl (by rw[cy];omega)) (fc (cF rfl rfl (by exact bx (by omega) (by omega))) fn)) W (λ_=>False) [[]] [] [⟨21,[.agg #[sy 0,sy 1,sy 2,sy 3,sy 4,sy 5]],0,none,.bool true,none⟩,⟨72,[.agg #[sy 0,sy 1,sy 2,sy 3,sy 4,sy 5,sy 7],sy 11],0,none,sy 12,none⟩]) fn (fc (pc rfl (λw hb=>c.right w)) (fc (pc (args:=[(Ly c p),(iN (6+(c.ae i)))]) rfl (λw hb=>yB c p (6+c.ae i) hp (by omega) w)) fn)) rfl [] [] [] 0 rfl rfl [(0,.agg #[sy 0,sy 1,sy 2,sy 3,sy 4,sy 5]),(1,sy 7),(2,sy 6)] (sy 12))
theorem Kd(W:World)(c:aU):cw prog 30 [] 0 13 ⟨W,λ_=>False⟩ [(0,Gq c)] [] (λκ:am=>(iN (4+(c.off c.n)))) (λκ:am=>[]):=by have z:=c.z0;exact(eP (c:=⟨W,λ_=>False⟩) 6 (kn [iN (c.n),iN (6+(c.q)),iN (c.q),iz (c.g),iz (c.m),iz (c.t),iz (c.s),iN (c.off c.n),iN (4+(c.off c.n))] fr [(.add,iz 6,sy 2,sy 1),(.mul,sy 0,sy 1,sy 7),(.add,iz 4,sy 7,sy 8)] [] [] (fc (λ_ _ _=>aQ (by rw[bx (by omega) (by omega)];omega)) (fc (λ_ _ _=>Fi (Kc c)) (fc (λ_ _ _=>aQ (by rw[bx (by omega) (by omega)];omega)) fn))) fn fn W (λ_=>False) [[]] [] [⟨21,[.agg #[sy 0,sy 2,sy 3,sy 4,sy 5,sy 6]],0,none,.bool true,none⟩]) fn (fc (pc rfl (λw hb=>c.right w)) fn) rfl [] [] [] 0 rfl rfl [(0,.agg #[sy 0,sy 2,sy 3,sy 4,sy 5,sy 6])] (sy 8))
end Go.Proofs.YtkmccgombmogmaaGreat
namespace Go.Proofs.YtkmccgombmogmaaGreat
open Go.Ev Go.Proofs.Tryz
open Go.RowKit
open Go.Ev (sy)
set_option maxRecDepth 8000
theorem cM(c:aU)(p:Nat)(hp:p<c.n)(w:World):Calls prog 40 #[c.v,.int .i64 (p:Int)] w λe w'=>e=.returned (.int .i64 ((c.word p:Nat):Int))/\Below w.heap.size w w' :=
 wH (r:=.int .i64 ((c.word p:Nat):Int)) (by kernel_rfl) (by simp) (by simp) (M9 w c p hp)
theorem iO(c:aU)(p:Nat)(hp:p<c.n)(i:Int)(hi:0<=i)(w:World):Calls prog 43 #[c.v,.int .i64 (p:Int),.int .u32 i] w λe w'=>e=.returned (.int .i64 ((c.slot p i:Nat):Int))/\Below w.heap.size w w' :=
 wH (r:=.int .i64 ((c.slot p i:Nat):Int)) (by kernel_rfl) (by simp) (by simp) (M_ w c p hp i hi)
theorem cells_ok(c:aU)(w:World):Calls prog 30 #[c.v] w λe w'=>e=.returned (.int .i64 ((c.cells:Nat):Int))/\Below w.heap.size w w' :=
 wH (r:=.int .i64 ((c.cells:Nat):Int)) (by kernel_rfl) (by simp) (by simp) (Kd w c)
end Go.Proofs.YtkmccgombmogmaaGreat
namespace Go.Proofs.YtkmccgombmogmaaGreat
open Go.Ev Go.Proofs.Tryz
open Go.RowKit
open Go.Ev (sy iz uz wz iN uN wN pz dv fc fn ak vk vd kn pc cc cr cm cd fr)
set_option maxRecDepth 8000
attribute [local irreducible] kA
end Go.Proofs.YtkmccgombmogmaaGreat
namespace Go.Proofs.YtkmccgombmogmaaGreat
open Go.Ev Go.Proofs.Tryz
open Go.RowKit
open Go.Ev (sy)
set_option maxRecDepth 8000
end Go.Proofs.YtkmccgombmogmaaGreat
namespace Go.Proofs.YtkmccgombmogmaaGreat
open Go.Ev Go.Proofs.Tryz
open Go.RowKit
open Go.Ev (sy iz uz wz iN uN wN pz dv fc fn ak vk vd kn pc cc cr cm cd fr)
set_option maxRecDepth 8000
attribute [local irreducible] kA
end Go.Proofs.YtkmccgombmogmaaGreat
namespace Go.Proofs.YtkmccgombmogmaaGreat
open Go.Ev Go.Proofs.Tryz
open Go.RowKit
open Go.Ev (sy)
set_option maxRecDepth 8000
end Go.Proofs.YtkmccgombmogmaaGreat
namespace Go.Proofs.YtkmccgombmogmaaGreat
open Go.Ev Go.Proofs.Tryz
open Go.RowKit
open Go.Ev (sy iz uz wz iN uN wN pz dv fc fn ak vk vd kn pc cc cr cm cd fr)
set_option maxRecDepth 8000
attribute [local irreducible] kA
structure S9 where
 W0:World
 F0:Nat->Prop
 c:aU
 p:Nat
 hp:p<c.n
 gg:Int
 hg:0<=gg/\gg<=9223372036854775807
 w:Int
 hw:fv w
 rv:Value
 tk:Value
 hd:Value
 lrv:aT rv=true
 kB:aT tk=true
 r9:aT hd=true
 xs:List Int
 ts:List Int
 hs:List Int
 hl:xs.length=4+c.off c.n
 hx:xs.length<=1000000
 hts:ts.length<=64
 ops:Int
abbrev S9.i4(s:S9):Int:=IntKind.u32.wrap (IntKind.u32.wrap (cI s.w-((s.c.q / 2:Nat):Int))+((s.ts.length:Nat):Int))
theorem ag{f:FuncId}{args:Array Value}{w:World}{v:Ending}(h:Calls prog f args w λe w'=>e=v/\w=w'):Calls prog f args w λe w'=>e=v/\Below w.heap.size w w':=h.mono (by rintro e w' ⟨h,rfl⟩;exact⟨h,Below.refl _ _⟩)
theorem lh(n:Int):0<=IntKind.u32.wrap n:=by rw[cy];omega
theorem Gr{n:Int}(h1:0<=n)(h2:n<18446744073709551616):IntKind.u64.wrap n=n:=by
 unfold IntKind.wrap;simp[IntKind.signed,IntKind.bits];omega
theorem oP(c:aU):IntKind.i64.wrap ((c.q:Int).tdiv 2)=((c.q / 2:Nat):Int):=by
 have:=c.qb;rw[Int.tdiv_eq_ediv_of_nonneg (by omega),bx (by omega) (by omega)];omega
end Go.Proofs.YtkmccgombmogmaaGreat
namespace Go.Proofs.YtkmccgombmogmaaGreat
open Go.Ev Go.Proofs.Tryz
open Go.RowKit Go.Lib
open Go.Ev (sy)
theorem r_{l:List aF}{e:TypeId}{v':Value}{n:Nat}{xs:List Value}{F:Nat->Prop}{w w':World}(h:cL l F w)(ho:w'.ownsRow w.heap.size e 1 v' n xs)(hb:Below w.heap.size w w'):∃ v2 cd,Ev.dec cd=v2/\Ending.returned v'=.returned v2/\af ⟨w,F⟩ (bT e 1 v2 n xs::l) w':=by
 obtain⟨hl,ho⟩:=ho;have key:∃ Fn,dT e 1 v' n xs Fn w'/\∀ j,Fn j->w.heap.size<=j:=by
  rcases ho with ⟨rfl,rfl⟩ | ⟨g,cap,cur,rfl,hg,hh,h1,h2,h3,h4⟩
  ·have:xs=[]:=List.eq_nil_of_length_eq_zero (by rw[hl])
   subst this;exact⟨λ_=>False,dT.nil e 1 w',λ_ h=>h.elim⟩
  ·refine⟨λj=>j=g,⟨hl,.inr ⟨g,0,cap,cur,rfl,λ_=>Iff.rfl,hh,λi hi=>?_,by rw[h3];omega,h1⟩⟩,λj hj=>by rw[hj];exact hg⟩
   rw[← h4,Nat.zero_add,List.getElem?_take_of_lt hi];simp
 obtain⟨Fn,k1,k2⟩:=key;obtain⟨cd,hcd⟩:=k1.code;have hk:cL l F w':=fg h (λj hj=>hb.block j (h.lt j hj)) hb.size;refine⟨v',cd,hcd,rfl,⟨⟨_,bW (a:=bT e 1 v' n xs) k1 hk (λj hj=>dT.lt k1 j hj) (λj hj hf=>?_),⟨hb.os,hb.tape,hb.output,hb.size,λj hj _=>hb.block j hj⟩,λj hj=>?_⟩⟩⟩
 ·have:=h.lt j hf
  have:=k2 j hj;omega
 ·exact hj.elim (λh=>.inr (k2 j h)) .inl
set_option maxHeartbeats 2000000 in
set_option maxRecDepth 100000 in
theorem li(ad:Addr)(n c:Nat)(xs:List Value)(w:World)(hl:xs.length=n)(hn:n<=1000000)(hone:∀ u ∈ xs,u.oneCell'=true)(hc:∀ (j:Nat) u,xs[j]? = some u->w.cell? (ad.add j)=some u) :
  Calls prog 97 #[.slice (some ad) n c] w λe w'=>∃ v',e=.returned v'/\w'.ownsRow w.heap.size 3 1 v' n xs/\Below w.heap.size w w':=by
 have mixed:=dO;obtain⟨i0,hi,hz1,hz0,hz2⟩:=b_;have q22:∀ (w:World) (a:Option Addr) (n c n' c':Nat),(binOp .eql 35 (.slice a n c) (.slice none n' c')).run prog w=.ok (.bool a.isNone) w:=λw a n c n' c'=>Lib.run_eql_slice_nil w _ _ a n c n' c' underlying35
 have A:Aside (∀ (j:Nat) u,xs[j]? = some u->w.cell? (ad.add j)=some u):=hc;clear hc
 go_enter func97,ntmps97
 go_wp2_with (at_builtin;refine wpList_append_own _ rfl _ _ 35 rfl w.heap.size 3 i0 (.int .i64 0) 1 8 underlying35 hi hz0 hz1 hz2 rfl (by decide) _ _ _ rfl (World.ownsRow_made w #[] 0 (Nat.le_refl _) (Nat.zero_le _) rfl) ad n c xs rfl ?qc1 ?qc2 ?qc3 ?qc4 ?qc5 ?qc6 ?_)
 case qc1=>simp;omega
 case qc2 =>
  intro j u hj;refine Lib.cell?_alloc_some _ ?_;exact A.out j u hj
 case qc3=>exact hone
 case qc4=>unfold maxLen;omega
 case qc5=>omega
 case qc6=>simp
 intro v' w1 hown hgrow hnil
 go_wp2
 go_ret
 refine⟨v',rfl,by simpa using hown,?_⟩;exact((Below.refl _ w).alloc (Nat.le_refl _) _).grown hgrow (by simp) (by intro k hk;simp[Value.ownBlock]at hk;omega)
set_option maxHeartbeats 1000000 in
theorem nh(n c:Nat)(w:World) :
  Calls prog 97 #[.slice none n c] w λe w'=>e=.returned (.slice none 0 0)/\w'=w:=by
 have mixed:=dO;have q22:∀ (w:World) (a:Option Addr) (n c n' c':Nat),(binOp .eql 35 (.slice a n c) (.slice none n' c')).run prog w=.ok (.bool a.isNone) w:=λw a n c n' c'=>Lib.run_eql_slice_nil w _ _ a n c n' c' underlying35
 go_enter func97,ntmps97
 go_wp2
 go_ret
 exact⟨rfl,rfl⟩
theorem pU{v:Value}{n:Nat}{xs:List Value}{F:Nat->Prop}{w:World}(hn:n<=1000000)(hone:∀ u ∈ xs,u.oneCell'=true)(h:cL [bT 3 1 v n xs] F w) :
  Calls prog 97 #[v] w λe w'=>∃ v' cd,Ev.dec cd=v'/\e=.returned v'/\af ⟨w,F⟩ [bT 3 1 v' n xs,bT 3 1 v n xs] w':=by
 obtain⟨Fa,h1,h2⟩:=k_ h;obtain⟨hl,hr⟩:=dT.ro h1;rw[Nat.mul_one]at hl;have ki:∀ ad c,v=.slice (some ad) n c->(∀ (j:Nat) u,xs[j]? = some u->w.cell? (ad.add j)=some u)->Calls prog 97 #[v] w λe w'=>∃ v' cd,Ev.dec cd=v'/\e=.returned v'/\af ⟨w,F⟩ [bT 3 1 v' n xs,bT 3 1 v n xs] w':=by
  rintro ad c rfl hc;refine(li ad n c xs w hl hn hone hc).mono ?_;rintro e w' ⟨v',rfl,ho,hb⟩;exact r_ h ho hb
 rcases hr with ⟨rfl,a,c,rfl⟩ | ⟨b,off,c,rfl,_,hx⟩
 ·cases a with
  | some a=>exact ki a c rfl (λj u hj=>by rw[List.eq_nil_of_length_eq_zero hl]at hj;simp at hj)
  | none =>
   refine(nh 0 c w).mono ?_;rintro e w' ⟨rfl,rfl⟩;have hx0:xs=[]:=List.eq_nil_of_length_eq_zero hl;subst hx0;exact⟨_,_,(dT.nil 3 1 w').code.choose_spec,rfl,(af.start h).d8⟩
 ·refine ki ⟨b,off,none⟩ c rfl (λj u hj=>?_)
  have hj':=(List.getElem?_eq_some_iff.1 hj).1;rw[fC,hx j (by omega),hj]
set_option maxHeartbeats 2000000 in
set_option maxRecDepth 100000 in
theorem wI(ad:Addr)(n c:Nat)(xs:List Value)(w:World)(hl:xs.length=n)(hn:n<=1000000)(hone:∀ u ∈ xs,u.oneCell'=true)(hc:∀ (j:Nat) u,xs[j]? = some u->w.cell? (ad.add j)=some u) :
  Calls prog 71 #[.slice (some ad) n c] w λe w'=>∃ v',e=.returned v'/\w'.ownsRow w.heap.size 51 1 v' n xs/\Below w.heap.size w w':=by
 have mixed:=dO;obtain⟨i0,hi,hz1,hz0,hz2⟩:=Gl;have q22:∀ (w:World) (a:Option Addr) (n c n' c':Nat),(binOp .eql 50 (.slice a n c) (.slice none n' c')).run prog w=.ok (.bool a.isNone) w:=λw a n c n' c'=>Lib.run_eql_slice_nil w _ _ a n c n' c' underlying50
 have A:Aside (∀ (j:Nat) u,xs[j]? = some u->w.cell? (ad.add j)=some u):=hc;clear hc
 go_enter func71,ntmps71
 go_wp2_with (at_builtin;refine wpList_append_own _ rfl _ _ 50 rfl w.heap.size 51 i0 (.int .u64 0) 1 8 underlying50 hi hz0 hz1 hz2 rfl (by decide) _ _ _ rfl (World.ownsRow_made w #[] 0 (Nat.le_refl _) (Nat.zero_le _) rfl) ad n c xs rfl ?qc1 ?qc2 ?qc3 ?qc4 ?qc5 ?qc6 ?_)
 case qc1=>simp;omega
 case qc2 =>
  intro j u hj;refine Lib.cell?_alloc_some _ ?_;exact A.out j u hj
 case qc3=>exact hone
 case qc4=>unfold maxLen;omega
 case qc5=>omega
 case qc6=>simp
 intro v' w1 hown hgrow hnil
 go_wp2
 go_ret
 refine⟨v',rfl,by simpa using hown,?_⟩;exact((Below.refl _ w).alloc (Nat.le_refl _) _).grown hgrow (by simp) (by intro k hk;simp[Value.ownBlock]at hk;omega)
set_option maxHeartbeats 1000000 in
theorem tS(n c:Nat)(w:World) :
  Calls prog 71 #[.slice none n c] w λe w'=>e=.returned (.slice none 0 0)/\w'=w:=by
 have mixed:=dO;have q22:∀ (w:World) (a:Option Addr) (n c n' c':Nat),(binOp .eql 50 (.slice a n c) (.slice none n' c')).run prog w=.ok (.bool a.isNone) w:=λw a n c n' c'=>Lib.run_eql_slice_nil w _ _ a n c n' c' underlying50
 go_enter func71,ntmps71
 go_wp2
 go_ret
 exact⟨rfl,rfl⟩
theorem Dz{v:Value}{n:Nat}{xs:List Value}{F:Nat->Prop}{w:World}(hn:n<=1000000)(hone:∀ u ∈ xs,u.oneCell'=true)(h:cL [bT 51 1 v n xs] F w) :
  Calls prog 71 #[v] w λe w'=>∃ v' cd,Ev.dec cd=v'/\e=.returned v'/\af ⟨w,F⟩ [bT 51 1 v' n xs,bT 51 1 v n xs] w':=by
 obtain⟨Fa,h1,h2⟩:=k_ h;obtain⟨hl,hr⟩:=dT.ro h1;rw[Nat.mul_one]at hl;have ki:∀ ad c,v=.slice (some ad) n c->(∀ (j:Nat) u,xs[j]? = some u->w.cell? (ad.add j)=some u)->Calls prog 71 #[v] w λe w'=>∃ v' cd,Ev.dec cd=v'/\e=.returned v'/\af ⟨w,F⟩ [bT 51 1 v' n xs,bT 51 1 v n xs] w':=by
  rintro ad c rfl hc;refine(wI ad n c xs w hl hn hone hc).mono ?_;rintro e w' ⟨v',rfl,ho,hb⟩;exact r_ h ho hb
 rcases hr with ⟨rfl,a,c,rfl⟩ | ⟨b,off,c,rfl,_,hx⟩
 ·cases a with
  | some a=>exact ki a c rfl (λj u hj=>by rw[List.eq_nil_of_length_eq_zero hl]at hj;simp at hj)
  | none =>
   refine(tS 0 c w).mono ?_;rintro e w' ⟨rfl,rfl⟩;have hx0:xs=[]:=List.eq_nil_of_length_eq_zero hl;subst hx0;exact⟨_,_,(dT.nil 51 1 w').code.choose_spec,rfl,(af.start h).d8⟩
 ·refine ki ⟨b,off,none⟩ c rfl (λj u hj=>?_)
  have hj':=(List.getElem?_eq_some_iff.1 hj).1;rw[fC,hx j (by omega),hj]
end Go.Proofs.YtkmccgombmogmaaGreat
namespace Go.Proofs.YtkmccgombmogmaaGreat
open Go.Ev Go.Proofs.Tryz
open Go.RowKit
open Go.Ev (sy iz uz wz iN uN wN pz dv fc fn ak vk vd kn pc cc cr cm cd fr)
set_option maxRecDepth 8000
attribute [local irreducible] kA
theorem SJ(W0:World)(F0:Nat->Prop)(n:Nat)(hn:n<=65536):cw prog 29 [] 0 9 ⟨W0,F0⟩ [(0,iN n)] [] (λκ:am=>(pz ((κ 404).getD 0))) (λκ:am=>[aE ((κ 404).getD 0) [.int .u64 0,.int .u64 0,.int .u64 0,.int .u64 0,.int .u64 0,.int .u64 0,.slice none 0 0,dv κ 403] 137,bT 51 1 (dv κ 403) (n) (List.replicate (n) (.int .u64 0))]):=(eP (c:=⟨W0,F0⟩) 3 (kn [iN (n)] fr [] [] [] fn fn fn W0 F0 [[],[jS 403 (λv=>bT 51 1 v (n) (List.replicate (n) (.int .u64 0)))]] [⟨[16,3,3],[sy 0,iz 65536],none,0,none,sy 0,none⟩,⟨[17,3,3],[iz 0,sy 0],none,0,none,sy 0,none⟩,⟨[19,50],[sy 0,sy 0],none,0,some 403,.complex .f32 403 0,some 1⟩] []) (fc (oL (kd:=.i64) (a:=(n:Int)) (b:=65536) (g_ rfl) F7 (by show Value.int .i64 (n:Int)=_;rw[show min (n:Int) 65536=n by omega])) (fc (J1 (kd:=.i64) (a:=0) (b:=(n:Int)) F7 (g_ rfl) (by show Value.int .i64 (n:Int)=_;rw[show max 0 (n:Int)=n by omega])) (fc (by obtain⟨i,i1,i2,i3,i4⟩:=Gl;exact Gi rfl rfl (g_ rfl) (g_ rfl) underlying50 i1 i2 i3 rfl (by rw[i4];omega) (by unfold maxLen;omega)) fn))) fn rfl [] [] [(404,[.int .u64 0,.int .u64 0,.int .u64 0,.int .u64 0,.int .u64 0,.int .u64 0,.slice none 0 0,.complex .f32 403 0],137)] 1 rfl rfl [(0,sy 0)] (.pointer (some ⟨404,0,none⟩))).conv (λκ w=>⟨(λ_ h=>h),(λ_ h=>fJ (a:=λv=>bT 51 1 v (n) (List.replicate (n) (.int .u64 0))) (λ_ _ _ _ _ h=>h) h),trivial⟩)
theorem QR(W0:World)(F0:Nat->Prop)(bm:Nat)(ops c1 c2 c3 c4 c5:Int)(lg cl:Value)(ll:aT lg=true)(lc:aT cl=true)(xs:List Int)(hx:xs.length<=1000000)(n:Nat)(xl:List Value):cw prog 39 [] 0 10 ⟨W0,F0⟩ [(0,pz bm)] [aE bm [uz ops,uz c1,uz c2,uz c3,uz c4,uz c5,lg,cl] 137,bT 51 1 (cl) (xs.length) (iL xs),bT 234 4 (lg) (n) (xl)] (λκ:am=>(dv κ 403)) (λκ:am=>[aE bm [uz ops,uz c1,uz c2,uz c3,uz c4,uz c5,lg,cl] 137,bT 51 1 (dv κ 403) xs.length (iL xs),bT 51 1 (cl) (xs.length) (iL xs),bT 234 4 (lg) (n) (xl)]):=(eP (c:=⟨W0,F0⟩) 5 (kn [lg,cl,uz (ops),uz (c1),uz (c2),uz (c3),uz (c4),uz (c5)] (fc (by assumption) (fc (by assumption) fr)) [] [] [] fn fn fn W0 F0 [[bT 51 1 (cl) (xs.length) (iL xs),bT 234 4 (lg) (n) (xl)],[jS 403 (λv=>bT 51 1 v xs.length (iL xs)),jS 403 (λv=>bT 51 1 (cl) (xs.length) (iL xs)),bT 234 4 (lg) (n) (xl)]] [] [⟨71,[sy 1],0,some 403,.complex .f32 403 0,some 1⟩]) fn (fc (cd rfl [λv=>bT 51 1 v xs.length (iL xs),λv=>bT 51 1 (cl) (xs.length) (iL xs)] [0] [1] (λw F ho hn hF=>Dz hx hJ hn)) fn) rfl [(4,bm)] [(4,[sy 2,sy 3,sy 4,sy 5,sy 6,sy 7,sy 0,sy 1],137)] [(4,[sy 2,sy 3,sy 4,sy 5,sy 6,sy 7,sy 0,sy 1],137)] 1 rfl rfl [(0,.pointer (some ⟨4,0,none⟩))] (.complex .f32 403 0)).conv (λκ w=>⟨(λ_ h=>h),(λ_ h=>fJ (a:=λv=>bT 51 1 v xs.length (iL xs)) (λ_ _ _ _ _ h=>h) h),(λ_ h=>fJ (a:=λv=>bT 51 1 (cl) (xs.length) (iL xs)) (λ_ _ _ _ _ h=>h) h),(λ_ h=>h),trivial⟩)
end Go.Proofs.YtkmccgombmogmaaGreat
namespace Go.Proofs.YtkmccgombmogmaaGreat
open Go.Ev Go.Proofs.Tryz
open Go.RowKit
open Go.Ev (sy)
set_option maxRecDepth 8000
def Na(v:Value)(m:bO):aF where
 p:=λ_ F w=>∃ bm,v=.pointer (some ⟨bm,0,none⟩)/\jn bm m F w
 keep:=λ_ F w w' hk ⟨bm,e,h⟩=>⟨bm,e,rW h hk⟩
 mono:=λ_ _ _ _ _ h=>h
theorem DA{v:Value}{m:bO}{c:dt}{l:List aF}{w:World}(h:af c (Na v m::l) w):∃ bm,v=.pointer (some ⟨bm,0,none⟩)/\af c (aN bm m::l) w :=
 h.yL (b:=λbm=>aN bm m) (p:=λbm=>v=.pointer (some ⟨bm,0,none⟩)) (λF ⟨bm,e,h⟩=>⟨bm,e,h⟩)
theorem DB{bm:Nat}{m:bO}{c:dt}{l:List aF}{w:World}(h:af c (aN bm m::l) w):af c (Na (.pointer (some ⟨bm,0,none⟩)) m::l) w :=
 h.head (λF h=>⟨bm,rfl,h⟩)
theorem Gs(n:Nat):iL (List.replicate n 0)=List.replicate n (.int .u64 0):=by simp[iL]
section
variable{F:Nat->Prop}{w:World}
theorem Gt{n:Nat}(hn:n<=65536)(h:cL [] F w) :
  Calls prog 29 #[.int .i64 (n:Int)] w λe w'=>∃ v cd,Ev.dec cd=v/\e=.returned v/\af ⟨w,F⟩ [Na v ⟨List.replicate n 0,0⟩] w':=by
 refine bh (SJ w F n hn) (by kernel_rfl) h (by simp) (by simp) (λκ w1 h1=>⟨_,_,qG _ _,rfl,?_⟩);refine DB (yW (0,0,0,0,0,.slice none 0 0,Ev.dec ((κ 403).getD 0),0,[]) (Nat.zero_le _) ?_);have h2:=h1.d8 (e := 234) (sz:=4);rw[← Gs]at h2;have h3:=h2.sel [1,2,0];have e:(List.replicate n (0:Int)).length=n:=by simp
 simp only[M7,e];exact h3
theorem Gu{bm:Nat}{m:bO}(hx:m.cells.length<=1000000)(h:cL [aN bm m] F w) :
  Calls prog 39 #[.pointer (some ⟨bm,0,none⟩)] w λe w'=>∃ v cd,Ev.dec cd=v/\e=.returned v/\af ⟨w,F⟩ [bT 51 1 v m.cells.length (iL m.cells),aN bm m] w':=by
 obtain⟨⟨c1,c2,c3,c4,c5,lg,cl,n,xl⟩,hn,l1,l2,hh⟩:=Gh (af.start h);obtain⟨F',n1,n2,n3⟩:=hh.ex;refine bh (QR w F' bm m.ops c1 c2 c3 c4 c5 lg cl l1 l2 m.cells hx n xl) (by kernel_rfl) n1 (by simp) (by simp) (λκ w1 h1=>⟨_,_,rfl,rfl,?_⟩);exact(yW (l:=[_]) (c1,c2,c3,c4,c5,lg,cl,n,xl) hn ((h1.into (l:=[]) n2 n3).sel [0,2,3,1])).sel [1,0]
end
end Go.Proofs.YtkmccgombmogmaaGreat
namespace Go.Proofs.YtkmccgombmogmaaGreat
open Go.Ev Go.Proofs.Tryz
open Go.RowKit
open Go.Ev (sy iz uz wz iN uN wN pz dv fc fn ak vk vd kn pc cc cr cm cd fr)
set_option maxRecDepth 8000
attribute [local irreducible] kA
abbrev AP(a:Value)(b:Value)(xs:List Int)(ys:List Int):List aF:=[bT 3 1 (a) (xs.length) (aX xs),bT 3 1 (b) (ys.length) (aX ys)]
abbrev lj(a:Value)(b:Value)(xs:List Int)(ys:List Int)(us:List Int):List aF:=[bT 3 1 (a) (xs.length) (aX us),bT 3 1 (b) (ys.length) (aX ys)]
theorem QS(W0:World)(F0:Nat->Prop)(a b:Value)(la:aT a=true)(lb:aT b=true)(xs ys:List Int)(hx:xs.length<=1000000)(hy:ys.length<=1000000)(h1:¬ ((xs.length:Nat):Int)≠((ys.length:Nat):Int)):J3 prog 17 [] 0 4 26 ⟨W0,F0⟩ [(0,(a)),(1,(b))] (AP a b xs ys) .normal (λκ:am=>[(0,(a)),(1,(b)),(5,iz 0)]) (λκ:am=>(AP a b xs ys)):=by obtain⟨i,i1,i2,i3,i4⟩:=b_;exact(tr (c:=⟨W0,F0⟩) (kn [a,b,iN (xs.length),iN (ys.length)] (fc (by assumption) (fc (by assumption) fr)) [(.neq,sy 2,sy 3,.bool false)] [] [] (fc (λ_ _ _=>l3 (by first|(simpa using h1)|(simp;omega))) fn) fn fn W0 F0 [(AP a b xs ys)] [⟨[10,35],[sy 0],none,0,none,sy 2,none⟩,⟨[10,35],[sy 1],none,0,none,sy 3,none⟩] []) (fc (by exact bC (ci:=1) rfl rfl underlying35 i2 rfl rfl) (fc (by exact bC (ci:=2) rfl rfl underlying35 i2 rfl rfl) fn)) fn rfl [] [] [] 0 rfl rfl [(0,sy 0),(1,sy 1)] [(0,sy 0),(1,sy 1),(5,iz 0)] .normal)
theorem QT(W0:World)(F0:Nat->Prop)(a b:Value)(la:aT a=true)(lb:aT b=true)(xs ys:List Int)(hx:xs.length<=1000000)(hy:ys.length<=1000000)(us:List Int)(hu:us.length=xs.length)(hxy:xs.length=ys.length)(j:Nat)(hj:j<xs.length)(x y:Int)(hxj:us[j]? = some x)(hyj:ys[j]? = some y)(h1:¬ (x)≠(y)):J3 prog 17 [8,0] 0 4 26 ⟨W0,F0⟩ [(0,(a)),(1,(b)),(5,iN j)] (lj a b xs ys us) .normal (λκ:am=>[(0,(a)),(1,(b)),(5,(iN ((j)+1)))]) (λκ:am=>(lj a b xs ys us)):=by have z1:=hx;have z2:=hy;have z3:=hu;have z4:=hxy;obtain⟨i,i1,i2,i3,i4⟩:=b_;exact(tr (c:=⟨W0,F0⟩) (kn [a,b,dc (a) ((j)*1),dc (b) ((j)*1),iN (j),iN (xs.length),iz (x),iz (y),iN ((j)+1)] (fc (by assumption) (fc (by assumption) (fc (aJ _ _) (fc (aJ _ _) fr)))) [(.lss,sy 4,sy 5,.bool true),(.neq,sy 6,sy 7,.bool false),(.add,sy 4,iz 1,sy 8)] [] [] (fc (λ_ _ _=>a_ (by first|(simp;done)|(simp;omega))) (fc (λ_ _ _=>l3 (by first|(simpa using h1)|(simp;omega))) (fc (λ_ _ _=>aQ (by rw[bx (by omega) (by omega)];omega)) fn))) fn fn W0 F0 [(lj a b xs ys us)] [⟨[10,35],[sy 0],none,0,none,sy 5,none⟩,⟨[3,35],[sy 0,sy 4],none,0,none,sy 2,none⟩,⟨[1,3],[sy 2],none,0,none,sy 6,none⟩,⟨[3,35],[sy 1,sy 4],none,0,none,sy 3,none⟩,⟨[1,3],[sy 3],none,0,none,sy 7,none⟩] []) (fc (by exact bC (ci:=1) rfl rfl underlying35 i2 rfl rfl) (fc (by exact aY (ci:=1) (j:=(j)) rfl rfl underlying35 i1 i2 rfl rfl (by omega) rfl) (fc (by exact bF (ci:=1) (m:=(j)*1) (x:=(iz x)) rfl rfl bG (by simp[aX,List.getElem?_map,hxj]) (by simp;omega) rfl (λι=>(vk (by kernel_rfl) (by kernel_rfl)))) (fc (by exact aY (ci:=2) (j:=(j)) rfl rfl underlying35 i1 i2 rfl rfl (by omega) rfl) (fc (by exact bF (ci:=2) (m:=(j)*1) (x:=(iz y)) rfl rfl bG (by simp[aX,List.getElem?_map,hyj]) (by simp;omega) rfl (λι=>(vk (by kernel_rfl) (by kernel_rfl)))) fn))))) fn rfl [] [] [] 0 rfl rfl [(0,sy 0),(1,sy 1),(5,sy 4)] [(0,sy 0),(1,sy 1),(5,sy 8)] .normal)
theorem QU(W0:World)(F0:Nat->Prop)(a b:Value)(la:aT a=true)(lb:aT b=true)(xs ys:List Int)(hx:xs.length<=1000000)(hy:ys.length<=1000000)(us:List Int)(hu:us.length=xs.length):J3 prog 17 [8,0] 0 4 26 ⟨W0,F0⟩ [(0,(a)),(1,(b)),(5,iN xs.length)] (lj a b xs ys us) (.exit 0) (λκ:am=>[(0,(a)),(1,(b))]) (λκ:am=>(lj a b xs ys us)):=(tr (c:=⟨W0,F0⟩) (kn [a,b,iN (xs.length)] (fc (by assumption) (fc (by assumption) fr)) [(.lss,sy 2,sy 2,.bool false)] [] [] (fc (λ_ _ _=>a_ (by have z3:=hu;first|(simp;done)|(simp;omega))) fn) fn fn W0 F0 [(lj a b xs ys us)] [⟨[10,35],[sy 0],none,0,none,sy 2,none⟩] []) (fc (by obtain⟨i,i1,i2,i3,i4⟩:=b_;exact bC (ci:=1) rfl rfl underlying35 i2 rfl rfl) fn) fn rfl [] [] [] 0 rfl rfl [(0,sy 0),(1,sy 1),(5,sy 2)] [(0,sy 0),(1,sy 1)] (.exit 0))
theorem QV(W0:World)(F0:Nat->Prop)(a b:Value)(la:aT a=true)(lb:aT b=true)(xs ys:List Int)(hx:xs.length<=1000000)(hy:ys.length<=1000000)(us:List Int)(hu:us.length=xs.length):J3 prog 17 [] 5 2 26 ⟨W0,F0⟩ [(0,(a)),(1,(b))] (lj a b xs ys us) .ret (λκ:am=>[(4,.bool true)]) (λκ:am=>(lj a b xs ys us)):=(tr (c:=⟨W0,F0⟩) (kn [a,b,iN (xs.length)] (fc (by assumption) (fc (by assumption) fr)) [] [] [] fn fn fn W0 F0 [(lj a b xs ys us)] [] []) fn fn rfl [] [] [] 0 rfl rfl [(0,sy 0),(1,sy 1)] [(4,.bool true)] .ret)
end Go.Proofs.YtkmccgombmogmaaGreat
namespace Go.Proofs.YtkmccgombmogmaaGreat
open Go.Ev Go.Proofs.Tryz
open Go.RowKit
open Go.Ev (sy)
set_option maxRecDepth 8000
theorem DC{w:World}{F:Nat->Prop}{a b:Value}(la:aT a=true)(lb:aT b=true){xs:List Int}(hx:xs.length<=1000000)(h:cL [bT 3 1 a xs.length (aX xs),bT 3 1 b xs.length (aX xs)] F w) :
  Calls prog 17 #[a,b] w λe w'=>e=.returned (.bool true)/\af ⟨w,F⟩ [bT 3 1 a xs.length (aX xs),bT 3 1 b xs.length (aX xs)] w':=by
 refine mL (N:=26) (tm:=[(0,a),(1,b)]) (by kernel_rfl) h (by simp) (by simp) (λA hA=>?_);refine QS w F a b la lb xs xs hx hx (by simp) A w _ hA ?_;intro κ A1 w1 h1;refine FSq (id:=0) (by kernel_rfl) ?_;refine J6 (by kernel_rfl) (λ(j:Nat) A w'=>Ev.At ⟨w,F⟩ 26 [(0,a),(1,b),(5,.int .i64 (j:Int))] [bT 3 1 a xs.length (aX xs),bT 3 1 b xs.length (aX xs)] A w'/\j<=xs.length) (λj=>xs.length-j) (x:=0) ⟨h1,by omega⟩ ?_;clear h1 hA A1 w1;rintro j A1 w1 ⟨h1,hj⟩
 by_cases hlt:j<xs.length
 ·refine QT w F a b la lb xs xs hx hx xs rfl rfl j hlt xs[j] xs[j] (List.getElem?_eq_getElem hlt) (List.getElem?_eq_getElem hlt) (by simp) A1 w1 _ h1 ?_
  intro κ A2 w2 h2;exact JV (by kernel_rfl) ⟨j+1,⟨h2,hlt⟩,by omega⟩
 ·obtain rfl:j=xs.length:=by omega
  refine QU w F a b la lb xs xs hx hx xs rfl A1 w1 _ h1 ?_;intro κ A2 w2 h2;refine QV w F a b la lb xs xs hx hx xs rfl A2 w2 _ h2 ?_;intro κ A3 w3 h3;exact h3.ret (by kernel_rfl) (List.mem_singleton.2 rfl) (λhh=>⟨rfl,hh⟩)
end Go.Proofs.YtkmccgombmogmaaGreat
namespace Go.Proofs.YtkmccgombmogmaaGreat
open Go.Ev Go.Proofs.Tryz
open Go.RowKit
open Go.Ev (sy iz uz wz iN uN wN pz dv fc fn ak vk vd kn pc cc cr cm cd fr)
set_option maxRecDepth 8000
attribute [local irreducible] kA
theorem yZ{l:List aF}{F:Nat->Prop}{w:World}(h:cL l F w){i:Nat}{e:TypeId}{sz n:Nat}{v:Value}{xs:List Value}(hi:l[i]? = some (bT e sz v n xs)):aT v=true:=by
 obtain⟨f,hf⟩:=h.part hi;exact dT.leaf hf
structure SP where
 W0:World
 F0:Nat->Prop
 c:aU
 p:Nat
 hp:p<c.n
 gg:Int
 hg:0<=gg/\gg<=9223372036854775807
 w:Int
 hw:fv w
 k:Int
 bp:Nat
 bm:Nat
 m:bO
 tk:Value
 hd:Value
 kB:aT tk=true
 r9:aT hd=true
 ts:List Int
 hs:List Int
 hl:m.cells.length=4+c.off c.n
 hts:ts.length<=64
theorem fK{xs:List Int}{a:Nat}{x:Int}(h:xs[a]? = some x)(hl:xs.length<=1000000):(a:Int)<=9223372036854775807:=by
 have:=(List.getElem?_eq_some_iff.1 h).1;omega
abbrev SP.i4(s:SP):Int:=IntKind.u32.wrap (cI s.w+IntKind.u32.wrap (((s.ts.length:Nat):Int)-((s.c.q / 2:Nat):Int)))
abbrev Gv(s:SP):Value:=(.agg #[iN s.c.n,iN s.c.q,iz s.c.g,iz s.c.m,iz s.c.t,iz s.c.s])
abbrev Ch:List iA:=[(4,[sy 9,sy 2,sy 10,sy 11,sy 12,sy 13,sy 14,iz 1,sy 15,sy 16,sy 6,sy 0,sy 1],148)]
abbrev oQ:List (Nat×Value):=[(0,.pointer (some ⟨4,0,none⟩)),(1,sy 17)]
abbrev jo(s:SP):aF:=bT 3 1 (s.tk) (s.ts.length) (aX s.ts)
abbrev fT(s:SP):aF:=bT 3 1 (s.hd) (s.hs.length) (aX s.hs)
abbrev oR(s:SP):List aF:=[aN s.bm s.m,jo s,fT s]
abbrev uw(s:SP):List aF:=[aN s.bm s.m.tick,jo s,fT s]
abbrev oS(s:SP):List (Nat×Value):=[(0,pz s.bp),(1,pz s.bm)]
abbrev Gw(s:SP):aF:=aE s.bp [iN s.c.n,iN s.c.q,iz s.c.g,iz s.c.m,iz s.c.t,iz s.c.s,iN s.p,iz 1,uz s.w,wz s.k,iz s.gg,s.tk,s.hd] 148
abbrev Gx(s:SP):List aF:=[Gw s,aN s.bm s.m,jo s,fT s]
abbrev AQ:List iA:=[(4,[sy 9,sy 2,sy 10,sy 11,sy 12,sy 13,sy 14,iz 3,sy 15,sy 16,sy 6,sy 0,sy 1],148)]
abbrev Gy(s:SP):aF:=aE s.bp [iN s.c.n,iN s.c.q,iz s.c.g,iz s.c.m,iz s.c.t,iz s.c.s,iN s.p,iz 3,uz s.w,wz s.k,iz s.gg,s.tk,s.hd] 148
abbrev Gz(s:SP):List aF:=[Gy s,aN s.bm s.m,jo s,fT s]
abbrev GD(s:SP):List aF:=[Gw s,aN s.bm s.m.tick,jo s,fT s]
abbrev GE:List iA:=[(4,[sy 9,sy 2,sy 10,sy 11,sy 12,sy 13,sy 14,iz 4,sy 15,sy 16,sy 6,sy 0,sy 1],148)]
abbrev GF(s:SP)(x:Int):List aF:=[aN s.bm s.m.tick,jS 415 (λv=>bT 3 1 v (s.ts.length+1) ((aX s.ts)++[(iz (IntKind.i64.wrap (x)))])),fT s]
abbrev GG(s:SP):List aF:=[aE s.bp [iN s.c.n,iN s.c.q,iz s.c.g,iz s.c.m,iz s.c.t,iz s.c.s,iN s.p,iz 4,uz s.w,wz s.k,iz s.gg,s.tk,s.hd] 148,aN s.bm s.m,jo s,fT s]
abbrev GH:List iA:=[(4,[sy 9,sy 2,sy 10,sy 11,sy 12,sy 13,sy 14,iz 5,sy 15,sy 16,sy 6,sy 0,sy 1],148)]
abbrev GI(s:SP):List aF:=[aE s.bp [iN s.c.n,iN s.c.q,iz s.c.g,iz s.c.m,iz s.c.t,iz s.c.s,iN s.p,iz 5,uz s.w,wz s.k,iz s.gg,s.tk,s.hd] 148,aN s.bm s.m,jo s,fT s]
abbrev AS(s:SP):aF:=aN s.bm (s.m.put (s.c.word s.p) (dQ s.w (-((s.c.q / 2:Nat):Int))))
theorem SK(s:SP)(x:Int)(hxu:fv x)(hxa:s.m.cells[s.c.word s.p]? = some x)(h1:(aW (x))≥((s.c.q:Nat):Int)):cw prog 138 [] 0 20 ⟨s.W0,s.F0⟩ (oS s) (Gx s) (λκ:am=>(.bool false)) (λκ:am=>[aE s.bp [iN s.c.n,iN s.c.q,iz s.c.g,iz s.c.m,iz s.c.t,iz s.c.s,iN s.p,iz 4,uz x,.int .u32 0,iz s.gg,.slice none 0 0,s.hd] 148,aN s.bm s.m.tick,jo s,fT s]):=by have q0:=s.c.z s.hp;have q6:=s.hl;have q8:=s.hg;have q9:=s.hts;exact(eP (c:=⟨s.W0,s.F0⟩) 5 (kn [s.tk,s.hd,iN (s.c.q),iN (s.c.q / 2),wN (s.c.q / 2),wN (s.c.q),iz (s.gg),uz (s.gg),wz (cI (s.w)),iN (s.c.n),iz (s.c.g),iz (s.c.m),iz (s.c.t),iz (s.c.s),iN (s.p),uz (s.w),wz (s.k),pz s.bm,iN (s.c.word s.p),uz (x),wz (aW (x))] (fc s.kB (fc s.r9 fr)) [(.geq,sy 20,sy 5,.bool true)] [] [(.u32,sy 2,sy 5)] (fc (λ_ _ _=>ft (by first|(simpa using h1)|(simp;omega))) fn) fn (fc (cF rfl rfl (by have q2:=s.c.qb;rw[cy];omega)) fn) s.W0 s.F0 [oR s,uw s] [] [⟨40,[.agg #[sy 9,sy 2,sy 10,sy 11,sy 12,sy 13],sy 14],0,none,sy 18,none⟩,⟨150,[sy 17,sy 18],0,none,sy 19,some 1⟩,⟨42,[sy 19],1,none,sy 20,none⟩]) fn (fc (pc rfl (λw hb=>cM s.c s.p s.hp w)) (fc (cc rfl [aN s.bm s.m.tick] [0] [1,2] (λw F ho hn hF=>dk hn hxa (fK hxa (by omega)))) (fc (pc (args:=[uz x]) rfl (λw hb=>ag (cG _ hxu w))) fn))) rfl [(4,s.bp)] Ch [(4,[sy 9,sy 2,sy 10,sy 11,sy 12,sy 13,sy 14,iz 4,sy 19,.int .u32 0,sy 6,.slice none 0 0,sy 1],148)] 1 rfl rfl oQ (.bool false))
theorem pub(s:SP)(x:Int)(hxu:fv x)(hxa:s.m.cells[s.c.word s.p]? = some x)(h1:¬ (aW (x))≥((s.c.q:Nat):Int)):cw prog 138 [] 0 20 ⟨s.W0,s.F0⟩ (oS s) (Gx s) (λκ:am=>(.bool false)) (λκ:am=>[aE s.bp [iN s.c.n,iN s.c.q,iz s.c.g,iz s.c.m,iz s.c.t,iz s.c.s,iN s.p,iz 2,uz x,.int .u32 0,iz s.gg,.slice none 0 0,s.hd] 148,aN s.bm s.m.tick,jo s,fT s]):=by have q0:=s.c.z s.hp;have q6:=s.hl;have q8:=s.hg;have q9:=s.hts;exact(eP (c:=⟨s.W0,s.F0⟩) 5 (kn [s.tk,s.hd,iN (s.c.q),iN (s.c.q / 2),wN (s.c.q / 2),wN (s.c.q),iz (s.gg),uz (s.gg),wz (cI (s.w)),iN (s.c.n),iz (s.c.g),iz (s.c.m),iz (s.c.t),iz (s.c.s),iN (s.p),uz (s.w),wz (s.k),pz s.bm,iN (s.c.word s.p),uz (x),wz (aW (x))] (fc s.kB (fc s.r9 fr)) [(.geq,sy 20,sy 5,.bool false)] [] [(.u32,sy 2,sy 5)] (fc (λ_ _ _=>ft (by first|(simpa using h1)|(simp;omega))) fn) fn (fc (cF rfl rfl (by have q2:=s.c.qb;rw[cy];omega)) fn) s.W0 s.F0 [oR s,uw s] [] [⟨40,[.agg #[sy 9,sy 2,sy 10,sy 11,sy 12,sy 13],sy 14],0,none,sy 18,none⟩,⟨150,[sy 17,sy 18],0,none,sy 19,some 1⟩,⟨42,[sy 19],1,none,sy 20,none⟩]) fn (fc (pc rfl (λw hb=>cM s.c s.p s.hp w)) (fc (cc rfl [aN s.bm s.m.tick] [0] [1,2] (λw F ho hn hF=>dk hn hxa (fK hxa (by omega)))) (fc (pc (args:=[uz x]) rfl (λw hb=>ag (cG _ hxu w))) fn))) rfl [(4,s.bp)] Ch [(4,[sy 9,sy 2,sy 10,sy 11,sy 12,sy 13,sy 14,iz 2,sy 19,.int .u32 0,sy 6,.slice none 0 0,sy 1],148)] 1 rfl rfl oQ (.bool false))
theorem SL(s:SP)(ha:s.c.slot s.p (cI s.w)<s.m.cells.length):cw prog 138 [] 0 20 ⟨s.W0,s.F0⟩ (oS s) [aE s.bp [iN s.c.n,iN s.c.q,iz s.c.g,iz s.c.m,iz s.c.t,iz s.c.s,iN s.p,iz 2,uz s.w,wz s.k,iz s.gg,s.tk,s.hd] 148,aN s.bm s.m,jo s,fT s] (λκ:am=>(.bool false)) (λκ:am=>[Gy s,aN s.bm (s.m.put (s.c.slot s.p (cI (s.w))) (s.gg)),jo s,fT s]):=by have q8:=s.hg;exact(eP (c:=⟨s.W0,s.F0⟩) 5 (kn [s.tk,s.hd,iN (s.c.q),iN (s.c.q / 2),wN (s.c.q / 2),wN (s.c.q),iz (s.gg),uz (s.gg),wz (cI (s.w)),iN (s.c.n),iz (s.c.g),iz (s.c.m),iz (s.c.t),iz (s.c.s),iN (s.p),uz (s.w),wz (s.k),pz s.bm,iN (s.c.slot s.p (cI (s.w)))] (fc s.kB (fc s.r9 fr)) [(.add,sy 8,.int .u32 0,sy 8)] [] [(.u64,sy 6,sy 7)] (fc (λ_ _ _=>aQ (by have:=bM s.w;rw[cy];omega)) fn) fn (fc (cF rfl rfl (Gr (by omega) (by omega))) fn) s.W0 s.F0 [oR s,[aN s.bm (s.m.put (s.c.slot s.p (cI (s.w))) (s.gg)),jo s,fT s]] [] [⟨74,[sy 15],0,none,sy 8,none⟩,⟨43,[.agg #[sy 9,sy 2,sy 10,sy 11,sy 12,sy 13],sy 14,sy 8],0,none,sy 18,none⟩,⟨147,[sy 17,sy 18,sy 7],0,none,.tuple #[],some 1⟩]) fn (fc (pc (args:=[uz s.w]) rfl (λw hb=>ag (l9 _ s.hw w))) (fc (pc (args:=[Gv s,iN s.p,(wz (cI (s.w)))]) rfl (λw hb=>iO s.c s.p s.hp (cI (s.w)) (by first | exact(bM _).1 | exact lh _) w)) (fc (cc rfl [aN s.bm (s.m.put (s.c.slot s.p (cI (s.w))) (s.gg))] [0] [1,2] (λw F ho hn hF=>nO hn ha (by have q0:=s.c.z s.hp;have q6:=s.hl;have q9:=s.hts;omega) (s.gg))) fn))) rfl [(4,s.bp)] [(4,[sy 9,sy 2,sy 10,sy 11,sy 12,sy 13,sy 14,iz 2,sy 15,sy 16,sy 6,sy 0,sy 1],148)] AQ 1 rfl rfl oQ (.bool false))
theorem SM(s:SP)(x:Int)(hxu:fv x)(hxa:s.m.cells[s.c.word s.p]? = some x)(hc:x≠s.w):cw prog 138 [] 0 20 ⟨s.W0,s.F0⟩ (oS s) (Gz s) (λκ:am=>(.bool false)) (λκ:am=>(GD s)):=(eP (c:=⟨s.W0,s.F0⟩) 5 (kn [s.tk,s.hd,iN (s.c.q),iN (s.c.q / 2),wN (s.c.q / 2),wN (s.c.q),iz (s.gg),uz (s.gg),wz (cI (s.w)),iN (s.c.n),iz (s.c.g),iz (s.c.m),iz (s.c.t),iz (s.c.s),iN (s.p),uz (s.w),wz (s.k),pz s.bm,uz (dQ s.w 1),iN (s.c.word s.p)] (fc s.kB (fc s.r9 fr)) [] [] [] fn fn fn s.W0 s.F0 [oR s,uw s] [] [⟨113,[sy 15,.int .u32 1],0,none,sy 18,none⟩,⟨40,[.agg #[sy 9,sy 2,sy 10,sy 11,sy 12,sy 13],sy 14],0,none,sy 19,none⟩,⟨154,[sy 17,sy 19,sy 15,sy 18],0,none,.bool false,some 1⟩]) fn (fc (pc (args:=[uz s.w,.int .u32 1]) rfl (λw hb=>ag (uv _ 1 s.hw w))) (fc (pc rfl (λw hb=>cM s.c s.p s.hp w)) (fc (cc rfl [aN s.bm s.m.tick] [0] [1,2] (λw F ho hn hF=>oO hn hxa (by have q0:=s.c.z s.hp;have q6:=s.hl;have q8:=s.hg;have q9:=s.hts;omega) s.w (dQ s.w 1) hc)) fn))) rfl [(4,s.bp)] AQ Ch 1 rfl rfl oQ (.bool false))
theorem SN(s:SP)(x:Int)(hxu:fv x)(hxa:s.m.cells[s.c.word s.p]? = some x)(hc:x=s.w):cw prog 138 [] 0 20 ⟨s.W0,s.F0⟩ (oS s) (Gz s) (λκ:am=>(.bool true)) (λκ:am=>[aE s.bp [iN s.c.n,iN s.c.q,iz s.c.g,iz s.c.m,iz s.c.t,iz s.c.s,iN s.p,iz 0,uz s.w,wz s.k,iz s.gg,s.tk,.slice none 0 0] 148,aN s.bm (s.m.put (s.c.word s.p) (dQ s.w 1)),jo s,fT s]):=(eP (c:=⟨s.W0,s.F0⟩) 5 (kn [s.tk,s.hd,iN (s.c.q),iN (s.c.q / 2),wN (s.c.q / 2),wN (s.c.q),iz (s.gg),uz (s.gg),wz (cI (s.w)),iN (s.c.n),iz (s.c.g),iz (s.c.m),iz (s.c.t),iz (s.c.s),iN (s.p),uz (s.w),wz (s.k),pz s.bm,uz (dQ s.w 1),iN (s.c.word s.p)] (fc s.kB (fc s.r9 fr)) [] [] [] fn fn fn s.W0 s.F0 [oR s,[aN s.bm (s.m.put (s.c.word s.p) (dQ s.w 1)),jo s,fT s]] [] [⟨113,[sy 15,.int .u32 1],0,none,sy 18,none⟩,⟨40,[.agg #[sy 9,sy 2,sy 10,sy 11,sy 12,sy 13],sy 14],0,none,sy 19,none⟩,⟨154,[sy 17,sy 19,sy 15,sy 18],0,none,.bool true,some 1⟩]) fn (fc (pc (args:=[uz s.w,.int .u32 1]) rfl (λw hb=>ag (uv _ 1 s.hw w))) (fc (pc rfl (λw hb=>cM s.c s.p s.hp w)) (fc (cc rfl [aN s.bm (s.m.put (s.c.word s.p) (dQ s.w 1))] [0] [1,2] (λw F ho hn hF=>kg hn hxa (by have q0:=s.c.z s.hp;have q6:=s.hl;have q8:=s.hg;have q9:=s.hts;omega) s.w (dQ s.w 1) hc)) fn))) rfl [(4,s.bp)] AQ [(4,[sy 9,sy 2,sy 10,sy 11,sy 12,sy 13,sy 14,iz 0,sy 15,sy 16,sy 6,sy 0,.slice none 0 0],148)] 1 rfl rfl oQ (.bool true))
theorem SO(s:SP)(x:Int)(hxu:fv x)(hxa:s.m.cells[s.c.slot s.p s.i4]? = some x)(h1:((s.ts.length+1:Nat):Int)=((s.c.q / 2:Nat):Int)):cw prog 138 [] 0 20 ⟨s.W0,s.F0⟩ (oS s) (GG s) (λκ:am=>(.bool false)) (λκ:am=>[aE s.bp [iN s.c.n,iN s.c.q,iz s.c.g,iz s.c.m,iz s.c.t,iz s.c.s,iN s.p,iz 5,uz s.w,wz s.k,iz s.gg,dv κ 415,s.hd] 148,aN s.bm s.m.tick,bT 3 1 (dv κ 415) (s.ts.length+1) ((aX s.ts)++[(iz (IntKind.i64.wrap (x)))]),fT s]):=by have q0:=s.c.z s.hp;have q6:=s.hl;have q8:=s.hg;have q9:=s.hts;have q2:=s.c.qb;obtain⟨i,i1,i2,i3,i4⟩:=b_;exact(eP (c:=⟨s.W0,s.F0⟩) 5 (kn [s.tk,s.hd,iN (s.c.q),iN (s.c.q / 2),wN (s.c.q / 2),wN (s.c.q),iz (s.gg),uz (s.gg),wz (cI (s.w)),iN (s.c.n),iz (s.c.g),iz (s.c.m),iz (s.c.t),iz (s.c.s),iN (s.p),uz (s.w),wz (s.k),pz s.bm,iN (s.ts.length),iz (((s.ts.length:Nat):Int)-((s.c.q / 2:Nat):Int)),wz (IntKind.u32.wrap (((s.ts.length:Nat):Int)-((s.c.q / 2:Nat):Int))),wz (IntKind.u32.wrap ((cI (s.w))+(IntKind.u32.wrap (((s.ts.length:Nat):Int)-((s.c.q / 2:Nat):Int))))),iN (s.c.slot s.p (IntKind.u32.wrap ((cI (s.w))+(IntKind.u32.wrap (((s.ts.length:Nat):Int)-((s.c.q / 2:Nat):Int)))))),uz (x),iz (IntKind.i64.wrap (x)),iN (s.ts.length+1)] (fc s.kB (fc s.r9 fr)) [(.quo,sy 2,iz 2,sy 3),(.sub,sy 18,sy 3,sy 19),(.add,sy 8,sy 20,sy 21),(.eql,sy 25,sy 3,.bool true)] [] [(.u32,sy 3,sy 4),(.i64,sy 4,sy 3),(.u32,sy 19,sy 20),(.i64,sy 23,sy 24)] (fc (λ_ _ _=>nI (by decide) (oP s.c)) (fc (λ_ _ _=>rK (by exact bx (by omega) (by omega))) (fc (λ_ _ _=>aQ rfl) (fc (λ_ _ _=>cZ (by first|(simpa using h1)|(simp;omega))) fn)))) fn (fc (cF rfl rfl (by rw[cy];omega)) (fc (cF rfl rfl (by exact bx (by omega) (by omega))) (fc ⟨.i64,_,rfl,rfl⟩ (fc ⟨.u64,_,rfl,rfl⟩ fn)))) s.W0 s.F0 [oR s,uw s,(GF s x)] [⟨[10,35],[sy 0],none,0,none,sy 18,none⟩,⟨[11,35,35],[sy 0],some (1,1,[sy 24]),1,some 415,.complex .f32 415 0,some 2⟩,⟨[10,35],[.complex .f32 415 0],none,2,none,sy 25,none⟩] [⟨74,[sy 15],0,none,sy 8,none⟩,⟨43,[.agg #[sy 9,sy 2,sy 10,sy 11,sy 12,sy 13],sy 14,sy 21],0,none,sy 22,none⟩,⟨150,[sy 17,sy 22],0,none,sy 23,some 1⟩]) (fc (by exact bC (ci:=2) rfl rfl underlying35 i2 rfl rfl) (fc (by exact kf (ci:=2) (m:=1) (cs:=[(iz (IntKind.i64.wrap (x)))]) rfl rfl rfl underlying35 underlying35 i1 i2 (by omega) i3 (by rw[i2];rfl) (by rw[i4];omega) (by omega) rfl rfl (ak (by kernel_rfl) (by kernel_rfl))) (fc (by exact qR (ci:=2) rfl rfl underlying35 i2 rfl) fn))) (fc (pc (args:=[uz s.w]) rfl (λw hb=>ag (l9 _ s.hw w))) (fc (pc (args:=[Gv s,iN s.p,(wz (IntKind.u32.wrap ((cI (s.w))+(IntKind.u32.wrap (((s.ts.length:Nat):Int)-((s.c.q / 2:Nat):Int))))))]) rfl (λw hb=>iO s.c s.p s.hp (IntKind.u32.wrap ((cI (s.w))+(IntKind.u32.wrap (((s.ts.length:Nat):Int)-((s.c.q / 2:Nat):Int))))) (by first | exact(bM _).1 | exact lh _) w)) (fc (cc rfl [aN s.bm s.m.tick] [0] [1,2] (λw F ho hn hF=>dk hn hxa (fK hxa (by omega)))) fn))) rfl [(4,s.bp)] GE [(4,[sy 9,sy 2,sy 10,sy 11,sy 12,sy 13,sy 14,iz 5,sy 15,sy 16,sy 6,.complex .f32 415 0,sy 1],148)] 2 rfl rfl oQ (.bool false)).conv (λκ w=>⟨(λ_ h=>h),(λ_ h=>h),(λ_ h=>fJ (a:=λv=>bT 3 1 v (s.ts.length+1) ((aX s.ts)++[(iz (IntKind.i64.wrap (x)))])) (λ_ _ _ _ _ h=>h) h),(λ_ h=>h),trivial⟩)
theorem SQ(s:SP)(x:Int)(hxu:fv x)(hxa:s.m.cells[s.c.slot s.p s.i4]? = some x)(h1:¬ ((s.ts.length+1:Nat):Int)=((s.c.q / 2:Nat):Int)):cw prog 138 [] 0 20 ⟨s.W0,s.F0⟩ (oS s) (GG s) (λκ:am=>(.bool false)) (λκ:am=>[aE s.bp [iN s.c.n,iN s.c.q,iz s.c.g,iz s.c.m,iz s.c.t,iz s.c.s,iN s.p,iz 4,uz s.w,wz s.k,iz s.gg,dv κ 415,s.hd] 148,aN s.bm s.m.tick,bT 3 1 (dv κ 415) (s.ts.length+1) ((aX s.ts)++[(iz (IntKind.i64.wrap (x)))]),fT s]):=by have q0:=s.c.z s.hp;have q6:=s.hl;have q8:=s.hg;have q9:=s.hts;have q2:=s.c.qb;obtain⟨i,i1,i2,i3,i4⟩:=b_;exact(eP (c:=⟨s.W0,s.F0⟩) 5 (kn [s.tk,s.hd,iN (s.c.q),iN (s.c.q / 2),wN (s.c.q / 2),wN (s.c.q),iz (s.gg),uz (s.gg),wz (cI (s.w)),iN (s.c.n),iz (s.c.g),iz (s.c.m),iz (s.c.t),iz (s.c.s),iN (s.p),uz (s.w),wz (s.k),pz s.bm,iN (s.ts.length),iz (((s.ts.length:Nat):Int)-((s.c.q / 2:Nat):Int)),wz (IntKind.u32.wrap (((s.ts.length:Nat):Int)-((s.c.q / 2:Nat):Int))),wz (IntKind.u32.wrap ((cI (s.w))+(IntKind.u32.wrap (((s.ts.length:Nat):Int)-((s.c.q / 2:Nat):Int))))),iN (s.c.slot s.p (IntKind.u32.wrap ((cI (s.w))+(IntKind.u32.wrap (((s.ts.length:Nat):Int)-((s.c.q / 2:Nat):Int)))))),uz (x),iz (IntKind.i64.wrap (x)),iN (s.ts.length+1)] (fc s.kB (fc s.r9 fr)) [(.quo,sy 2,iz 2,sy 3),(.sub,sy 18,sy 3,sy 19),(.add,sy 8,sy 20,sy 21),(.eql,sy 25,sy 3,.bool false)] [] [(.u32,sy 3,sy 4),(.i64,sy 4,sy 3),(.u32,sy 19,sy 20),(.i64,sy 23,sy 24)] (fc (λ_ _ _=>nI (by decide) (oP s.c)) (fc (λ_ _ _=>rK (by exact bx (by omega) (by omega))) (fc (λ_ _ _=>aQ rfl) (fc (λ_ _ _=>cZ (by first|(simpa using h1)|(simp;omega))) fn)))) fn (fc (cF rfl rfl (by rw[cy];omega)) (fc (cF rfl rfl (by exact bx (by omega) (by omega))) (fc ⟨.i64,_,rfl,rfl⟩ (fc ⟨.u64,_,rfl,rfl⟩ fn)))) s.W0 s.F0 [oR s,uw s,(GF s x)] [⟨[10,35],[sy 0],none,0,none,sy 18,none⟩,⟨[11,35,35],[sy 0],some (1,1,[sy 24]),1,some 415,.complex .f32 415 0,some 2⟩,⟨[10,35],[.complex .f32 415 0],none,2,none,sy 25,none⟩] [⟨74,[sy 15],0,none,sy 8,none⟩,⟨43,[.agg #[sy 9,sy 2,sy 10,sy 11,sy 12,sy 13],sy 14,sy 21],0,none,sy 22,none⟩,⟨150,[sy 17,sy 22],0,none,sy 23,some 1⟩]) (fc (by exact bC (ci:=2) rfl rfl underlying35 i2 rfl rfl) (fc (by exact kf (ci:=2) (m:=1) (cs:=[(iz (IntKind.i64.wrap (x)))]) rfl rfl rfl underlying35 underlying35 i1 i2 (by omega) i3 (by rw[i2];rfl) (by rw[i4];omega) (by omega) rfl rfl (ak (by kernel_rfl) (by kernel_rfl))) (fc (by exact qR (ci:=2) rfl rfl underlying35 i2 rfl) fn))) (fc (pc (args:=[uz s.w]) rfl (λw hb=>ag (l9 _ s.hw w))) (fc (pc (args:=[Gv s,iN s.p,(wz (IntKind.u32.wrap ((cI (s.w))+(IntKind.u32.wrap (((s.ts.length:Nat):Int)-((s.c.q / 2:Nat):Int))))))]) rfl (λw hb=>iO s.c s.p s.hp (IntKind.u32.wrap ((cI (s.w))+(IntKind.u32.wrap (((s.ts.length:Nat):Int)-((s.c.q / 2:Nat):Int))))) (by first | exact(bM _).1 | exact lh _) w)) (fc (cc rfl [aN s.bm s.m.tick] [0] [1,2] (λw F ho hn hF=>dk hn hxa (fK hxa (by omega)))) fn))) rfl [(4,s.bp)] GE [(4,[sy 9,sy 2,sy 10,sy 11,sy 12,sy 13,sy 14,iz 4,sy 15,sy 16,sy 6,.complex .f32 415 0,sy 1],148)] 2 rfl rfl oQ (.bool false)).conv (λκ w=>⟨(λ_ h=>h),(λ_ h=>h),(λ_ h=>fJ (a:=λv=>bT 3 1 v (s.ts.length+1) ((aX s.ts)++[(iz (IntKind.i64.wrap (x)))])) (λ_ _ _ _ _ h=>h) h),(λ_ h=>h),trivial⟩)
theorem SR(s:SP)(x:Int)(hxu:fv x)(hxa:s.m.cells[s.c.word s.p]? = some x)(hc:x≠s.w):cw prog 138 [] 0 20 ⟨s.W0,s.F0⟩ (oS s) (GI s) (λκ:am=>(.bool false)) (λκ:am=>(GD s)):=(eP (c:=⟨s.W0,s.F0⟩) 5 (kn [s.tk,s.hd,iN (s.c.q),iN (s.c.q / 2),wN (s.c.q / 2),wN (s.c.q),iz (s.gg),uz (s.gg),wz (cI (s.w)),iN (s.c.n),iz (s.c.g),iz (s.c.m),iz (s.c.t),iz (s.c.s),iN (s.p),uz (s.w),wz (s.k),pz s.bm,uz (dQ s.w (-((s.c.q / 2:Nat):Int))),iN (s.c.word s.p)] (fc s.kB (fc s.r9 fr)) [(.quo,sy 2,iz 2,sy 3)] [] [(.u32,sy 3,sy 4)] (fc (λ_ _ _=>nI (by decide) (oP s.c)) fn) fn (fc (cF rfl rfl (by have q2:=s.c.qb;rw[cy];omega)) fn) s.W0 s.F0 [oR s,uw s] [] [⟨96,[sy 15,sy 4],0,none,sy 18,none⟩,⟨40,[.agg #[sy 9,sy 2,sy 10,sy 11,sy 12,sy 13],sy 14],0,none,sy 19,none⟩,⟨154,[sy 17,sy 19,sy 15,sy 18],0,none,.bool false,some 1⟩]) fn (fc (pc (args:=[uz s.w,wN (s.c.q / 2)]) rfl (λw hb=>ag (yY _ _ s.hw w))) (fc (pc rfl (λw hb=>cM s.c s.p s.hp w)) (fc (cc rfl [aN s.bm s.m.tick] [0] [1,2] (λw F ho hn hF=>oO hn hxa (by have q0:=s.c.z s.hp;have q6:=s.hl;have q8:=s.hg;have q9:=s.hts;omega) s.w (dQ s.w (-((s.c.q / 2:Nat):Int))) hc)) fn))) rfl [(4,s.bp)] GH Ch 1 rfl rfl oQ (.bool false))
theorem SS(s:SP)(x:Int)(hxu:fv x)(hxa:s.m.cells[s.c.word s.p]? = some x)(hc:x=s.w):cw prog 138 [] 0 20 ⟨s.W0,s.F0⟩ (oS s) (GI s) (λκ:am=>(.bool true)) (λκ:am=>[aE s.bp [iN s.c.n,iN s.c.q,iz s.c.g,iz s.c.m,iz s.c.t,iz s.c.s,iN s.p,iz 0,uz s.w,wz s.k,iz s.gg,s.tk,dv κ 415] 148,AS s,bT 3 1 (dv κ 415) (s.ts.length+1) ((aX s.ts)++[iz s.gg]),fT s]):=by have q0:=s.c.z s.hp;have q6:=s.hl;have q8:=s.hg;have q9:=s.hts;exact(eP (c:=⟨s.W0,s.F0⟩) 5 (kn [s.tk,s.hd,iN (s.c.q),iN (s.c.q / 2),wN (s.c.q / 2),wN (s.c.q),iz (s.gg),uz (s.gg),wz (cI (s.w)),iN (s.c.n),iz (s.c.g),iz (s.c.m),iz (s.c.t),iz (s.c.s),iN (s.p),uz (s.w),wz (s.k),pz s.bm,uz (dQ s.w (-((s.c.q / 2:Nat):Int))),iN (s.c.word s.p)] (fc s.kB (fc s.r9 fr)) [(.quo,sy 2,iz 2,sy 3)] [] [(.u32,sy 3,sy 4)] (fc (λ_ _ _=>nI (by decide) (oP s.c)) fn) fn (fc (cF rfl rfl (by have q2:=s.c.qb;rw[cy];omega)) fn) s.W0 s.F0 [oR s,[AS s,jo s,fT s],[AS s,jS 415 (λv=>bT 3 1 v (s.ts.length+1) ((aX s.ts)++[iz s.gg])),fT s]] [⟨[11,35,35],[sy 0],some (1,1,[sy 6]),1,some 415,.complex .f32 415 0,some 2⟩] [⟨96,[sy 15,sy 4],0,none,sy 18,none⟩,⟨40,[.agg #[sy 9,sy 2,sy 10,sy 11,sy 12,sy 13],sy 14],0,none,sy 19,none⟩,⟨154,[sy 17,sy 19,sy 15,sy 18],0,none,.bool true,some 1⟩]) (fc (by obtain⟨i,i1,i2,i3,i4⟩:=b_;exact kf (ci:=2) (m:=1) (cs:=[iz s.gg]) rfl rfl rfl underlying35 underlying35 i1 i2 (by omega) i3 (by rw[i2];rfl) (by rw[i4];omega) (by omega) rfl rfl (ak (by kernel_rfl) (by kernel_rfl))) fn) (fc (pc (args:=[uz s.w,wN (s.c.q / 2)]) rfl (λw hb=>ag (yY _ _ s.hw w))) (fc (pc rfl (λw hb=>cM s.c s.p s.hp w)) (fc (cc rfl [aN s.bm (s.m.put (s.c.word s.p) (dQ s.w (-((s.c.q / 2:Nat):Int))))] [0] [1,2] (λw F ho hn hF=>kg hn hxa (by omega) s.w (dQ s.w (-((s.c.q / 2:Nat):Int))) hc)) fn))) rfl [(4,s.bp)] GH [(4,[sy 9,sy 2,sy 10,sy 11,sy 12,sy 13,sy 14,iz 0,sy 15,sy 16,sy 6,sy 0,.complex .f32 415 0],148)] 2 rfl rfl oQ (.bool true)).conv (λκ w=>⟨(λ_ h=>h),(λ_ h=>h),(λ_ h=>fJ (a:=λv=>bT 3 1 v (s.ts.length+1) ((aX s.ts)++[iz s.gg])) (λ_ _ _ _ _ h=>h) h),(λ_ h=>h),trivial⟩)
end Go.Proofs.YtkmccgombmogmaaGreat
