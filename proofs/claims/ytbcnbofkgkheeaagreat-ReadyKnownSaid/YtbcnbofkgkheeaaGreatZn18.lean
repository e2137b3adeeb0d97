/- Part of a proof: see the last text. -/
import Derived.Test.YtbcnbofkgkheeaaGreatZn16
import Derived.Test.YtbcnbofkgkheeaaGreatZn17
import Derived.WalkKit
import Derived.WalkSpells
import Derived.Lib.Walk
import Derived.Lib.SliceRun
import Derived.Deep.LoopGhost
import Derived.Laws.AppendOwn
import Derived.Test.YtbcnbofkgkheeaaGreatZn15
set_option linter.unusedSimpArgs false
set_option linter.unusedVariables false
namespace Go.Proofs.YtbcnbofkgkheeaaGreat
open Go.Ev Go.Proofs.Tryz
open Go.RowKit
open Go.Ev (sy iz uz wz iN uN wN pz dv fc fn ak vk vd kn pc cc cr cm cd fr)
set_option maxRecDepth 8000
attribute [local irreducible] dL
structure S9 where
 W0:World
 F0:Nat->Prop
 c:aT
 p:Nat
 hp:p<c.n
 gg:Int
 hg:0<=gg/\gg<=9223372036854775807
 w:Int
 hw:c7 w
 rv:Value
 tk:Value
 hd:Value
 lrv:ai rv=true
 cx:ai tk=true
 cQ:ai hd=true
 xs:List Int
 ts:List Int
 hs:List Int
 hl:xs.length=4+c.off c.n
 hx:xs.length<=1000000
 hts:ts.length<=64
 ops:Int
abbrev S9.i4(s:S9):Int:=IntKind.u32.wrap (IntKind.u32.wrap (cq s.w-((s.c.q / 2:Nat):Int))+((s.ts.length:Nat):Int))
theorem bN{f:FuncId}{args:Array Value}{w:World}{v:Ending}(h:Calls prog f args w λe w'=>e=v/\w=w'):Calls prog f args w λe w'=>e=v/\Below w.heap.size w w':=h.mono (by rintro e w' ⟨h,rfl⟩;exact⟨h,Below.refl _ _⟩)
theorem iL(n:Int):0<=IntKind.u32.wrap n:=by rw[bj];omega
theorem ct{n:Int}(h1:0<=n)(h2:n<18446744073709551616):IntKind.u64.wrap n=n:=by
 unfold IntKind.wrap;simp[IntKind.signed,IntKind.bits];omega
theorem hM(c:aT):IntKind.i64.wrap ((c.q:Int).tdiv 2)=((c.q / 2:Nat):Int):=by
 have:=c.qb;rw[Int.tdiv_eq_ediv_of_nonneg (by omega),ap (by omega) (by omega)];omega
theorem I1{x:Int}(h:c7 x)(w:World):Calls prog 73 #[.int .u32 (dS x),.int .u32 (IntKind.u32.wrap (cq x+1))] w λe w'=>e=.returned (.int .u64 (gF x 1))/\Below w.heap.size w w':=by
 rw[bj];exact bN (Oz _ _ (lx h) (by omega) w)
theorem I2(c:aT){x:Int}(h:c7 x)(w:World):Calls prog 73 #[.int .u32 (dS x),.int .u32 (IntKind.u32.wrap (cq x-((c.q / 2:Nat):Int)))] w λe w'=>e=.returned (.int .u64 (gF x (-((c.q / 2:Nat):Int))))/\Below w.heap.size w w':=by
 rw[bj];exact bN (Oz _ _ (lx h) (by omega) w)
abbrev I3(s:S9):Value:=(.agg #[iN s.c.n,iN s.c.q,iz s.c.g,iz s.c.m,iz s.c.t,iz s.c.s])
abbrev OB:List (Nat×Value):=[(0,.agg #[sy 13,sy 5,sy 14,sy 15,sy 16,sy 17,sy 18,sy 9,iz 1,sy 19,sy 1,sy 2]),(1,.agg #[sy 0,sy 3])]
abbrev Bq(s:S9):aC:=aD 28 1 (s.rv) (s.xs.length) (aF s.xs)
abbrev kx(s:S9):aC:=aD 3 1 (s.tk) (s.ts.length) (aO s.ts)
abbrev ky(s:S9):aC:=aD 3 1 (s.hd) (s.hs.length) (aO s.hs)
abbrev dM(s:S9):List aC:=[Bq s,kx s,ky s]
abbrev I4(s:S9):Value:=(.agg #[iN s.c.n,iN s.c.q,iz s.c.g,iz s.c.m,iz s.c.t,iz s.c.s,iN s.p,iz s.gg,iz 1,uz s.w,s.tk,s.hd])
abbrev Br(s:S9):Value:=(.agg #[s.rv,uz s.ops])
abbrev OC(s:S9):List (Nat×Value):=[(0,I4 s),(1,Br s)]
abbrev qE(s:S9):Value:=(.agg #[s.rv,(uz (IntKind.u64.wrap (s.ops+1)))])
abbrev I5(s:S9):Value:=(.agg #[iN s.c.n,iN s.c.q,iz s.c.g,iz s.c.m,iz s.c.t,iz s.c.s,iN s.p,iz s.gg,iz 3,uz s.w,s.tk,s.hd])
abbrev I6:List (Nat×Value):=[(0,.agg #[sy 13,sy 5,sy 14,sy 15,sy 16,sy 17,sy 18,sy 9,iz 3,sy 19,sy 1,sy 2]),(1,.agg #[sy 0,sy 3])]
abbrev I7(s:S9):List (Nat×Value):=[(0,I5 s),(1,Br s)]
abbrev I8:List (Nat×Value):=[(0,.agg #[sy 13,sy 5,sy 14,sy 15,sy 16,sy 17,sy 18,sy 9,iz 4,sy 19,sy 1,sy 2]),(1,.agg #[sy 0,sy 3])]
abbrev I9(s:S9):List aC:=[Bq s,kx s,ky s,bP 427 (λv=>aD 3 1 v (s.ts.length) (aO s.ts))]
abbrev I_(s:S9)(x:Int):List aC:=[Bq s,kx s,ky s,bP 435 (λv=>aD 3 1 v (s.ts.length+1) ((aO s.ts)++[(iz (IntKind.i64.wrap (x)))]))]
abbrev I'(s:S9):List (Nat×Value):=[(0,(.agg #[iN s.c.n,iN s.c.q,iz s.c.g,iz s.c.m,iz s.c.t,iz s.c.s,iN s.p,iz s.gg,iz 4,uz s.w,s.tk,s.hd])),(1,Br s)]
abbrev Ja:List (Nat×Value):=[(0,.agg #[sy 13,sy 5,sy 14,sy 15,sy 16,sy 17,sy 18,sy 9,iz 5,sy 19,sy 1,sy 2]),(1,.agg #[sy 0,sy 3])]
abbrev Jb(s:S9):List (Nat×Value):=[(0,(.agg #[iN s.c.n,iN s.c.q,iz s.c.g,iz s.c.m,iz s.c.t,iz s.c.s,iN s.p,iz s.gg,iz 5,uz s.w,s.tk,s.hd])),(1,Br s)]
abbrev C4(s:S9):aC:=bP 419 (λv=>aD 28 1 v s.xs.length (aF (s.xs.set (s.c.word s.p) (gF s.w (-((s.c.q / 2:Nat):Int))))))
theorem WE(s:S9)(x:Int)(hxu:c7 x)(hxa:s.xs[s.c.word s.p]? = some x)(h1:(cu (x))≥((s.c.q:Nat):Int)):aK prog 60 [] 0 162 ⟨s.W0,s.F0⟩ (OC s) (dM s) (λκ:ag=>(.tuple #[(.agg #[iN s.c.n,iN s.c.q,iz s.c.g,iz s.c.m,iz s.c.t,iz s.c.s,iN s.p,iz s.gg,iz 4,uz x,.slice none 0 0,s.hd]),qE s])) (λκ:ag=>(dM s)):=(bU (c:=⟨s.W0,s.F0⟩) 9 (kn [s.rv,s.tk,s.hd,uz (s.ops),uz (IntKind.u64.wrap (s.ops+1)),iN (s.c.q),iN (s.c.q / 2),wN (s.c.q / 2),wN (s.c.q),iz (s.gg),uz (s.gg),iN (s.ts.length),wN (s.ts.length),iN (s.c.n),iz (s.c.g),iz (s.c.m),iz (s.c.t),iz (s.c.s),iN (s.p),uz (s.w),wz (cq (s.w)),iN (s.c.word s.p),uz (x),wz (cu (x))] (fc s.lrv (fc s.cx (fc s.cQ fr))) [(.geq,sy 23,sy 8,.bool true)] [] [(.u32,sy 5,sy 8)] (fc (λ_ _ _=>bG (by have q0:=s.c.z s.hp;have q6:=s.hl;have q7:=s.hx;have q8:=s.hg;have q9:=s.hts;first|(simpa using h1)|(simp;omega))) fn) fn (fc (bF rfl rfl (by have q2:=s.c.qb;rw[bj];omega)) fn) s.W0 s.F0 [dM s,dM s] [] [⟨69,[sy 19],0,none,sy 20,none⟩,⟨57,[.agg #[sy 13,sy 5,sy 14,sy 15,sy 16,sy 17],sy 18],0,none,sy 21,none⟩,⟨58,[.agg #[sy 0,sy 3],sy 21],0,none,.tuple #[.agg #[sy 0,sy 4],sy 22],some 1⟩,⟨70,[sy 22],1,none,sy 23,none⟩]) fn (fc (pc (args:=[uz s.w]) rfl (λw hb=>bN (nV _ s.hw w))) (fc (pc rfl (λw hb=>b7 s.c s.p s.hp w)) (fc (cc rfl [aD 28 1 (s.rv) (s.xs.length) (aF s.xs)] [0] [1,2] (λw F ho hn hF=>jo s.lrv s.hx s.ops hxa hn)) (fc (pc (args:=[uz x]) rfl (λw hb=>bN (OA _ hxu w))) fn)))) rfl [] [] [] 1 rfl rfl OB (.tuple #[.agg #[sy 13,sy 5,sy 14,sy 15,sy 16,sy 17,sy 18,sy 9,iz 4,sy 22,.slice none 0 0,sy 2],.agg #[sy 0,sy 4]]))
theorem WF(s:S9)(x:Int)(hxu:c7 x)(hxa:s.xs[s.c.word s.p]? = some x)(h1:¬ (cu (x))≥((s.c.q:Nat):Int)):aK prog 60 [] 0 162 ⟨s.W0,s.F0⟩ (OC s) (dM s) (λκ:ag=>(.tuple #[(.agg #[iN s.c.n,iN s.c.q,iz s.c.g,iz s.c.m,iz s.c.t,iz s.c.s,iN s.p,iz s.gg,iz 2,uz x,.slice none 0 0,s.hd]),qE s])) (λκ:ag=>(dM s)):=(bU (c:=⟨s.W0,s.F0⟩) 9 (kn [s.rv,s.tk,s.hd,uz (s.ops),uz (IntKind.u64.wrap (s.ops+1)),iN (s.c.q),iN (s.c.q / 2),wN (s.c.q / 2),wN (s.c.q),iz (s.gg),uz (s.gg),iN (s.ts.length),wN (s.ts.length),iN (s.c.n),iz (s.c.g),iz (s.c.m),iz (s.c.t),iz (s.c.s),iN (s.p),uz (s.w),wz (cq (s.w)),iN (s.c.word s.p),uz (x),wz (cu (x))] (fc s.lrv (fc s.cx (fc s.cQ fr))) [(.geq,sy 23,sy 8,.bool false)] [] [(.u32,sy 5,sy 8)] (fc (λ_ _ _=>bG (by have q0:=s.c.z s.hp;have q6:=s.hl;have q7:=s.hx;have q8:=s.hg;have q9:=s.hts;first|(simpa using h1)|(simp;omega))) fn) fn (fc (bF rfl rfl (by have q2:=s.c.qb;rw[bj];omega)) fn) s.W0 s.F0 [dM s,dM s] [] [⟨69,[sy 19],0,none,sy 20,none⟩,⟨57,[.agg #[sy 13,sy 5,sy 14,sy 15,sy 16,sy 17],sy 18],0,none,sy 21,none⟩,⟨58,[.agg #[sy 0,sy 3],sy 21],0,none,.tuple #[.agg #[sy 0,sy 4],sy 22],some 1⟩,⟨70,[sy 22],1,none,sy 23,none⟩]) fn (fc (pc (args:=[uz s.w]) rfl (λw hb=>bN (nV _ s.hw w))) (fc (pc rfl (λw hb=>b7 s.c s.p s.hp w)) (fc (cc rfl [aD 28 1 (s.rv) (s.xs.length) (aF s.xs)] [0] [1,2] (λw F ho hn hF=>jo s.lrv s.hx s.ops hxa hn)) (fc (pc (args:=[uz x]) rfl (λw hb=>bN (OA _ hxu w))) fn)))) rfl [] [] [] 1 rfl rfl OB (.tuple #[.agg #[sy 13,sy 5,sy 14,sy 15,sy 16,sy 17,sy 18,sy 9,iz 2,sy 22,.slice none 0 0,sy 2],.agg #[sy 0,sy 4]]))
theorem WG(s:S9)(ha:s.c.slot s.p (cq s.w)<s.xs.length):aK prog 60 [] 0 162 ⟨s.W0,s.F0⟩ [(0,(.agg #[iN s.c.n,iN s.c.q,iz s.c.g,iz s.c.m,iz s.c.t,iz s.c.s,iN s.p,iz s.gg,iz 2,uz s.w,s.tk,s.hd])),(1,Br s)] (dM s) (λκ:ag=>(.tuple #[I5 s,(.agg #[dv κ 419,(uz (IntKind.u64.wrap (s.ops+1)))])])) (λκ:ag=>[aD 28 1 (dv κ 419) s.xs.length (aF (s.xs.set (s.c.slot s.p (cq (s.w))) (s.gg))),kx s,ky s]):=by have q8:=s.hg;exact(bU (c:=⟨s.W0,s.F0⟩) 9 (kn [s.rv,s.tk,s.hd,uz (s.ops),uz (IntKind.u64.wrap (s.ops+1)),iN (s.c.q),iN (s.c.q / 2),wN (s.c.q / 2),wN (s.c.q),iz (s.gg),uz (s.gg),iN (s.ts.length),wN (s.ts.length),iN (s.c.n),iz (s.c.g),iz (s.c.m),iz (s.c.t),iz (s.c.s),iN (s.p),uz (s.w),wz (cq (s.w)),iN (s.c.slot s.p (cq (s.w)))] (fc s.lrv (fc s.cx (fc s.cQ fr))) [] [] [(.u64,sy 9,sy 10)] fn fn (fc (bF rfl rfl (ct (by omega) (by omega))) fn) s.W0 s.F0 [dM s,[bP 419 (λv=>aD 28 1 v s.xs.length (aF (s.xs.set (s.c.slot s.p (cq (s.w))) (s.gg)))),kx s,ky s]] [] [⟨69,[sy 19],0,none,sy 20,none⟩,⟨71,[.agg #[sy 13,sy 5,sy 14,sy 15,sy 16,sy 17],sy 18,sy 20],0,none,sy 21,none⟩,⟨40,[.agg #[sy 0,sy 3],sy 21,sy 10],0,some 419,.agg #[.complex .f32 419 0,sy 4],some 1⟩]) fn (fc (pc (args:=[uz s.w]) rfl (λw hb=>bN (nV _ s.hw w))) (fc (pc (args:=[I3 s,iN s.p,(wz (cq (s.w)))]) rfl (λw hb=>tZ s.c s.p s.hp (cq (s.w)) (by first | exact(fq _).1 | exact iL _) w)) (fc (cd rfl [λv=>aD 28 1 v s.xs.length (aF (s.xs.set (s.c.slot s.p (cq (s.w))) (s.gg)))] [0] [1,2] (λw F ho hn hF=>fj s.lrv s.hx s.ops ha (s.gg) hn)) fn))) rfl [] [] [] 1 rfl rfl [(0,.agg #[sy 13,sy 5,sy 14,sy 15,sy 16,sy 17,sy 18,sy 9,iz 2,sy 19,sy 1,sy 2]),(1,.agg #[sy 0,sy 3])] (.tuple #[.agg #[sy 13,sy 5,sy 14,sy 15,sy 16,sy 17,sy 18,sy 9,iz 3,sy 19,sy 1,sy 2],.agg #[.complex .f32 419 0,sy 4]])).conv (λκ w=>⟨(λ_ h=>aS (a:=λv=>aD 28 1 v s.xs.length (aF (s.xs.set (s.c.slot s.p (cq (s.w))) (s.gg)))) (λ_ _ _ _ _ h=>h) h),(λ_ h=>h),(λ_ h=>h),trivial⟩)
theorem WH(s:S9)(x:Int)(hxu:c7 x)(hxa:s.xs[s.c.word s.p]? = some x)(hc:x≠s.w):aK prog 60 [] 0 162 ⟨s.W0,s.F0⟩ (I7 s) (dM s) (λκ:ag=>(.tuple #[I4 s,qE s])) (λκ:ag=>(dM s)):=(bU (c:=⟨s.W0,s.F0⟩) 9 (kn [s.rv,s.tk,s.hd,uz (s.ops),uz (IntKind.u64.wrap (s.ops+1)),iN (s.c.q),iN (s.c.q / 2),wN (s.c.q / 2),wN (s.c.q),iz (s.gg),uz (s.gg),iN (s.ts.length),wN (s.ts.length),iN (s.c.n),iz (s.c.g),iz (s.c.m),iz (s.c.t),iz (s.c.s),iN (s.p),uz (s.w),wz (cq (s.w)),iN (s.c.word s.p),wz (dS (s.w)),wz (IntKind.u32.wrap ((cq (s.w))+1)),uz (gF s.w 1)] (fc s.lrv (fc s.cx (fc s.cQ fr))) [(.add,sy 20,.int .u32 1,sy 23)] [] [] (fc (λ_ _ _=>ax rfl) fn) fn fn s.W0 s.F0 [dM s,dM s] [] [⟨69,[sy 19],0,none,sy 20,none⟩,⟨57,[.agg #[sy 13,sy 5,sy 14,sy 15,sy 16,sy 17],sy 18],0,none,sy 21,none⟩,⟨74,[sy 19],0,none,sy 22,none⟩,⟨73,[sy 22,sy 23],0,none,sy 24,none⟩,⟨72,[.agg #[sy 0,sy 3],sy 21,sy 19,sy 24],0,none,.tuple #[.agg #[sy 0,sy 4],.bool false],some 1⟩]) fn (fc (pc (args:=[uz s.w]) rfl (λw hb=>bN (nV _ s.hw w))) (fc (pc rfl (λw hb=>b7 s.c s.p s.hp w)) (fc (pc (args:=[uz s.w]) rfl (λw hb=>bN (Bj _ s.hw w))) (fc (pc rfl (λw hb=>I1 s.hw w)) (fc (cc rfl [aD 28 1 (s.rv) (s.xs.length) (aF s.xs)] [0] [1,2] (λw F ho hn hF=>EO s.lrv s.hx s.ops hxa s.w (gF s.w 1) hc hn)) fn))))) rfl [] [] [] 1 rfl rfl I6 (.tuple #[.agg #[sy 13,sy 5,sy 14,sy 15,sy 16,sy 17,sy 18,sy 9,iz 1,sy 19,sy 1,sy 2],.agg #[sy 0,sy 4]]))
theorem WI(s:S9)(x:Int)(hxu:c7 x)(hxa:s.xs[s.c.word s.p]? = some x)(hc:x=s.w):aK prog 60 [] 0 162 ⟨s.W0,s.F0⟩ (I7 s) (dM s) (λκ:ag=>(.tuple #[(.agg #[iN s.c.n,iN s.c.q,iz s.c.g,iz s.c.m,iz s.c.t,iz s.c.s,iN s.p,iz s.gg,iz 0,uz s.w,s.tk,.slice none 0 0]),(.agg #[dv κ 419,(uz (IntKind.u64.wrap (s.ops+1)))])])) (λκ:ag=>[aD 28 1 (dv κ 419) s.xs.length (aF (s.xs.set (s.c.word s.p) (gF s.w 1))),kx s,ky s]):=(bU (c:=⟨s.W0,s.F0⟩) 9 (kn [s.rv,s.tk,s.hd,uz (s.ops),uz (IntKind.u64.wrap (s.ops+1)),iN (s.c.q),iN (s.c.q / 2),wN (s.c.q / 2),wN (s.c.q),iz (s.gg),uz (s.gg),iN (s.ts.length),wN (s.ts.length),iN (s.c.n),iz (s.c.g),iz (s.c.m),iz (s.c.t),iz (s.c.s),iN (s.p),uz (s.w),wz (cq (s.w)),iN (s.c.word s.p),wz (dS (s.w)),wz (IntKind.u32.wrap ((cq (s.w))+1)),uz (gF s.w 1)] (fc s.lrv (fc s.cx (fc s.cQ fr))) [(.add,sy 20,.int .u32 1,sy 23)] [] [] (fc (λ_ _ _=>ax rfl) fn) fn fn s.W0 s.F0 [dM s,[bP 419 (λv=>aD 28 1 v s.xs.length (aF (s.xs.set (s.c.word s.p) (gF s.w 1)))),kx s,ky s]] [] [⟨69,[sy 19],0,none,sy 20,none⟩,⟨57,[.agg #[sy 13,sy 5,sy 14,sy 15,sy 16,sy 17],sy 18],0,none,sy 21,none⟩,⟨74,[sy 19],0,none,sy 22,none⟩,⟨73,[sy 22,sy 23],0,none,sy 24,none⟩,⟨72,[.agg #[sy 0,sy 3],sy 21,sy 19,sy 24],0,some 419,.tuple #[.agg #[.complex .f32 419 0,sy 4],.bool true],some 1⟩]) fn (fc (pc (args:=[uz s.w]) rfl (λw hb=>bN (nV _ s.hw w))) (fc (pc rfl (λw hb=>b7 s.c s.p s.hp w)) (fc (pc (args:=[uz s.w]) rfl (λw hb=>bN (Bj _ s.hw w))) (fc (pc rfl (λw hb=>I1 s.hw w)) (fc (cd rfl [λv=>aD 28 1 v s.xs.length (aF (s.xs.set (s.c.word s.p) (gF s.w 1)))] [0] [1,2] (λw F ho hn hF=>Bp s.lrv s.hx s.ops hxa s.w (gF s.w 1) hc hn)) fn))))) rfl [] [] [] 1 rfl rfl I6 (.tuple #[.agg #[sy 13,sy 5,sy 14,sy 15,sy 16,sy 17,sy 18,sy 9,iz 0,sy 19,sy 1,.slice none 0 0],.agg #[.complex .f32 419 0,sy 4]])).conv (λκ w=>⟨(λ_ h=>aS (a:=λv=>aD 28 1 v s.xs.length (aF (s.xs.set (s.c.word s.p) (gF s.w 1)))) (λ_ _ _ _ _ h=>h) h),(λ_ h=>h),(λ_ h=>h),trivial⟩)
theorem WJ(s:S9)(x:Int)(hxu:c7 x)(hxa:s.xs[s.c.slot s.p s.i4]? = some x)(h1:((s.ts.length+1:Nat):Int)=((s.c.q / 2:Nat):Int)):aK prog 60 [] 0 162 ⟨s.W0,s.F0⟩ (I' s) (dM s) (λκ:ag=>(.tuple #[(.agg #[iN s.c.n,iN s.c.q,iz s.c.g,iz s.c.m,iz s.c.t,iz s.c.s,iN s.p,iz s.gg,iz 5,uz s.w,dv κ 435,s.hd]),qE s])) (λκ:ag=>[Bq s,kx s,ky s,aD 3 1 (dv κ 435) (s.ts.length+1) ((aO s.ts)++[(iz (IntKind.i64.wrap (x)))])]):=by have q0:=s.c.z s.hp;have q6:=s.hl;have q7:=s.hx;have q8:=s.hg;have q9:=s.hts;obtain⟨i,i1,i2,i3,i4⟩:=b0;exact(bU (c:=⟨s.W0,s.F0⟩) 9 (kn [s.rv,s.tk,s.hd,uz (s.ops),uz (IntKind.u64.wrap (s.ops+1)),iN (s.c.q),iN (s.c.q / 2),wN (s.c.q / 2),wN (s.c.q),iz (s.gg),uz (s.gg),iN (s.ts.length),wN (s.ts.length),iN (s.c.n),iz (s.c.g),iz (s.c.m),iz (s.c.t),iz (s.c.s),iN (s.p),uz (s.w),wz (cq (s.w)),wz (IntKind.u32.wrap ((cq (s.w))-((s.c.q / 2:Nat):Int))),wz (IntKind.u32.wrap ((IntKind.u32.wrap ((cq (s.w))-((s.c.q / 2:Nat):Int)))+((s.ts.length:Nat):Int))),iN (s.c.slot s.p (IntKind.u32.wrap ((IntKind.u32.wrap ((cq (s.w))-((s.c.q / 2:Nat):Int)))+((s.ts.length:Nat):Int)))),uz (x),iz (IntKind.i64.wrap (x)),iN (s.ts.length+1)] (fc s.lrv (fc s.cx (fc s.cQ fr))) [(.quo,sy 5,iz 2,sy 6),(.sub,sy 20,sy 7,sy 21),(.add,sy 21,sy 12,sy 22),(.eql,sy 26,sy 6,.bool true)] [] [(.u32,sy 6,sy 7),(.u32,sy 11,sy 12),(.i64,sy 24,sy 25)] (fc (λ_ _ _=>dH (by decide) (hM s.c)) (fc (λ_ _ _=>bX rfl) (fc (λ_ _ _=>ax rfl) (fc (λ_ _ _=>aM (by first|(simpa using h1)|(simp;omega))) fn)))) fn (fc (bF rfl rfl (by have q2:=s.c.qb;rw[bj];omega)) (fc (bF rfl rfl (by rw[bj];omega)) (fc ⟨.u64,_,rfl,rfl⟩ fn))) s.W0 s.F0 [dM s,dM s,I9 s,(I_ s x)] [⟨[10,45],[sy 1],none,0,none,sy 11,none⟩,⟨[11,45,45],[.slice none 0 0,sy 1],none,1,some 427,.complex .f32 427 0,some 2⟩,⟨[11,45,45],[.complex .f32 427 0],some (1,1,[sy 25]),2,some 435,.complex .f32 435 0,some 3⟩,⟨[10,45],[.complex .f32 435 0],none,3,none,sy 26,none⟩] [⟨69,[sy 19],0,none,sy 20,none⟩,⟨71,[.agg #[sy 13,sy 5,sy 14,sy 15,sy 16,sy 17],sy 18,sy 22],0,none,sy 23,none⟩,⟨58,[.agg #[sy 0,sy 3],sy 23],0,none,.tuple #[.agg #[sy 0,sy 4],sy 24],some 1⟩]) (fc (by exact bT (ci:=2) rfl rfl underlying45 i2 rfl rfl) (fc (by exact m7 rfl rfl ou (.inl rfl) rfl (tT (ci:=2) rfl rfl) underlying45 underlying45 i1 i2 i3 (by rw[i2];rfl) (by rw[i4];omega) (by omega) dq) (fc (by exact oA (ci:=4) (m:=1) (cs:=[(iz (IntKind.i64.wrap (x)))]) rfl rfl rfl underlying45 underlying45 i1 i2 (by omega) i3 (by rw[i2];rfl) (by rw[i4];omega) (by omega) rfl (ak (by kernel_rfl) (by kernel_rfl))) (fc (by exact r6 (ci:=4) rfl rfl underlying45 i2 rfl) fn)))) (fc (pc (args:=[uz s.w]) rfl (λw hb=>bN (nV _ s.hw w))) (fc (pc (args:=[I3 s,iN s.p,(wz (IntKind.u32.wrap ((IntKind.u32.wrap ((cq (s.w))-((s.c.q / 2:Nat):Int)))+((s.ts.length:Nat):Int))))]) rfl (λw hb=>tZ s.c s.p s.hp (IntKind.u32.wrap ((IntKind.u32.wrap ((cq (s.w))-((s.c.q / 2:Nat):Int)))+((s.ts.length:Nat):Int))) (by first | exact(fq _).1 | exact iL _) w)) (fc (cc rfl [aD 28 1 (s.rv) (s.xs.length) (aF s.xs)] [0] [1,2] (λw F ho hn hF=>jo s.lrv s.hx s.ops hxa hn)) fn))) rfl [] [] [] 3 rfl rfl I8 (.tuple #[.agg #[sy 13,sy 5,sy 14,sy 15,sy 16,sy 17,sy 18,sy 9,iz 5,sy 19,.complex .f32 435 0,sy 2],.agg #[sy 0,sy 4]])).conv (λκ w=>⟨(λ_ h=>h),(λ_ h=>h),(λ_ h=>h),(λ_ h=>aS (a:=λv=>aD 3 1 v (s.ts.length+1) ((aO s.ts)++[(iz (IntKind.i64.wrap (x)))])) (λ_ _ _ _ _ h=>h) h),trivial⟩)
theorem WK(s:S9)(x:Int)(hxu:c7 x)(hxa:s.xs[s.c.slot s.p s.i4]? = some x)(h1:¬ ((s.ts.length+1:Nat):Int)=((s.c.q / 2:Nat):Int)):aK prog 60 [] 0 162 ⟨s.W0,s.F0⟩ (I' s) (dM s) (λκ:ag=>(.tuple #[(.agg #[iN s.c.n,iN s.c.q,iz s.c.g,iz s.c.m,iz s.c.t,iz s.c.s,iN s.p,iz s.gg,iz 4,uz s.w,dv κ 435,s.hd]),qE s])) (λκ:ag=>[Bq s,kx s,ky s,aD 3 1 (dv κ 435) (s.ts.length+1) ((aO s.ts)++[(iz (IntKind.i64.wrap (x)))])]):=by have q0:=s.c.z s.hp;have q6:=s.hl;have q7:=s.hx;have q8:=s.hg;have q9:=s.hts;obtain⟨i,i1,i2,i3,i4⟩:=b0;exact(bU (c:=⟨s.W0,s.F0⟩) 9 (kn [s.rv,s.tk,s.hd,uz (s.ops),uz (IntKind.u64.wrap (s.ops+1)),iN (s.c.q),iN (s.c.q / 2),wN (s.c.q / 2),wN (s.c.q),iz (s.gg),uz (s.gg),iN (s.ts.length),wN (s.ts.length),iN (s.c.n),iz (s.c.g),iz (s.c.m),iz (s.c.t),iz (s.c.s),iN (s.p),uz (s.w),wz (cq (s.w)),wz (IntKind.u32.wrap ((cq (s.w))-((s.c.q / 2:Nat):Int))),wz (IntKind.u32.wrap ((IntKind.u32.wrap ((cq (s.w))-((s.c.q / 2:Nat):Int)))+((s.ts.length:Nat):Int))),iN (s.c.slot s.p (IntKind.u32.wrap ((IntKind.u32.wrap ((cq (s.w))-((s.c.q / 2:Nat):Int)))+((s.ts.length:Nat):Int)))),uz (x),iz (IntKind.i64.wrap (x)),iN (s.ts.length+1)] (fc s.lrv (fc s.cx (fc s.cQ fr))) [(.quo,sy 5,iz 2,sy 6),(.sub,sy 20,sy 7,sy 21),(.add,sy 21,sy 12,sy 22),(.eql,sy 26,sy 6,.bool false)] [] [(.u32,sy 6,sy 7),(.u32,sy 11,sy 12),(.i64,sy 24,sy 25)] (fc (λ_ _ _=>dH (by decide) (hM s.c)) (fc (λ_ _ _=>bX rfl) (fc (λ_ _ _=>ax rfl) (fc (λ_ _ _=>aM (by first|(simpa using h1)|(simp;omega))) fn)))) fn (fc (bF rfl rfl (by have q2:=s.c.qb;rw[bj];omega)) (fc (bF rfl rfl (by rw[bj];omega)) (fc ⟨.u64,_,rfl,rfl⟩ fn))) s.W0 s.F0 [dM s,dM s,I9 s,(I_ s x)] [⟨[10,45],[sy 1],none,0,none,sy 11,none⟩,⟨[11,45,45],[.slice none 0 0,sy 1],none,1,some 427,.complex .f32 427 0,some 2⟩,⟨[11,45,45],[.complex .f32 427 0],some (1,1,[sy 25]),2,some 435,.complex .f32 435 0,some 3⟩,⟨[10,45],[.complex .f32 435 0],none,3,none,sy 26,none⟩] [⟨69,[sy 19],0,none,sy 20,none⟩,⟨71,[.agg #[sy 13,sy 5,sy 14,sy 15,sy 16,sy 17],sy 18,sy 22],0,none,sy 23,none⟩,⟨58,[.agg #[sy 0,sy 3],sy 23],0,none,.tuple #[.agg #[sy 0,sy 4],sy 24],some 1⟩]) (fc (by exact bT (ci:=2) rfl rfl underlying45 i2 rfl rfl) (fc (by exact m7 rfl rfl ou (.inl rfl) rfl (tT (ci:=2) rfl rfl) underlying45 underlying45 i1 i2 i3 (by rw[i2];rfl) (by rw[i4];omega) (by omega) dq) (fc (by exact oA (ci:=4) (m:=1) (cs:=[(iz (IntKind.i64.wrap (x)))]) rfl rfl rfl underlying45 underlying45 i1 i2 (by omega) i3 (by rw[i2];rfl) (by rw[i4];omega) (by omega) rfl (ak (by kernel_rfl) (by kernel_rfl))) (fc (by exact r6 (ci:=4) rfl rfl underlying45 i2 rfl) fn)))) (fc (pc (args:=[uz s.w]) rfl (λw hb=>bN (nV _ s.hw w))) (fc (pc (args:=[I3 s,iN s.p,(wz (IntKind.u32.wrap ((IntKind.u32.wrap ((cq (s.w))-((s.c.q / 2:Nat):Int)))+((s.ts.length:Nat):Int))))]) rfl (λw hb=>tZ s.c s.p s.hp (IntKind.u32.wrap ((IntKind.u32.wrap ((cq (s.w))-((s.c.q / 2:Nat):Int)))+((s.ts.length:Nat):Int))) (by first | exact(fq _).1 | exact iL _) w)) (fc (cc rfl [aD 28 1 (s.rv) (s.xs.length) (aF s.xs)] [0] [1,2] (λw F ho hn hF=>jo s.lrv s.hx s.ops hxa hn)) fn))) rfl [] [] [] 3 rfl rfl I8 (.tuple #[.agg #[sy 13,sy 5,sy 14,sy 15,sy 16,sy 17,sy 18,sy 9,iz 4,sy 19,.complex .f32 435 0,sy 2],.agg #[sy 0,sy 4]])).conv (λκ w=>⟨(λ_ h=>h),(λ_ h=>h),(λ_ h=>h),(λ_ h=>aS (a:=λv=>aD 3 1 v (s.ts.length+1) ((aO s.ts)++[(iz (IntKind.i64.wrap (x)))])) (λ_ _ _ _ _ h=>h) h),trivial⟩)
theorem WL(s:S9)(x:Int)(hxu:c7 x)(hxa:s.xs[s.c.word s.p]? = some x)(hc:x≠s.w):aK prog 60 [] 0 162 ⟨s.W0,s.F0⟩ (Jb s) (dM s) (λκ:ag=>(.tuple #[I4 s,qE s])) (λκ:ag=>(dM s)):=(bU (c:=⟨s.W0,s.F0⟩) 9 (kn [s.rv,s.tk,s.hd,uz (s.ops),uz (IntKind.u64.wrap (s.ops+1)),iN (s.c.q),iN (s.c.q / 2),wN (s.c.q / 2),wN (s.c.q),iz (s.gg),uz (s.gg),iN (s.ts.length),wN (s.ts.length),iN (s.c.n),iz (s.c.g),iz (s.c.m),iz (s.c.t),iz (s.c.s),iN (s.p),uz (s.w),wz (cq (s.w)),iN (s.c.word s.p),wz (dS (s.w)),wz (IntKind.u32.wrap ((cq (s.w))-((s.c.q / 2:Nat):Int))),uz (gF s.w (-((s.c.q / 2:Nat):Int)))] (fc s.lrv (fc s.cx (fc s.cQ fr))) [(.quo,sy 5,iz 2,sy 6),(.sub,sy 20,sy 7,sy 23)] [] [(.u32,sy 6,sy 7)] (fc (λ_ _ _=>dH (by decide) (hM s.c)) (fc (λ_ _ _=>bX rfl) fn)) fn (fc (bF rfl rfl (by have q2:=s.c.qb;rw[bj];omega)) fn) s.W0 s.F0 [dM s,dM s] [] [⟨69,[sy 19],0,none,sy 20,none⟩,⟨57,[.agg #[sy 13,sy 5,sy 14,sy 15,sy 16,sy 17],sy 18],0,none,sy 21,none⟩,⟨74,[sy 19],0,none,sy 22,none⟩,⟨73,[sy 22,sy 23],0,none,sy 24,none⟩,⟨72,[.agg #[sy 0,sy 3],sy 21,sy 19,sy 24],0,none,.tuple #[.agg #[sy 0,sy 4],.bool false],some 1⟩]) fn (fc (pc (args:=[uz s.w]) rfl (λw hb=>bN (nV _ s.hw w))) (fc (pc rfl (λw hb=>b7 s.c s.p s.hp w)) (fc (pc (args:=[uz s.w]) rfl (λw hb=>bN (Bj _ s.hw w))) (fc (pc rfl (λw hb=>I2 s.c s.hw w)) (fc (cc rfl [aD 28 1 (s.rv) (s.xs.length) (aF s.xs)] [0] [1,2] (λw F ho hn hF=>EO s.lrv s.hx s.ops hxa s.w (gF s.w (-((s.c.q / 2:Nat):Int))) hc hn)) fn))))) rfl [] [] [] 1 rfl rfl Ja (.tuple #[.agg #[sy 13,sy 5,sy 14,sy 15,sy 16,sy 17,sy 18,sy 9,iz 1,sy 19,sy 1,sy 2],.agg #[sy 0,sy 4]]))
theorem WM(s:S9)(x:Int)(hxu:c7 x)(hxa:s.xs[s.c.word s.p]? = some x)(hc:x=s.w):aK prog 60 [] 0 162 ⟨s.W0,s.F0⟩ (Jb s) (dM s) (λκ:ag=>(.tuple #[(.agg #[iN s.c.n,iN s.c.q,iz s.c.g,iz s.c.m,iz s.c.t,iz s.c.s,iN s.p,iz s.gg,iz 0,uz s.w,s.tk,dv κ 431]),(.agg #[dv κ 419,(uz (IntKind.u64.wrap (s.ops+1)))])])) (λκ:ag=>[aD 28 1 (dv κ 419) s.xs.length (aF (s.xs.set (s.c.word s.p) (gF s.w (-((s.c.q / 2:Nat):Int))))),kx s,ky s,aD 3 1 (dv κ 431) (s.ts.length+1) ((aO s.ts)++[iz s.gg])]):=by have q0:=s.c.z s.hp;have q7:=s.hx;have q9:=s.hts;obtain⟨i,i1,i2,i3,i4⟩:=b0;exact(bU (c:=⟨s.W0,s.F0⟩) 9 (kn [s.rv,s.tk,s.hd,uz (s.ops),uz (IntKind.u64.wrap (s.ops+1)),iN (s.c.q),iN (s.c.q / 2),wN (s.c.q / 2),wN (s.c.q),iz (s.gg),uz (s.gg),iN (s.ts.length),wN (s.ts.length),iN (s.c.n),iz (s.c.g),iz (s.c.m),iz (s.c.t),iz (s.c.s),iN (s.p),uz (s.w),wz (cq (s.w)),iN (s.c.word s.p),wz (dS (s.w)),wz (IntKind.u32.wrap ((cq (s.w))-((s.c.q / 2:Nat):Int))),uz (gF s.w (-((s.c.q / 2:Nat):Int)))] (fc s.lrv (fc s.cx (fc s.cQ fr))) [(.quo,sy 5,iz 2,sy 6),(.sub,sy 20,sy 7,sy 23)] [] [(.u32,sy 6,sy 7)] (fc (λ_ _ _=>dH (by decide) (hM s.c)) (fc (λ_ _ _=>bX rfl) fn)) fn (fc (bF rfl rfl (by have q2:=s.c.qb;rw[bj];omega)) fn) s.W0 s.F0 [dM s,[C4 s,kx s,ky s],[C4 s,kx s,ky s,bP 423 (λv=>aD 3 1 v (s.ts.length) (aO s.ts))],[C4 s,kx s,ky s,bP 431 (λv=>aD 3 1 v (s.ts.length+1) ((aO s.ts)++[iz s.gg]))]] [⟨[11,45,45],[.slice none 0 0,sy 1],none,1,some 423,.complex .f32 423 0,some 2⟩,⟨[11,45,45],[.complex .f32 423 0],some (1,1,[sy 9]),2,some 431,.complex .f32 431 0,some 3⟩] [⟨69,[sy 19],0,none,sy 20,none⟩,⟨57,[.agg #[sy 13,sy 5,sy 14,sy 15,sy 16,sy 17],sy 18],0,none,sy 21,none⟩,⟨74,[sy 19],0,none,sy 22,none⟩,⟨73,[sy 22,sy 23],0,none,sy 24,none⟩,⟨72,[.agg #[sy 0,sy 3],sy 21,sy 19,sy 24],0,some 419,.tuple #[.agg #[.complex .f32 419 0,sy 4],.bool true],some 1⟩]) (fc (by have q6:=s.hl;have q8:=s.hg;exact m7 rfl rfl ou (.inl rfl) rfl (tT (ci:=2) rfl rfl) underlying45 underlying45 i1 i2 i3 (by rw[i2];rfl) (by rw[i4];omega) (by omega) dq) (fc (by have q6:=s.hl;have q8:=s.hg;exact oA (ci:=4) (m:=1) (cs:=[iz s.gg]) rfl rfl rfl underlying45 underlying45 i1 i2 (by omega) i3 (by rw[i2];rfl) (by rw[i4];omega) (by omega) rfl (ak (by kernel_rfl) (by kernel_rfl))) fn)) (fc (pc (args:=[uz s.w]) rfl (λw hb=>bN (nV _ s.hw w))) (fc (pc rfl (λw hb=>b7 s.c s.p s.hp w)) (fc (pc (args:=[uz s.w]) rfl (λw hb=>bN (Bj _ s.hw w))) (fc (pc rfl (λw hb=>I2 s.c s.hw w)) (fc (cd rfl [λv=>aD 28 1 v s.xs.length (aF (s.xs.set (s.c.word s.p) (gF s.w (-((s.c.q / 2:Nat):Int)))))] [0] [1,2] (λw F ho hn hF=>Bp s.lrv s.hx s.ops hxa s.w (gF s.w (-((s.c.q / 2:Nat):Int))) hc hn)) fn))))) rfl [] [] [] 3 rfl rfl Ja (.tuple #[.agg #[sy 13,sy 5,sy 14,sy 15,sy 16,sy 17,sy 18,sy 9,iz 0,sy 19,sy 1,.complex .f32 431 0],.agg #[.complex .f32 419 0,sy 4]])).conv (λκ w=>⟨(λ_ h=>aS (a:=λv=>aD 28 1 v s.xs.length (aF (s.xs.set (s.c.word s.p) (gF s.w (-((s.c.q / 2:Nat):Int)))))) (λ_ _ _ _ _ h=>h) h),(λ_ h=>h),(λ_ h=>h),(λ_ h=>aS (a:=λv=>aD 3 1 v (s.ts.length+1) ((aO s.ts)++[iz s.gg])) (λ_ _ _ _ _ h=>h) h),trivial⟩)
end Go.Proofs.YtbcnbofkgkheeaaGreat
namespace Go.Proofs.YtbcnbofkgkheeaaGreat
open Go.Ev Go.Proofs.Tryz
open Go.RowKit Go.Lib
open Go.Ev (sy)
theorem Bs{l:List aC}{e:TypeId}{v':Value}{n:Nat}{xs:List Value}{F:Nat->Prop}{w w':World}(h:bI l F w)(ho:w'.ownsRow w.heap.size e 1 v' n xs)(hb:Below w.heap.size w w'):∃ v2 cd,Ev.dec cd=v2/\Ending.returned v'=.returned v2/\ah ⟨w,F⟩ (aD e 1 v2 n xs::l) w':=by
 obtain⟨hl,ho⟩:=ho;have key:∃ Fn,fh e 1 v' n xs Fn w'/\∀ j,Fn j->w.heap.size<=j:=by
  rcases ho with ⟨rfl,rfl⟩ | ⟨g,cap,cur,rfl,hg,hh,h1,h2,h3,h4⟩
  ·have:xs=[]:=List.eq_nil_of_length_eq_zero (by rw[hl])
   subst this;exact⟨λ_=>False,fh.nil e 1 w',λ_ h=>h.elim⟩
  ·refine⟨λj=>j=g,⟨hl,.inr ⟨g,0,cap,cur,rfl,λ_=>Iff.rfl,hh,λi hi=>?_,by rw[h3];omega,h1⟩⟩,λj hj=>by rw[hj];exact hg⟩
   rw[← h4,Nat.zero_add,List.getElem?_take_of_lt hi];simp
 obtain⟨Fn,k1,k2⟩:=key;obtain⟨cd,hcd⟩:=k1.code;have hk:bI l F w':=f6 h (λj hj=>hb.block j (h.lt j hj)) hb.size;refine⟨v',cd,hcd,rfl,⟨⟨_,cb (a:=aD e 1 v' n xs) k1 hk (λj hj=>fh.lt k1 j hj) (λj hj hf=>?_),⟨hb.os,hb.tape,hb.output,hb.size,λj hj _=>hb.block j hj⟩,λj hj=>?_⟩⟩⟩
 ·have:=h.lt j hf
  have:=k2 j hj;omega
 ·exact hj.elim (λh=>.inr (k2 j h)) .inl
set_option maxHeartbeats 2000000 in
set_option maxRecDepth 100000 in
theorem x8(ad:Addr)(n c:Nat)(xs:List Value)(w:World)(hl:xs.length=n)(hn:n<=1000000)(hone:∀ u ∈ xs,u.oneCell'=true)(hc:∀ (j:Nat) u,xs[j]? = some u->w.cell? (ad.add j)=some u) :
  Calls prog 68 #[.slice (some ad) n c] w λe w'=>∃ v',e=.returned v'/\w'.ownsRow w.heap.size 3 1 v' n xs/\Below w.heap.size w w':=by
 have mixed:=cR;obtain⟨i0,hi,hz1,hz0,hz2⟩:=b0;have q22:∀ (w:World) (a:Option Addr) (n c n' c':Nat),(binOp .eql 45 (.slice a n c) (.slice none n' c')).run prog w=.ok (.bool a.isNone) w:=λw a n c n' c'=>Lib.run_eql_slice_nil w _ _ a n c n' c' underlying45
 have A:Aside (∀ (j:Nat) u,xs[j]? = some u->w.cell? (ad.add j)=some u):=hc;clear hc
 go_enter func68,ntmps68
 go_wp2_with (at_builtin;refine wpList_append_own _ rfl _ _ 45 rfl w.heap.size 3 i0 (.int .i64 0) 1 8 underlying45 hi hz0 hz1 hz2 rfl (by decide) _ _ _ rfl (World.ownsRow_made w #[] 0 (Nat.le_refl _) (Nat.zero_le _) rfl) ad n c xs rfl ?qc1 ?qc2 ?qc3 ?qc4 ?qc5 ?qc6 ?_)
 case qc1=>simp;omega
 case qc2 =>
  intro j u hj;refine Lib.cell?_alloc_some _ ?_;exact A.out j u hj
 case qc3=>exact hone
 case qc4=>unfold maxLen;omega
 case qc5=>omega
 case qc6=>simp
 intro v' w1 hown hgrow hnil
 go_wp2
 go_ret
 refine⟨v',rfl,by simpa using hown,?_⟩;exact((Below.refl _ w).alloc (Nat.le_refl _) _).grown hgrow (by simp) (by intro k hk;simp[Value.ownBlock]at hk;omega)
set_option maxHeartbeats 1000000 in
theorem vw(n c:Nat)(w:World) :
  Calls prog 68 #[.slice none n c] w λe w'=>e=.returned (.slice none 0 0)/\w'=w:=by
 have mixed:=cR;have q22:∀ (w:World) (a:Option Addr) (n c n' c':Nat),(binOp .eql 45 (.slice a n c) (.slice none n' c')).run prog w=.ok (.bool a.isNone) w:=λw a n c n' c'=>Lib.run_eql_slice_nil w _ _ a n c n' c' underlying45
 go_enter func68,ntmps68
 go_wp2
 go_ret
 exact⟨rfl,rfl⟩
theorem wh{v:Value}{n:Nat}{xs:List Value}{F:Nat->Prop}{w:World}(hn:n<=1000000)(hone:∀ u ∈ xs,u.oneCell'=true)(h:bI [aD 3 1 v n xs] F w) :
  Calls prog 68 #[v] w λe w'=>∃ v' cd,Ev.dec cd=v'/\e=.returned v'/\ah ⟨w,F⟩ [aD 3 1 v' n xs,aD 3 1 v n xs] w':=by
 obtain⟨Fa,h1,h2⟩:=jL h;obtain⟨hl,hr⟩:=fh.ro h1;rw[Nat.mul_one]at hl;have kz:∀ ad c,v=.slice (some ad) n c->(∀ (j:Nat) u,xs[j]? = some u->w.cell? (ad.add j)=some u)->Calls prog 68 #[v] w λe w'=>∃ v' cd,Ev.dec cd=v'/\e=.returned v'/\ah ⟨w,F⟩ [aD 3 1 v' n xs,aD 3 1 v n xs] w':=by
  rintro ad c rfl hc;refine(x8 ad n c xs w hl hn hone hc).mono ?_;rintro e w' ⟨v',rfl,ho,hb⟩;exact Bs h ho hb
 rcases hr with ⟨rfl,a,c,rfl⟩ | ⟨b,off,c,rfl,_,hx⟩
 ·cases a with
  | some a=>exact kz a c rfl (λj u hj=>by rw[List.eq_nil_of_length_eq_zero hl]at hj;simp at hj)
  | none =>
   refine(vw 0 c w).mono ?_;rintro e w' ⟨rfl,rfl⟩;have hx0:xs=[]:=List.eq_nil_of_length_eq_zero hl;subst hx0;exact⟨_,_,(fh.nil 3 1 w').code.choose_spec,rfl,(ah.start h).cJ⟩
 ·refine kz ⟨b,off,none⟩ c rfl (λj u hj=>?_)
  have hj':=(List.getElem?_eq_some_iff.1 hj).1;rw[iF,hx j (by omega),hj]
set_option maxHeartbeats 2000000 in
set_option maxRecDepth 100000 in
theorem x9(ad:Addr)(n c:Nat)(xs:List Value)(w:World)(hl:xs.length=n)(hn:n<=1000000)(hone:∀ u ∈ xs,u.oneCell'=true)(hc:∀ (j:Nat) u,xs[j]? = some u->w.cell? (ad.add j)=some u) :
  Calls prog 64 #[.slice (some ad) n c] w λe w'=>∃ v',e=.returned v'/\w'.ownsRow w.heap.size 28 1 v' n xs/\Below w.heap.size w w':=by
 have mixed:=cR;obtain⟨i0,hi,hz1,hz0,hz2⟩:=cK;have q22:∀ (w:World) (a:Option Addr) (n c n' c':Nat),(binOp .eql 56 (.slice a n c) (.slice none n' c')).run prog w=.ok (.bool a.isNone) w:=λw a n c n' c'=>Lib.run_eql_slice_nil w _ _ a n c n' c' underlying56
 have A:Aside (∀ (j:Nat) u,xs[j]? = some u->w.cell? (ad.add j)=some u):=hc;clear hc
 go_enter func64,ntmps64
 go_wp2_with (at_builtin;refine wpList_append_own _ rfl _ _ 56 rfl w.heap.size 28 i0 (.int .u64 0) 1 8 underlying56 hi hz0 hz1 hz2 rfl (by decide) _ _ _ rfl (World.ownsRow_made w #[] 0 (Nat.le_refl _) (Nat.zero_le _) rfl) ad n c xs rfl ?qc1 ?qc2 ?qc3 ?qc4 ?qc5 ?qc6 ?_)
 case qc1=>simp;omega
 case qc2 =>
  intro j u hj;refine Lib.cell?_alloc_some _ ?_;exact A.out j u hj
 case qc3=>exact hone
 case qc4=>unfold maxLen;omega
 case qc5=>omega
 case qc6=>simp
 intro v' w1 hown hgrow hnil
 go_wp2
 go_ret
 refine⟨v',rfl,by simpa using hown,?_⟩;exact((Below.refl _ w).alloc (Nat.le_refl _) _).grown hgrow (by simp) (by intro k hk;simp[Value.ownBlock]at hk;omega)
set_option maxHeartbeats 1000000 in
theorem vy(n c:Nat)(w:World) :
  Calls prog 64 #[.slice none n c] w λe w'=>e=.returned (.slice none 0 0)/\w'=w:=by
 have mixed:=cR;have q22:∀ (w:World) (a:Option Addr) (n c n' c':Nat),(binOp .eql 56 (.slice a n c) (.slice none n' c')).run prog w=.ok (.bool a.isNone) w:=λw a n c n' c'=>Lib.run_eql_slice_nil w _ _ a n c n' c' underlying56
 go_enter func64,ntmps64
 go_wp2
 go_ret
 exact⟨rfl,rfl⟩
theorem Gw{v:Value}{n:Nat}{xs:List Value}{F:Nat->Prop}{w:World}(hn:n<=1000000)(hone:∀ u ∈ xs,u.oneCell'=true)(h:bI [aD 28 1 v n xs] F w) :
  Calls prog 64 #[v] w λe w'=>∃ v' cd,Ev.dec cd=v'/\e=.returned v'/\ah ⟨w,F⟩ [aD 28 1 v' n xs,aD 28 1 v n xs] w':=by
 obtain⟨Fa,h1,h2⟩:=jL h;obtain⟨hl,hr⟩:=fh.ro h1;rw[Nat.mul_one]at hl;have kz:∀ ad c,v=.slice (some ad) n c->(∀ (j:Nat) u,xs[j]? = some u->w.cell? (ad.add j)=some u)->Calls prog 64 #[v] w λe w'=>∃ v' cd,Ev.dec cd=v'/\e=.returned v'/\ah ⟨w,F⟩ [aD 28 1 v' n xs,aD 28 1 v n xs] w':=by
  rintro ad c rfl hc;refine(x9 ad n c xs w hl hn hone hc).mono ?_;rintro e w' ⟨v',rfl,ho,hb⟩;exact Bs h ho hb
 rcases hr with ⟨rfl,a,c,rfl⟩ | ⟨b,off,c,rfl,_,hx⟩
 ·cases a with
  | some a=>exact kz a c rfl (λj u hj=>by rw[List.eq_nil_of_length_eq_zero hl]at hj;simp at hj)
  | none =>
   refine(vy 0 c w).mono ?_;rintro e w' ⟨rfl,rfl⟩;have hx0:xs=[]:=List.eq_nil_of_length_eq_zero hl;subst hx0;exact⟨_,_,(fh.nil 28 1 w').code.choose_spec,rfl,(ah.start h).cJ⟩
 ·refine kz ⟨b,off,none⟩ c rfl (λj u hj=>?_)
  have hj':=(List.getElem?_eq_some_iff.1 hj).1;rw[iF,hx j (by omega),hj]
end Go.Proofs.YtbcnbofkgkheeaaGreat
namespace Go.Proofs.YtbcnbofkgkheeaaGreat
open Go.Ev Go.Proofs.Tryz
open Go.RowKit
open Go.Ev (sy iz uz wz iN uN wN pz dv fc fn ak vk vd kn pc cc cr cm cd fr)
set_option maxRecDepth 8000
attribute [local irreducible] dL
theorem WN(W0:World)(F0:Nat->Prop)(n:Nat)(hn:n<=65536):aK prog 27 [] 0 9 ⟨W0,F0⟩ [(0,iN n)] [] (λκ:ag=>(pz ((κ 404).getD 0))) (λκ:ag=>[aH ((κ 404).getD 0) [.int .u64 0,.int .u64 0,.int .u64 0,.int .u64 0,.int .u64 0,.int .u64 0,.slice none 0 0,dv κ 403] 105,aD 28 1 (dv κ 403) (n) (List.replicate (n) (.int .u64 0))]):=(bU (c:=⟨W0,F0⟩) 3 (kn [iN (n)] fr [] [] [] fn fn fn W0 F0 [[],[bP 403 (λv=>aD 28 1 v (n) (List.replicate (n) (.int .u64 0)))]] [⟨[16,3,3],[sy 0,iz 65536],none,0,none,sy 0,none⟩,⟨[17,3,3],[iz 0,sy 0],none,0,none,sy 0,none⟩,⟨[19,56],[sy 0,sy 0],none,0,some 403,.complex .f32 403 0,some 1⟩] []) (fc (rY (kd:=.i64) (a:=(n:Int)) (b:=65536) (cI rfl) dR (by show Value.int .i64 (n:Int)=_;rw[show min (n:Int) 65536=n by omega])) (fc (Er (kd:=.i64) (a:=0) (b:=(n:Int)) dR (cI rfl) (by show Value.int .i64 (n:Int)=_;rw[show max 0 (n:Int)=n by omega])) (fc (by obtain⟨i,i1,i2,i3,i4⟩:=cK;exact py rfl rfl (cI rfl) (cI rfl) underlying56 i1 i2 i3 rfl (by rw[i4];omega) (by unfold maxLen;omega)) fn))) fn rfl [] [] [(404,[.int .u64 0,.int .u64 0,.int .u64 0,.int .u64 0,.int .u64 0,.int .u64 0,.slice none 0 0,.complex .f32 403 0],105)] 1 rfl rfl [(0,sy 0)] (.pointer (some ⟨404,0,none⟩))).conv (λκ w=>⟨(λ_ h=>h),(λ_ h=>aS (a:=λv=>aD 28 1 v (n) (List.replicate (n) (.int .u64 0))) (λ_ _ _ _ _ h=>h) h),trivial⟩)
theorem WO(W0:World)(F0:Nat->Prop)(n:Nat)(hn:n<=65536):aK prog 43 [] 0 8 ⟨W0,F0⟩ [(0,iN n)] [] (λκ:ag=>(.agg #[dv κ 407,.int .u64 0])) (λκ:ag=>[aD 28 1 (dv κ 407) (n) (List.replicate (n) (.int .u64 0))]):=(bU (c:=⟨W0,F0⟩) 3 (kn [iN (n)] fr [] [] [] fn fn fn W0 F0 [[],[bP 407 (λv=>aD 28 1 v (n) (List.replicate (n) (.int .u64 0)))]] [⟨[16,3,3],[sy 0,iz 65536],none,0,none,sy 0,none⟩,⟨[17,3,3],[iz 0,sy 0],none,0,none,sy 0,none⟩,⟨[19,56],[sy 0,sy 0],none,0,some 407,.complex .f32 407 0,some 1⟩] []) (fc (rY (kd:=.i64) (a:=(n:Int)) (b:=65536) (cI rfl) dR (by show Value.int .i64 (n:Int)=_;rw[show min (n:Int) 65536=n by omega])) (fc (Er (kd:=.i64) (a:=0) (b:=(n:Int)) dR (cI rfl) (by show Value.int .i64 (n:Int)=_;rw[show max 0 (n:Int)=n by omega])) (fc (by obtain⟨i,i1,i2,i3,i4⟩:=cK;exact py rfl rfl (cI rfl) (cI rfl) underlying56 i1 i2 i3 rfl (by rw[i4];omega) (by unfold maxLen;omega)) fn))) fn rfl [] [] [] 1 rfl rfl [(0,sy 0)] (.agg #[.complex .f32 407 0,.int .u64 0])).conv (λκ w=>⟨(λ_ h=>aS (a:=λv=>aD 28 1 v (n) (List.replicate (n) (.int .u64 0))) (λ_ _ _ _ _ h=>h) h),trivial⟩)
theorem Us(W0:World)(F0:Nat->Prop)(bm:Nat)(ops c1 c2 c3 c4 c5:Int)(lg cl:Value)(ll:ai lg=true)(lc:ai cl=true)(xs:List Int)(hx:xs.length<=1000000)(n:Nat)(xl:List Value):aK prog 49 [] 0 10 ⟨W0,F0⟩ [(0,pz bm)] [aH bm [uz ops,uz c1,uz c2,uz c3,uz c4,uz c5,lg,cl] 105,aD 28 1 (cl) (xs.length) (aF xs),aD 119 4 (lg) (n) (xl)] (λκ:ag=>(dv κ 403)) (λκ:ag=>[aH bm [uz ops,uz c1,uz c2,uz c3,uz c4,uz c5,lg,cl] 105,aD 28 1 (dv κ 403) xs.length (aF xs),aD 28 1 (cl) (xs.length) (aF xs),aD 119 4 (lg) (n) (xl)]):=(bU (c:=⟨W0,F0⟩) 5 (kn [lg,cl,uz (ops),uz (c1),uz (c2),uz (c3),uz (c4),uz (c5)] (fc (by assumption) (fc (by assumption) fr)) [] [] [] fn fn fn W0 F0 [[aD 28 1 (cl) (xs.length) (aF xs),aD 119 4 (lg) (n) (xl)],[bP 403 (λv=>aD 28 1 v xs.length (aF xs)),bP 403 (λv=>aD 28 1 (cl) (xs.length) (aF xs)),aD 119 4 (lg) (n) (xl)]] [] [⟨64,[sy 1],0,some 403,.complex .f32 403 0,some 1⟩]) fn (fc (cd rfl [λv=>aD 28 1 v xs.length (aF xs),λv=>aD 28 1 (cl) (xs.length) (aF xs)] [0] [1] (λw F ho hn hF=>Gw hx dq hn)) fn) rfl [(4,bm)] [(4,[sy 2,sy 3,sy 4,sy 5,sy 6,sy 7,sy 0,sy 1],105)] [(4,[sy 2,sy 3,sy 4,sy 5,sy 6,sy 7,sy 0,sy 1],105)] 1 rfl rfl [(0,.pointer (some ⟨4,0,none⟩))] (.complex .f32 403 0)).conv (λκ w=>⟨(λ_ h=>h),(λ_ h=>aS (a:=λv=>aD 28 1 v xs.length (aF xs)) (λ_ _ _ _ _ h=>h) h),(λ_ h=>aS (a:=λv=>aD 28 1 (cl) (xs.length) (aF xs)) (λ_ _ _ _ _ h=>h) h),(λ_ h=>h),trivial⟩)
end Go.Proofs.YtbcnbofkgkheeaaGreat
namespace Go.Proofs.YtbcnbofkgkheeaaGreat
open Go.Ev Go.Proofs.Tryz
open Go.RowKit
open Go.Ev (sy)
set_option maxRecDepth 8000
def nG(v:Value)(m:aG):aC where
 p:=λ_ F w=>∃ bm,v=.pointer (some ⟨bm,0,none⟩)/\jj bm m F w
 keep:=λ_ F w w' hk ⟨bm,e,h⟩=>⟨bm,e,tK h hk⟩
 mono:=λ_ _ _ _ _ h=>h
theorem m8{v:Value}{m:aG}{c:fQ}{l:List aC}{w:World}(h:ah c (nG v m::l) w):∃ bm,v=.pointer (some ⟨bm,0,none⟩)/\ah c (aj bm m::l) w :=
 h.Ix (b:=λbm=>aj bm m) (p:=λbm=>v=.pointer (some ⟨bm,0,none⟩)) (λF ⟨bm,e,h⟩=>⟨bm,e,h⟩)
theorem wj{bm:Nat}{m:aG}{c:fQ}{l:List aC}{w:World}(h:ah c (aj bm m::l) w):ah c (nG (.pointer (some ⟨bm,0,none⟩)) m::l) w :=
 h.head (λF h=>⟨bm,rfl,h⟩)
theorem t8(n:Nat):aF (List.replicate n 0)=List.replicate n (.int .u64 0):=by simp[aF]
section
variable{F:Nat->Prop}{w:World}
theorem Jc{n:Nat}(hn:n<=65536)(h:bI [] F w) :
  Calls prog 27 #[.int .i64 (n:Int)] w λe w'=>∃ v cd,Ev.dec cd=v/\e=.returned v/\ah ⟨w,F⟩ [nG v ⟨List.replicate n 0,0⟩] w':=by
 refine aB (WN w F n hn) (by kernel_rfl) h (by simp) (by simp) (λκ w1 h1=>⟨_,_,gJ _ _,rfl,?_⟩);refine wj (Bh (0,0,0,0,0,.slice none 0 0,Ev.dec ((κ 403).getD 0),0,[]) (Nat.zero_le _) ?_);have h2:=h1.cJ (e := 119) (sz:=4);rw[← t8]at h2;have h3:=h2.sel [1,2,0];have e:(List.replicate n (0:Int)).length=n:=by simp
 simp only[P8,e];exact h3
theorem Nm{n:Nat}(hn:n<=65536)(h:bI [] F w) :
  Calls prog 43 #[.int .i64 (n:Int)] w λe w'=>∃ v cd,Ev.dec cd=v/\e=.returned (.agg #[v,.int .u64 0])/\ah ⟨w,F⟩ [aD 28 1 v n (aF (List.replicate n 0))] w':=by
 refine aB (WO w F n hn) (by kernel_rfl) h (by simp) (by simp) (λκ w1 h1=>⟨_,_,rfl,rfl,?_⟩);rw[t8];exact h1
theorem Jd{bm:Nat}{ops:Int}(w:World)(h:w.cell? ⟨bm,0,none⟩=some (.int .u64 ops)) :
  Calls prog 28 #[.pointer (some ⟨bm,0,none⟩)] w λe w'=>e=.returned (.int .u64 ops)/\w=w':=by
 go_enter func28,ntmps28
 go_wp2
 go_ret
 exact⟨rfl,rfl⟩
theorem Je{bm n c:Nat}{a:Option Addr}(w:World)(h:w.cell? ⟨bm,7,none⟩=some (.slice a n c)) :
  Calls prog 55 #[.pointer (some ⟨bm,0,none⟩)] w λe w'=>e=.returned (.int .i64 (n:Int))/\w=w':=by
 go_enter func55,ntmps55
 go_wp2
 go_ret
 exact⟨rfl,rfl⟩
theorem cT{bm:Nat}{m:aG}(h:bI [aj bm m] F w) :
  Calls prog 28 #[.pointer (some ⟨bm,0,none⟩)] w λe w'=>e=.returned (.int .u64 m.ops)/\Below w.heap.size w w':=by
 obtain⟨Fa,⟨c1,c2,c3,c4,c5,lg,cl,n,G,hn,hb,h3,h4,h5⟩,h2⟩:=jL h;refine(Jd w (ops:=m.ops) (by simp[World.cell?,hb])).mono ?_;rintro e w' ⟨rfl,rfl⟩;exact⟨rfl,Below.refl _ _⟩
theorem Jf{bm:Nat}{m:aG}(h:bI [aj bm m] F w) :
  Calls prog 55 #[.pointer (some ⟨bm,0,none⟩)] w λe w'=>e=.returned (.int .i64 (m.cells.length:Int))/\Below w.heap.size w w':=by
 obtain⟨Fa,⟨c1,c2,c3,c4,c5,lg,cl,n,G,hn,hb,⟨v,xl,Fl,Fc,e1,e2,e3,e4,e5⟩,h4,h5⟩,h2⟩:=jL h;have hcl:∃ a c,cl=.slice a m.cells.length c:=by
  obtain⟨q1,⟨q2,q3,q4⟩ | ⟨b,off,c,arr,q2,_⟩⟩:=e3
  ·obtain⟨a,rfl⟩:=q2.base
   exact⟨a,0,by rw[q3]⟩
  ·exact⟨_,c,q2⟩
 obtain⟨a,c,rfl⟩:=hcl;refine(Je w (bm:=bm) (a:=a) (n:=m.cells.length) (c:=c) (by simp[World.cell?,hb])).mono ?_;rintro e w' ⟨rfl,rfl⟩;exact⟨rfl,Below.refl _ _⟩
theorem Bt{bm:Nat}{m:aG}(hx:m.cells.length<=1000000)(h:bI [aj bm m] F w) :
  Calls prog 49 #[.pointer (some ⟨bm,0,none⟩)] w λe w'=>∃ v cd,Ev.dec cd=v/\e=.returned v/\ah ⟨w,F⟩ [aD 28 1 v m.cells.length (aF m.cells),aj bm m] w':=by
 obtain⟨⟨c1,c2,c3,c4,c5,lg,cl,n,xl⟩,hn,l1,l2,hh⟩:=IG (ah.start h);obtain⟨F',n1,n2,n3⟩:=hh.ex;refine aB (Us w F' bm m.ops c1 c2 c3 c4 c5 lg cl l1 l2 m.cells hx n xl) (by kernel_rfl) n1 (by simp) (by simp) (λκ w1 h1=>⟨_,_,rfl,rfl,?_⟩);exact(Bh (l:=[_]) (c1,c2,c3,c4,c5,lg,cl,n,xl) hn ((h1.into (l:=[]) n2 n3).sel [0,2,3,1])).sel [1,0]
end
end Go.Proofs.YtbcnbofkgkheeaaGreat
