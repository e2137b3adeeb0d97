/- Part of a proof: see the last text. -/
import Derived.Test.YtkmccgombmogmaaGreatZf17
import Derived.WalkKit
import Derived.WalkSpells
import Derived.OwnWalkIn
import Derived.TacticsInMore
import Derived.LoopNIn
import Derived.LoopIn
set_option linter.unusedSimpArgs false
set_option linter.unusedVariables false
namespace Go.Proofs.YtkmccgombmogmaaGreat
open Go.Ev Go.Proofs.Tryz
open Go.RowKit
open Go.Ev (sy iz uz wz iN uN wN pz dv fc fn ak vk vd kn pc cc cr cm cd fr)
set_option maxRecDepth 8000
attribute [local irreducible] kA
structure GP where
 W0:World
 F0:Nat->Prop
 c:aU
 p:Nat
 hp:p<c.n
 w:Int
 hw:fv w
 sn:Int
 tr:Int
 bp:Nat
 bm:Nat
 m:bO
 hl:m.cells.length=4+c.off c.n
abbrev G7:List iA:=[(4,[sy 6,sy 0,sy 7,sy 8,sy 9,sy 10,sy 11,iz 1,sy 12,sy 13,.bool false,sy 4],150)]
abbrev LE:List iA:=[(4,[sy 6,sy 0,sy 7,sy 8,sy 9,sy 10,sy 11,iz 0,sy 16,sy 13,.bool false,sy 4],150)]
abbrev uC:List (Nat×Value):=[(0,.pointer (some ⟨4,0,none⟩)),(1,sy 14)]
abbrev uD(s:GP):List (Nat×Value):=[(0,pz s.bp),(1,pz s.bm)]
abbrev G8(s:GP):List aF:=[aE s.bp [iN s.c.n,iN s.c.q,iz s.c.g,iz s.c.m,iz s.c.t,iz s.c.s,iN s.p,iz 1,uz s.w,iz s.sn,.bool false,iz s.tr] 150,aN s.bm s.m]
abbrev LG(s:GP)(x:Int):List aF:=[aE s.bp [iN s.c.n,iN s.c.q,iz s.c.g,iz s.c.m,iz s.c.t,iz s.c.s,iN s.p,iz 0,uz x,iz s.sn,.bool false,iz s.tr] 150,aN s.bm s.m.tick]
abbrev G9:List iA:=[(4,[sy 6,sy 0,sy 7,sy 8,sy 9,sy 10,sy 11,iz 3,sy 12,sy 13,.bool false,sy 4],150)]
abbrev G_(s:GP):List aF:=[aE s.bp [iN s.c.n,iN s.c.q,iz s.c.g,iz s.c.m,iz s.c.t,iz s.c.s,iN s.p,iz 3,uz s.w,iz s.sn,.bool false,iz s.tr] 150,aN s.bm s.m]
abbrev wJ:List iA:=[(4,[sy 0,sy 1,sy 2,sy 3,sy 4,sy 5,sy 6,sy 7,sy 8,sy 9,.bool false,sy 10],150)]
abbrev wK:List (Nat×Value):=[(0,.pointer (some ⟨4,0,none⟩))]
abbrev wL(c:aU)(p:Nat)(bp:Nat)(st:Nat)(ww:Int)(sn:Int)(tr:Int):List aF:=[aE bp [iN c.n,iN c.q,iz c.g,iz c.m,iz c.t,iz c.s,iN p,iN st,uz ww,iz sn,.bool false,iz tr] 150]
abbrev AV:List iA:=[(4,[sy 0,sy 1,sy 2,sy 3,sy 4,sy 5,sy 6,sy 7,sy 8,sy 9,.bool true,sy 10],150)]
abbrev AW(c:aU)(p:Nat)(bp:Nat)(st:Nat)(ww:Int)(sn:Int)(tr:Int):List aF:=[aE bp [iN c.n,iN c.q,iz c.g,iz c.m,iz c.t,iz c.s,iN p,iN st,uz ww,iz sn,.bool true,iz tr] 150]
theorem S0(s:GP)(x:Int)(hxu:fv x)(hxa:s.m.cells[s.c.word s.p]? = some x)(h1:(aW (x))=0):cw prog 161 [] 0 26 ⟨s.W0,s.F0⟩ (uD s) (G8 s) (λκ:am=>(.bool true)) (λκ:am=>(LG s x)):=by have q0:=s.c.z s.hp;have q6:=s.hl;exact(eP (c:=⟨s.W0,s.F0⟩) 7 (kn [iN (s.c.q),iN (s.c.q / 2),wN (s.c.q / 2),wN (s.c.q),iz (s.tr),iz (IntKind.i64.wrap (s.tr+1)),iN (s.c.n),iz (s.c.g),iz (s.c.m),iz (s.c.t),iz (s.c.s),iN (s.p),uz (s.w),iz (s.sn),pz s.bm,iN (s.c.word s.p),uz (x),wz (aW (x))] fr [(.eql,sy 17,.int .u32 0,.bool true)] [] [] (fc (λ_ _ _=>cZ (by first|(simpa using h1)|(simp;omega))) fn) fn fn s.W0 s.F0 [[aN s.bm s.m],[aN s.bm s.m.tick]] [] [⟨40,[.agg #[sy 6,sy 0,sy 7,sy 8,sy 9,sy 10],sy 11],0,none,sy 15,none⟩,⟨150,[sy 14,sy 15],0,none,sy 16,some 1⟩,⟨42,[sy 16],1,none,sy 17,none⟩]) fn (fc (pc rfl (λw hb=>cM s.c s.p s.hp w)) (fc (cc rfl [aN s.bm s.m.tick] [0] [] (λw F ho hn hF=>dk hn hxa (fK hxa (by omega)))) (fc (pc (args:=[uz x]) rfl (λw hb=>ag (cG _ hxu w))) fn))) rfl [(4,s.bp)] G7 LE 1 rfl rfl uC (.bool true))
theorem S1(s:GP)(x:Int)(hxu:fv x)(hxa:s.m.cells[s.c.word s.p]? = some x)(h1:¬ (aW (x))=0)(h2:(aW (x))>((s.c.q:Nat):Int)):cw prog 161 [] 0 26 ⟨s.W0,s.F0⟩ (uD s) (G8 s) (λκ:am=>(.bool true)) (λκ:am=>(LG s x)):=by have q0:=s.c.z s.hp;have q6:=s.hl;exact(eP (c:=⟨s.W0,s.F0⟩) 7 (kn [iN (s.c.q),iN (s.c.q / 2),wN (s.c.q / 2),wN (s.c.q),iz (s.tr),iz (IntKind.i64.wrap (s.tr+1)),iN (s.c.n),iz (s.c.g),iz (s.c.m),iz (s.c.t),iz (s.c.s),iN (s.p),uz (s.w),iz (s.sn),pz s.bm,iN (s.c.word s.p),uz (x),wz (aW (x))] fr [(.eql,sy 17,.int .u32 0,.bool false),(.gtr,sy 17,sy 3,.bool true)] [] [(.u32,sy 0,sy 3)] (fc (λ_ _ _=>cZ (by first|(simpa using h1)|(simp;omega))) (fc (λ_ _ _=>ip (by first|(simpa using h2)|(simp;omega))) fn)) fn (fc (cF rfl rfl (by have q2:=s.c.qb;rw[cy];omega)) fn) s.W0 s.F0 [[aN s.bm s.m],[aN s.bm s.m.tick]] [] [⟨40,[.agg #[sy 6,sy 0,sy 7,sy 8,sy 9,sy 10],sy 11],0,none,sy 15,none⟩,⟨150,[sy 14,sy 15],0,none,sy 16,some 1⟩,⟨42,[sy 16],1,none,sy 17,none⟩]) fn (fc (pc rfl (λw hb=>cM s.c s.p s.hp w)) (fc (cc rfl [aN s.bm s.m.tick] [0] [] (λw F ho hn hF=>dk hn hxa (fK hxa (by omega)))) (fc (pc (args:=[uz x]) rfl (λw hb=>ag (cG _ hxu w))) fn))) rfl [(4,s.bp)] G7 LE 1 rfl rfl uC (.bool true))
theorem S2(s:GP)(x:Int)(hxu:fv x)(hxa:s.m.cells[s.c.word s.p]? = some x)(h1:¬ (aW (x))=0)(h2:¬ (aW (x))>((s.c.q:Nat):Int)):cw prog 161 [] 0 26 ⟨s.W0,s.F0⟩ (uD s) (G8 s) (λκ:am=>(.bool false)) (λκ:am=>[aE s.bp [iN s.c.n,iN s.c.q,iz s.c.g,iz s.c.m,iz s.c.t,iz s.c.s,iN s.p,iz 2,uz x,iz s.sn,.bool false,iz s.tr] 150,aN s.bm s.m.tick]):=by have q0:=s.c.z s.hp;have q6:=s.hl;exact(eP (c:=⟨s.W0,s.F0⟩) 7 (kn [iN (s.c.q),iN (s.c.q / 2),wN (s.c.q / 2),wN (s.c.q),iz (s.tr),iz (IntKind.i64.wrap (s.tr+1)),iN (s.c.n),iz (s.c.g),iz (s.c.m),iz (s.c.t),iz (s.c.s),iN (s.p),uz (s.w),iz (s.sn),pz s.bm,iN (s.c.word s.p),uz (x),wz (aW (x))] fr [(.eql,sy 17,.int .u32 0,.bool false),(.gtr,sy 17,sy 3,.bool false)] [] [(.u32,sy 0,sy 3)] (fc (λ_ _ _=>cZ (by first|(simpa using h1)|(simp;omega))) (fc (λ_ _ _=>ip (by first|(simpa using h2)|(simp;omega))) fn)) fn (fc (cF rfl rfl (by have q2:=s.c.qb;rw[cy];omega)) fn) s.W0 s.F0 [[aN s.bm s.m],[aN s.bm s.m.tick]] [] [⟨40,[.agg #[sy 6,sy 0,sy 7,sy 8,sy 9,sy 10],sy 11],0,none,sy 15,none⟩,⟨150,[sy 14,sy 15],0,none,sy 16,some 1⟩,⟨42,[sy 16],1,none,sy 17,none⟩]) fn (fc (pc rfl (λw hb=>cM s.c s.p s.hp w)) (fc (cc rfl [aN s.bm s.m.tick] [0] [] (λw F ho hn hF=>dk hn hxa (fK hxa (by omega)))) (fc (pc (args:=[uz x]) rfl (λw hb=>ag (cG _ hxu w))) fn))) rfl [(4,s.bp)] G7 [(4,[sy 6,sy 0,sy 7,sy 8,sy 9,sy 10,sy 11,iz 2,sy 16,sy 13,.bool false,sy 4],150)] 1 rfl rfl uC (.bool false))
theorem S3(s:GP)(x:Int)(hxu:fv x)(hxa:s.m.cells[s.c.slot s.p (aj s.w)]? = some x):cw prog 161 [] 0 26 ⟨s.W0,s.F0⟩ (uD s) [aE s.bp [iN s.c.n,iN s.c.q,iz s.c.g,iz s.c.m,iz s.c.t,iz s.c.s,iN s.p,iz 2,uz s.w,iz s.sn,.bool false,iz s.tr] 150,aN s.bm s.m] (λκ:am=>(.bool false)) (λκ:am=>[aE s.bp [iN s.c.n,iN s.c.q,iz s.c.g,iz s.c.m,iz s.c.t,iz s.c.s,iN s.p,iz 3,uz s.w,(iz (IntKind.i64.wrap (x))),.bool false,iz s.tr] 150,aN s.bm s.m.tick]):=(eP (c:=⟨s.W0,s.F0⟩) 7 (kn [iN (s.c.q),iN (s.c.q / 2),wN (s.c.q / 2),wN (s.c.q),iz (s.tr),iz (IntKind.i64.wrap (s.tr+1)),iN (s.c.n),iz (s.c.g),iz (s.c.m),iz (s.c.t),iz (s.c.s),iN (s.p),uz (s.w),iz (s.sn),pz s.bm,wz (aj (s.w)),iN (s.c.slot s.p (aj (s.w))),uz (x),iz (IntKind.i64.wrap (x))] fr [] [] [(.i64,sy 17,sy 18)] fn fn (fc ⟨.u64,_,rfl,rfl⟩ fn) s.W0 s.F0 [[aN s.bm s.m],[aN s.bm s.m.tick]] [] [⟨73,[sy 12],0,none,sy 15,none⟩,⟨43,[.agg #[sy 6,sy 0,sy 7,sy 8,sy 9,sy 10],sy 11,sy 15],0,none,sy 16,none⟩,⟨150,[sy 14,sy 16],0,none,sy 17,some 1⟩]) fn (fc (pc (args:=[uz s.w]) rfl (λw hb=>ag (cC _ s.hw w))) (fc (pc rfl (λw hb=>iO s.c s.p s.hp (aj (s.w)) (bR s.hw).1 w)) (fc (cc rfl [aN s.bm s.m.tick] [0] [] (λw F ho hn hF=>dk hn hxa (fK hxa (by have q0:=s.c.z s.hp;have q6:=s.hl;omega)))) fn))) rfl [(4,s.bp)] [(4,[sy 6,sy 0,sy 7,sy 8,sy 9,sy 10,sy 11,iz 2,sy 12,sy 13,.bool false,sy 4],150)] [(4,[sy 6,sy 0,sy 7,sy 8,sy 9,sy 10,sy 11,iz 3,sy 12,sy 18,.bool false,sy 4],150)] 1 rfl rfl uC (.bool false))
theorem S4(s:GP)(x:Int)(hxu:fv x)(hxa:s.m.cells[s.c.word s.p]? = some x)(hc:x≠s.w):cw prog 161 [] 0 26 ⟨s.W0,s.F0⟩ (uD s) (G_ s) (λκ:am=>(.bool false)) (λκ:am=>[aE s.bp [iN s.c.n,iN s.c.q,iz s.c.g,iz s.c.m,iz s.c.t,iz s.c.s,iN s.p,iz 1,uz s.w,iz s.sn,.bool false,(iz (IntKind.i64.wrap (s.tr+1)))] 150,aN s.bm s.m.tick]):=(eP (c:=⟨s.W0,s.F0⟩) 7 (kn [iN (s.c.q),iN (s.c.q / 2),wN (s.c.q / 2),wN (s.c.q),iz (s.tr),iz (IntKind.i64.wrap (s.tr+1)),iN (s.c.n),iz (s.c.g),iz (s.c.m),iz (s.c.t),iz (s.c.s),iN (s.p),uz (s.w),iz (s.sn),pz s.bm,iN (s.c.word s.p),uz (fM s.w 1)] fr [(.add,sy 4,iz 1,sy 5)] [] [] (fc (λ_ _ _=>aQ rfl) fn) fn fn s.W0 s.F0 [[aN s.bm s.m],[aN s.bm s.m.tick]] [] [⟨40,[.agg #[sy 6,sy 0,sy 7,sy 8,sy 9,sy 10],sy 11],0,none,sy 15,none⟩,⟨115,[sy 12,.int .u32 1],0,none,sy 16,none⟩,⟨154,[sy 14,sy 15,sy 12,sy 16],0,none,.bool false,some 1⟩]) fn (fc (pc rfl (λw hb=>cM s.c s.p s.hp w)) (fc (pc (args:=[uz s.w,.int .u32 1]) rfl (λw hb=>ag (uy _ 1 s.hw w))) (fc (cc rfl [aN s.bm s.m.tick] [0] [] (λw F ho hn hF=>oO hn hxa (by have q0:=s.c.z s.hp;have q6:=s.hl;omega) s.w (fM s.w 1) hc)) fn))) rfl [(4,s.bp)] G9 [(4,[sy 6,sy 0,sy 7,sy 8,sy 9,sy 10,sy 11,iz 1,sy 12,sy 13,.bool false,sy 5],150)] 1 rfl rfl uC (.bool false))
theorem S5(s:GP)(x:Int)(hxu:fv x)(hxa:s.m.cells[s.c.word s.p]? = some x)(hc:x=s.w):cw prog 161 [] 0 26 ⟨s.W0,s.F0⟩ (uD s) (G_ s) (λκ:am=>(.bool true)) (λκ:am=>[aE s.bp [iN s.c.n,iN s.c.q,iz s.c.g,iz s.c.m,iz s.c.t,iz s.c.s,iN s.p,iz 0,uz s.w,iz s.sn,.bool true,iz s.tr] 150,aN s.bm (s.m.put (s.c.word s.p) (fM s.w 1))]):=(eP (c:=⟨s.W0,s.F0⟩) 7 (kn [iN (s.c.q),iN (s.c.q / 2),wN (s.c.q / 2),wN (s.c.q),iz (s.tr),iz (IntKind.i64.wrap (s.tr+1)),iN (s.c.n),iz (s.c.g),iz (s.c.m),iz (s.c.t),iz (s.c.s),iN (s.p),uz (s.w),iz (s.sn),pz s.bm,iN (s.c.word s.p),uz (fM s.w 1)] fr [] [] [] fn fn fn s.W0 s.F0 [[aN s.bm s.m],[aN s.bm (s.m.put (s.c.word s.p) (fM s.w 1))]] [] [⟨40,[.agg #[sy 6,sy 0,sy 7,sy 8,sy 9,sy 10],sy 11],0,none,sy 15,none⟩,⟨115,[sy 12,.int .u32 1],0,none,sy 16,none⟩,⟨154,[sy 14,sy 15,sy 12,sy 16],0,none,.bool true,some 1⟩]) fn (fc (pc rfl (λw hb=>cM s.c s.p s.hp w)) (fc (pc (args:=[uz s.w,.int .u32 1]) rfl (λw hb=>ag (uy _ 1 s.hw w))) (fc (cc rfl [aN s.bm (s.m.put (s.c.word s.p) (fM s.w 1))] [0] [] (λw F ho hn hF=>kg hn hxa (by have q0:=s.c.z s.hp;have q6:=s.hl;omega) s.w (fM s.w 1) hc)) fn))) rfl [(4,s.bp)] G9 [(4,[sy 6,sy 0,sy 7,sy 8,sy 9,sy 10,sy 11,iz 0,sy 12,sy 13,.bool true,sy 4],150)] 1 rfl rfl uC (.bool true))
theorem S6(W0:World)(F0:Nat->Prop)(c:aU)(p:Nat)(hp:p<c.n)  : cw prog 34 [] 0 15 ⟨W0,F0⟩ [(0,(.agg #[iN c.n,iN c.q,iz c.g,iz c.m,iz c.t,iz c.s])),(1,iN p)] [] (λκ:am=>(pz ((κ 404).getD 0))) (λκ:am=>[aE ((κ 404).getD 0) [iN c.n,iN c.q,iz c.g,iz c.m,iz c.t,iz c.s,iN p,iz 1,.int .u64 0,iz 0,.bool false,iz 0] 150]):=(eP (c:=⟨W0,F0⟩) 5 (kn [iN (c.n),iN (c.q),iz (c.g),iz (c.m),iz (c.t),iz (c.s),iN (p),iN (c.word p)] fr [(.lss,sy 7,iz 0,.bool false)] [] [] (fc (λ_ _ _=>a_ (by have q0:=c.z hp;first|(simp;done)|(simp;omega))) fn) fn fn W0 F0 [[]] [] [⟨40,[.agg #[sy 0,sy 1,sy 2,sy 3,sy 4,sy 5],sy 6],0,none,sy 7,none⟩]) fn (fc (pc rfl (λw hb=>cM c p hp w)) fn) rfl [] [] [(404,[sy 0,sy 1,sy 2,sy 3,sy 4,sy 5,sy 6,iz 1,.int .u64 0,iz 0,.bool false,iz 0],150)] 0 rfl rfl [(0,.agg #[sy 0,sy 1,sy 2,sy 3,sy 4,sy 5]),(1,sy 6)] (.pointer (some ⟨404,0,none⟩)))
theorem S7(W0:World)(F0:Nat->Prop)(c:aU)(p:Nat)(hp:p<c.n)(bp st:Nat)(ww sn tr:Int):cw prog 68 [] 0 17 ⟨W0,F0⟩ [(0,pz bp)] (wL c p bp st ww sn tr) (λκ:am=>(.tuple #[iz 0,.bool false])) (λκ:am=>(wL c p bp st ww sn tr)):=(eP (c:=⟨W0,F0⟩) 5 (kn [iN (c.n),iN (c.q),iz (c.g),iz (c.m),iz (c.t),iz (c.s),iN (p),iN (st),uz (ww),iz (sn),iz (tr)] fr [] [] [] fn fn fn W0 F0 [[]] [] []) fn fn rfl [(4,bp)] wJ wJ 0 rfl rfl wK (.tuple #[iz 0,.bool false]))
theorem S8(W0:World)(F0:Nat->Prop)(c:aU)(p:Nat)(hp:p<c.n)(bp st:Nat)(ww sn tr:Int):cw prog 68 [] 0 17 ⟨W0,F0⟩ [(0,pz bp)] (AW c p bp st ww sn tr) (λκ:am=>(.tuple #[iz sn,.bool true])) (λκ:am=>(AW c p bp st ww sn tr)):=(eP (c:=⟨W0,F0⟩) 5 (kn [iN (c.n),iN (c.q),iz (c.g),iz (c.m),iz (c.t),iz (c.s),iN (p),iN (st),uz (ww),iz (sn),iz (tr)] fr [] [] [] fn fn fn W0 F0 [[]] [] []) fn fn rfl [(4,bp)] AV AV 0 rfl rfl wK (.tuple #[sy 9,.bool true]))
theorem S_(W0:World)(F0:Nat->Prop)(c:aU)(p:Nat)(hp:p<c.n)(bp st:Nat)(ww sn tr:Int):cw prog 160 [] 0 14 ⟨W0,F0⟩ [(0,pz bp)] (wL c p bp st ww sn tr) (λκ:am=>(.slice none 0 0)) (λκ:am=>(wL c p bp st ww sn tr)):=(eP (c:=⟨W0,F0⟩) 6 (kn [iN (c.n),iN (c.q),iz (c.g),iz (c.m),iz (c.t),iz (c.s),iN (p),iN (st),uz (ww),iz (sn),iz (tr)] fr [] [] [] fn fn fn W0 F0 [[]] [] []) fn fn rfl [(4,bp)] wJ wJ 0 rfl rfl wK (.slice none 0 0))
theorem S'(W0:World)(F0:Nat->Prop)(c:aU)(p:Nat)(hp:p<c.n)(bp st:Nat)(ww sn tr:Int):cw prog 160 [] 0 14 ⟨W0,F0⟩ [(0,pz bp)] (AW c p bp st ww sn tr) (λκ:am=>(.slice (some ⟨((κ 400).getD 0),0,none⟩) 1 1)) (λκ:am=>[aE bp [iN c.n,iN c.q,iz c.g,iz c.m,iz c.t,iz c.s,iN p,iN st,uz ww,iz sn,.bool true,iz tr] 150,aE ((κ 400).getD 0) [iz sn] 3]):=(eP (c:=⟨W0,F0⟩) 6 (kn [iN (c.n),iN (c.q),iz (c.g),iz (c.m),iz (c.t),iz (c.s),iN (p),iN (st),uz (ww),iz (sn),iz (tr)] fr [] [] [] fn fn fn W0 F0 [[]] [] []) fn fn rfl [(4,bp)] AV [(4,[sy 0,sy 1,sy 2,sy 3,sy 4,sy 5,sy 6,sy 7,sy 8,sy 9,.bool true,sy 10],150),(400,[sy 9],3)] 0 rfl rfl wK (.slice (some ⟨400,0,none⟩) 1 1))
abbrev LH(c:aU)(p:Nat)(gg:Int):List (Nat×Value):=[(0,(.agg #[iN c.n,iN c.q,iz c.g,iz c.m,iz c.t,iz c.s])),(1,iN p),(2,iz gg)]
abbrev Cj:List iA:=[(4,[sy 3,sy 4,sy 5,sy 6,sy 7,sy 8,sy 9,sy 2,sy 10,sy 11,sy 12,sy 0,sy 1],148)]
abbrev G':List (Nat×Value):=[(0,.pointer (some ⟨4,0,none⟩))]
abbrev Ha(hd:Value)(hs:List Int):List aF:=[bT 3 1 (hd) (hs.length) (aX hs)]
abbrev Hb(hd:Value)(hs:List Int):List aF:=[jS 403 (λv=>bT 3 1 v hs.length (aX hs)),jS 403 (λv=>bT 3 1 (hd) (hs.length) (aX hs))]
abbrev AX(c:aU)(p:Nat)(bp:Nat)(ww:Int)(k:Int)(gg:Int)(tk:Value)(hd:Value)(hs:List Int)(st:Nat):List aF:=[aE bp [iN c.n,iN c.q,iz c.g,iz c.m,iz c.t,iz c.s,iN p,iN st,uz ww,wz k,iz gg,tk,hd] 148,bT 3 1 (hd) (hs.length) (aX hs)]
abbrev Hc:List iA:=[(4,[sy 2,sy 3,sy 4,sy 5,sy 6,sy 7,sy 8,iz 0,sy 9,sy 10,sy 11,sy 0,sy 1],148)]
abbrev Nc(c:aU)(p:Nat)(bp:Nat)(ww:Int)(k:Int)(gg:Int)(tk:Value)(hd:Value)(hs:List Int):List aF:=[aE bp [iN c.n,iN c.q,iz c.g,iz c.m,iz c.t,iz c.s,iN p,iz 0,uz ww,wz k,iz gg,tk,hd] 148,bT 3 1 (hd) (hs.length) (aX hs)]
theorem Ta(W0:World)(F0:Nat->Prop)(c:aU)(p:Nat)(hp:p<c.n)(gg:Int)(hg:0<=gg):cw prog 33 [] 0 32 ⟨W0,F0⟩ (LH c p gg) [] (λκ:am=>(pz ((κ 416).getD 0))) (λκ:am=>[aE ((κ 416).getD 0) [iN c.n,iN c.q,iz c.g,iz c.m,iz c.t,iz c.s,iN p,iz 1,.int .u64 0,.int .u32 0,iz gg,.slice none 0 0,(.slice (some ⟨((κ 420).getD 0),0,none⟩) 1 1)] 148,aE ((κ 420).getD 0) [iz gg] 3]):=by have q0:=c.z hp;exact(eP (c:=⟨W0,F0⟩) 8 (kn [iN (c.n),iN (c.q),iz (c.g),iz (c.m),iz (c.t),iz (c.s),iN (p),iz (gg),iN (c.word p)] fr [(.geq,sy 8,iz 0,.bool true),(.lss,sy 7,iz 0,.bool false)] [] [] (fc (λ_ _ _=>ft (by first|(simp;done)|(simp;omega))) (fc (λ_ _ _=>a_ (by first|(simp;done)|(simp;omega))) fn)) fn fn W0 F0 [[]] [] [⟨40,[.agg #[sy 0,sy 1,sy 2,sy 3,sy 4,sy 5],sy 6],0,none,sy 8,none⟩]) fn (fc (pc rfl (λw hb=>cM c p hp w)) fn) rfl [] [] [(416,[sy 0,sy 1,sy 2,sy 3,sy 4,sy 5,sy 6,iz 1,.int .u64 0,.int .u32 0,sy 7,.slice none 0 0,.slice (some ⟨420,0,none⟩) 1 1],148),(420,[sy 7],3)] 0 rfl rfl [(0,.agg #[sy 0,sy 1,sy 2,sy 3,sy 4,sy 5]),(1,sy 6),(2,sy 7)] (.pointer (some ⟨416,0,none⟩)))
theorem Tb(W0:World)(F0:Nat->Prop)(c:aU)(p:Nat)(hp:p<c.n)(gg:Int)(hg:¬ 0<=gg):cw prog 33 [] 0 32 ⟨W0,F0⟩ (LH c p gg) [] (λκ:am=>(pz ((κ 416).getD 0))) (λκ:am=>[aE ((κ 416).getD 0) [iN c.n,iN c.q,iz c.g,iz c.m,iz c.t,iz c.s,iN p,iz 0,.int .u64 0,.int .u32 0,iz gg,.slice none 0 0,.slice none 0 0] 148]):=by have q0:=c.z hp;exact(eP (c:=⟨W0,F0⟩) 8 (kn [iN (c.n),iN (c.q),iz (c.g),iz (c.m),iz (c.t),iz (c.s),iN (p),iz (gg),iN (c.word p)] fr [(.geq,sy 8,iz 0,.bool true),(.lss,sy 7,iz 0,.bool true)] [] [] (fc (λ_ _ _=>ft (by first|(simp;done)|(simp;omega))) (fc (λ_ _ _=>a_ (by first|(simp;done)|(simp;omega))) fn)) fn fn W0 F0 [[]] [] [⟨40,[.agg #[sy 0,sy 1,sy 2,sy 3,sy 4,sy 5],sy 6],0,none,sy 8,none⟩]) fn (fc (pc rfl (λw hb=>cM c p hp w)) fn) rfl [] [] [(416,[sy 0,sy 1,sy 2,sy 3,sy 4,sy 5,sy 6,iz 0,.int .u64 0,.int .u32 0,sy 7,.slice none 0 0,.slice none 0 0],148)] 0 rfl rfl [(0,.agg #[sy 0,sy 1,sy 2,sy 3,sy 4,sy 5]),(1,sy 6),(2,sy 7)] (.pointer (some ⟨416,0,none⟩)))
theorem R0(W0:World)(F0:Nat->Prop)(c:aU)(p:Nat)(hp:p<c.n)(bp:Nat)(ww k gg:Int)(tk hd:Value)(kB:aT tk=true)(r9:aT hd=true)(hs:List Int)(I6:hs.length<=1000000)(st:Nat):cw prog 137 [] 0 10 ⟨W0,F0⟩ [(0,pz bp)] (AX c p bp ww k gg tk hd hs st) (λκ:am=>(dv κ 403)) (λκ:am=>[aE bp [iN c.n,iN c.q,iz c.g,iz c.m,iz c.t,iz c.s,iN p,iN st,uz ww,wz k,iz gg,tk,hd] 148,bT 3 1 (dv κ 403) hs.length (aX hs),bT 3 1 (hd) (hs.length) (aX hs)]):=(eP (c:=⟨W0,F0⟩) 5 (kn [tk,hd,iN (st),iN (c.n),iN (c.q),iz (c.g),iz (c.m),iz (c.t),iz (c.s),iN (p),uz (ww),wz (k),iz (gg)] (fc (by assumption) (fc (by assumption) fr)) [] [] [] fn fn fn W0 F0 [(Ha hd hs),(Hb hd hs)] [] [⟨97,[sy 1],0,some 403,.complex .f32 403 0,some 1⟩]) fn (fc (cd rfl [λv=>bT 3 1 v hs.length (aX hs),λv=>bT 3 1 (hd) (hs.length) (aX hs)] [0] [] (λw F ho hn hF=>pU I6 hJ hn)) fn) rfl [(4,bp)] Cj Cj 1 rfl rfl G' (.complex .f32 403 0)).conv (λκ w=>⟨(λ_ h=>h),(λ_ h=>fJ (a:=λv=>bT 3 1 v hs.length (aX hs)) (λ_ _ _ _ _ h=>h) h),(λ_ h=>fJ (a:=λv=>bT 3 1 (hd) (hs.length) (aX hs)) (λ_ _ _ _ _ h=>h) h),trivial⟩)
theorem Tc(W0:World)(F0:Nat->Prop)(c:aU)(p:Nat)(hp:p<c.n)(bp:Nat)(ww k gg:Int)(tk hd:Value)(kB:aT tk=true)(r9:aT hd=true)(hs:List Int)(I6:hs.length<=1000000):cw prog 66 [] 0 18 ⟨W0,F0⟩ [(0,pz bp)] (Nc c p bp ww k gg tk hd hs) (λκ:am=>(dv κ 403)) (λκ:am=>[aE bp [iN c.n,iN c.q,iz c.g,iz c.m,iz c.t,iz c.s,iN p,iz 0,uz ww,wz k,iz gg,tk,hd] 148,bT 3 1 (dv κ 403) hs.length (aX hs),bT 3 1 (hd) (hs.length) (aX hs)]):=(eP (c:=⟨W0,F0⟩) 5 (kn [tk,hd,iN (c.n),iN (c.q),iz (c.g),iz (c.m),iz (c.t),iz (c.s),iN (p),uz (ww),wz (k),iz (gg)] (fc (by assumption) (fc (by assumption) fr)) [] [] [] fn fn fn W0 F0 [(Ha hd hs),(Hb hd hs)] [] [⟨97,[sy 1],0,some 403,.complex .f32 403 0,some 1⟩]) fn (fc (cd rfl [λv=>bT 3 1 v hs.length (aX hs),λv=>bT 3 1 (hd) (hs.length) (aX hs)] [0] [] (λw F ho hn hF=>pU I6 hJ hn)) fn) rfl [(4,bp)] Hc Hc 1 rfl rfl G' (.complex .f32 403 0)).conv (λκ w=>⟨(λ_ h=>h),(λ_ h=>fJ (a:=λv=>bT 3 1 v hs.length (aX hs)) (λ_ _ _ _ _ h=>h) h),(λ_ h=>fJ (a:=λv=>bT 3 1 (hd) (hs.length) (aX hs)) (λ_ _ _ _ _ h=>h) h),trivial⟩)
theorem Td(W0:World)(F0:Nat->Prop)(c:aU)(p:Nat)(hp:p<c.n)(bp:Nat)(ww k gg:Int)(tk hd:Value)(kB:aT tk=true)(r9:aT hd=true)(hs:List Int)(I6:hs.length<=1000000)(st:Nat)(hst:st≠0):cw prog 66 [] 0 18 ⟨W0,F0⟩ [(0,pz bp)] (AX c p bp ww k gg tk hd hs st) (λκ:am=>(.slice none 0 0)) (λκ:am=>(AX c p bp ww k gg tk hd hs st)):=(eP (c:=⟨W0,F0⟩) 5 (kn [tk,hd,iN (st),iN (c.n),iN (c.q),iz (c.g),iz (c.m),iz (c.t),iz (c.s),iN (p),uz (ww),wz (k),iz (gg)] (fc (by assumption) (fc (by assumption) fr)) [(.neq,sy 2,iz 0,.bool true)] [] [] (fc (λ_ _ _=>l3 (by have q0:=c.z hp;first|(simp;done)|(simp;omega))) fn) fn fn W0 F0 [(Ha hd hs)] [] []) fn fn rfl [(4,bp)] Cj Cj 0 rfl rfl G' (.slice none 0 0))
end Go.Proofs.YtkmccgombmogmaaGreat
namespace Go.Proofs.YtkmccgombmogmaaGreat
open Go.Ev Go.Proofs.Tryz
open Go.RowKit
structure oT where
 QX:Bool
 gg:Int
 st:Nat
 was:Int
 put:Option gK
def oT.nx(k:oT):Int:=if k.QX then 0 else k.gg+1
structure QY(c:aU)(k:oT):Prop where
 st:k.st<=3
 gg:k.QX=false->0<=k.gg/\k.gg<=9223372036854775807
 was:fv k.was
 put:∀ x,k.put=some x->mb c x
 Uh:k.st=1\/k.st=2->k.put=none
 p3:k.st=3->∃ x,k.put=some x/\x.st≠0
 p0:k.st=0->∀ x,k.put=some x->x.st=0
def oT.holds(k:oT):List Int:=match k.put with | some x=>x.hs | none=>[]
def oT.hands(k:oT):List Int:=if k.QX=false/\(k.st=1\/k.st=2) then [k.gg] else k.holds
def oT.over(k:oT):List Int:=match k.put with | some x=>if x.st=0 then x.hs else [] | none=>[]
end Go.Proofs.YtkmccgombmogmaaGreat
namespace Go.Proofs.YtkmccgombmogmaaGreat
open Go.Ev Go.Proofs.Tryz
open Go.RowKit
open Go.Ev (sy)
set_option maxRecDepth 8000
theorem Ck{b:Nat}{x:Int}{c:dt}{l:List aF}{w:World}(h:af c (aE b [.int .i64 x] 3 :: l) w):af c (bJ (.slice (some ⟨b,0,none⟩) 1 1) [x]::l) w :=
 h.head (λF ⟨h1,h2⟩=>⟨rfl,.inr ⟨b,0,1,_,rfl,h1,h2,λi hi=>by
  have:i=0:=by simp at hi;omega
  subst this
  rfl,Nat.le_refl _,Nat.le_refl _⟩⟩)
def Nd(c:aU)(p:Nat)(x:gK)(v:Value):aF where
 p:=λι F w=>∃ bp,v=.pointer (some ⟨bp,0,none⟩)/\(fL c p bp x).p ι F w
 keep:=λι F w w' hk ⟨bp,e,h⟩=>⟨bp,e,(fL c p bp x).keep ι F w w' hk h⟩
 mono:=λι κ F w hle ⟨bp,e,h⟩=>⟨bp,e,(fL c p bp x).mono ι κ F w hle h⟩
theorem DG{c:aU}{p:Nat}{x:gK}{v:Value}{ctx:dt}{l:List aF}{w:World}(h:af ctx (Nd c p x v::l) w):∃ bp,v=.pointer (some ⟨bp,0,none⟩)/\af ctx (fL c p bp x::l) w :=
 h.yL (b:=λbp=>fL c p bp x) (p:=λbp=>v=.pointer (some ⟨bp,0,none⟩)) (λF ⟨bp,e,h⟩=>⟨bp,e,h⟩)
theorem uE{c:aU}{p bp:Nat}{x:gK}{ctx:dt}{l:List aF}{w:World}(h:af ctx (fL c p bp x::l) w):af ctx (Nd c p x (.pointer (some ⟨bp,0,none⟩))::l) w :=
 h.head (λF h=>⟨bp,rfl,h⟩)
def iu(gg:Int):gK:=if 0<=gg then ⟨1,gg,0,[],[gg]⟩ else ⟨0,gg,0,[],[]⟩
section
variable{w:World}{F:Nat->Prop}{c:aU}{p:Nat}
theorem Ke(hp:p<c.n)(gg:Int)(h:cL [] F w) :
  Calls prog 33 #[c.v,.int .i64 (p:Int),.int .i64 gg] w λe w'=>∃ v cd,Ev.dec cd=v/\e=.returned v/\af ⟨w,F⟩ [Nd c p (iu gg) v] w':=by
 by_cases hg:0<=gg
 ·refine bh (Ta w F c p hp gg hg) (by kernel_rfl) h (by simp) (by simp) (λκ w1 h1=>⟨_,_,qG _ _,rfl,uE ?_⟩)
  rw[iu,if_pos hg];have h2:=(Ck (h1.sel [1,0])).d8 (e := 3) (sz:=1);exact eN (k:=0) (tk:=.slice none 0 0) (Nat.succ_ne_zero _) rfl (h2.sel [2,1,0])
 ·refine bh (Tb w F c p hp gg hg) (by kernel_rfl) h (by simp) (by simp) (λκ w1 h1=>⟨_,_,qG _ _,rfl,uE ?_⟩)
  rw[iu,if_neg hg];have h2:=h1.d8 (e := 3) (sz:=1);exact jq (k:=0) (tk:=.slice none 0 0) (hd:=.slice none 0 0) rfl rfl (h2.sel [1,0])
theorem DH(hp:p<c.n){x:gK}(hx:mb c x){bp:Nat}(h:cL [fL c p bp x] F w) :
  Calls prog 137 #[.pointer (some ⟨bp,0,none⟩)] w λe w'=>∃ v cd,Ev.dec cd=v/\e=.returned v/\af ⟨w,F⟩ [bJ v x.hs,fL c p bp x] w':=by
 have QZ:=hx.hs
 by_cases h0:x.st=0
 ·obtain⟨k,tk,hd,kB,r9,hh⟩:=ux h0 (af.start h)
  obtain⟨F',n1,n2,n3⟩:=hh.ex;refine bh (R0 w F' c p hp bp x.w k x.gg tk hd kB r9 x.hs (by omega) x.st) (by kernel_rfl) n1 (by simp) (by simp) (λκ w1 h1=>⟨_,_,rfl,rfl,?_⟩);exact(jq (k:=k) (tk:=tk) (hd:=hd) h0 kB ((h1.into (l:=[]) n2 n3).sel [0,2,1])).sel [1,0]
 ·obtain⟨k,tk,hd,kB,r9,hh⟩:=sd h0 (af.start h)
  obtain⟨F',n1,n2,n3⟩:=hh.ex;obtain⟨F1,F2,k1,k2,k3,k4⟩:=cV (l:=[tT c p bp x k tk hd,bJ hd x.hs]) n1;refine bh (R0 w F1 c p hp bp x.w k x.gg tk hd kB r9 x.hs (by omega) x.st) (by kernel_rfl) k1 (by simp) (by simp) (λκ w1 h1=>⟨_,_,rfl,rfl,?_⟩);have h2:=(h1.frame k2 k3).into (l:=[]) n2 (λj hj=>n3 j ((k4 j).2 hj));exact(eN (k:=k) (tk:=tk) (hd:=hd) h0 kB (h2.sel [0,2,3,1])).sel [1,0]
theorem Hd(hp:p<c.n){x:gK}(hx:mb c x){bp:Nat}(h:cL [fL c p bp x] F w) :
  Calls prog 66 #[.pointer (some ⟨bp,0,none⟩)] w λe w'=>∃ v cd,Ev.dec cd=v/\e=.returned v/\af ⟨w,F⟩ [bJ v (if x.st=0 then x.hs else []),fL c p bp x] w':=by
 have QZ:=hx.hs
 by_cases h0:x.st=0
 ·obtain⟨k,tk,hd,kB,r9,hh⟩:=ux h0 (af.start h)
  obtain⟨F',n1,n2,n3⟩:=hh.ex;have n1':cL [aE bp [.int .i64 (c.n:Int),.int .i64 (c.q:Int),.int .i64 c.g,.int .i64 c.m,.int .i64 c.t,.int .i64 c.s,.int .i64 (p:Int),.int .i64 0,.int .u64 x.w,.int .u32 k,.int .i64 x.gg,tk,hd] 148,bT 3 1 hd x.hs.length (aX x.hs)] F' w:=by
   have e:tT c p bp x k tk hd=aE bp [.int .i64 (c.n:Int),.int .i64 (c.q:Int),.int .i64 c.g,.int .i64 c.m,.int .i64 c.t,.int .i64 c.s,.int .i64 (p:Int),.int .i64 0,.int .u64 x.w,.int .u32 k,.int .i64 x.gg,tk,hd] 148:=by unfold tT;rw[h0];rfl
   rw[e]at n1;exact n1
  refine bh (Tc w F' c p hp bp x.w k x.gg tk hd kB r9 x.hs (by omega)) (by kernel_rfl) n1' (by simp) (by simp) (λκ w1 h1=>⟨_,_,rfl,rfl,?_⟩);rw[if_pos h0];have h2:=(h1.into (l:=[]) n2 n3).sel [0,2,1];have h3:af ⟨w,F⟩ [fL c p bp x,bJ (Ev.dec ((κ 403).getD 0)) x.hs] w1:=by
   refine jq (k:=k) (tk:=tk) (hd:=hd) h0 kB ?_;unfold tT;rw[h0];exact h2
  exact h3.sel [1,0]
 ·obtain⟨k,tk,hd,kB,r9,hh⟩:=sd h0 (af.start h)
  obtain⟨F',n1,n2,n3⟩:=hh.ex;obtain⟨F1,F2,k1,k2,k3,k4⟩:=cV (l:=[tT c p bp x k tk hd,bJ hd x.hs]) n1;refine bh (Td w F1 c p hp bp x.w k x.gg tk hd kB r9 x.hs (by omega) x.st h0) (by kernel_rfl) k1 (by simp) (by simp) (λκ w1 h1=>⟨_,_,nr,rfl,?_⟩);have h2:=(h1.frame k2 k3).into (l:=[]) n2 (λj hj=>n3 j ((k4 j).2 hj));rw[if_neg h0];exact((eN (k:=k) (tk:=tk) (hd:=hd) h0 kB (h2.sel [0,1,2])).d8 (e := 3) (sz:=1))
end
structure iQ where
 st:Nat
 w:Int
 sn:Int
 has:Bool
def aM(c:aU)(p:Nat)(x:iQ)(m:bO):iQ×bO :=
 match x.st with
 | 1=>let v:=ld m (c.word p);if aW v=0\/(c.q:Int)<aW v then (⟨0,v,x.sn,x.has⟩,m.tick) else (⟨2,v,x.sn,x.has⟩,m.tick)
 | 2=>(⟨3,x.w,IntKind.i64.wrap (ld m (c.slot p (aj x.w))),x.has⟩,m.tick)
 | 3=>if ld m (c.word p)=x.w then (⟨0,x.w,x.sn,true⟩,m.put (c.word p) (fM x.w 1)) else (⟨1,x.w,x.sn,x.has⟩,m.tick)
 | _=>(x,m)
structure y8(x:iQ):Prop where
 st:x.st<4
 w:fv x.w
 has:x.st≠0->x.has=false
theorem sh{c:aU}{p:Nat}{x:iQ}{m:bO}(hp:p<c.n)(hx:y8 x)(hm:bY c m):y8 (aM c p x m).1/\bY c (aM c p x m).2:=by
 obtain⟨st,w,sn,has⟩:=x;obtain⟨h1,h2,h3⟩:=hx;have hw:=hm.get (hm.fG hp)
 match st,h1,h3 with
 | 0,_,h3=>exact⟨⟨by simp[aM],h2,h3⟩,hm⟩
 | 1,_,h3 =>
  simp only[aM]
  split
  ·exact⟨⟨by simp,hw.2,λh=>absurd rfl h⟩,hm.tick⟩
  ·exact⟨⟨by simp,hw.2,λ_=>h3 (by simp)⟩,hm.tick⟩
 | 2,_,h3=>exact⟨⟨by simp[aM],h2,λ_=>h3 (by simp)⟩,hm.tick⟩
 | 3,_,h3 =>
  simp only[aM]
  split
  ·exact⟨⟨by simp,h2,λh=>absurd rfl h⟩,hm.put _ (y6 h2 1)⟩
  ·exact⟨⟨by simp,h2,λ_=>h3 (by simp)⟩,hm.tick⟩
def He(c:aU)(p bp:Nat)(x:iQ)(tr:Int):aF:=aE bp [.int .i64 (c.n:Int),.int .i64 (c.q:Int),.int .i64 c.g,.int .i64 c.m,.int .i64 c.t,.int .i64 c.s,.int .i64 (p:Int),.int .i64 (x.st:Int),.int .u64 x.w,.int .i64 x.sn,.bool x.has,.int .i64 tr] 150
def iR(c:aU)(p bp:Nat)(x:iQ):aF:=Dw (λ_:Int=>True) (λtr=>He c p bp x tr)
section
variable{w:World}{F:Nat->Prop}{c:aU}{p:Nat}
theorem si{bp:Nat}{x:iQ}{ctx:dt}{l:List aF}(h:af ctx (iR c p bp x::l) w):∃ tr,af ctx (He c p bp x tr::l) w:=by
 obtain⟨tr,_,hh⟩:=h.qD;exact⟨tr,hh⟩
theorem em{bp:Nat}{x:iQ}{tr:Int}{ctx:dt}{l:List aF}(h:af ctx (He c p bp x tr::l) w):af ctx (iR c p bp x::l) w :=
 af.r8 tr trivial h
theorem Hf(hp:p<c.n){x:iQ}(hx:y8 x)(h0:x.st≠0){m:bO}(hm:bY c m){bp bm:Nat}(h:cL [iR c p bp x,aN bm m] F w) :
  Calls prog 161 #[.pointer (some ⟨bp,0,none⟩),.pointer (some ⟨bm,0,none⟩)] w λe w'=>e=.returned (.bool (decide ((aM c p x m).1.st=0)))/\af ⟨w,F⟩ [iR c p bp (aM c p x m).1,aN bm (aM c p x m).2] w':=by
 obtain⟨tr,hh⟩:=si (af.start h);obtain⟨F',n1,n2,n3⟩:=hh.ex;have hw:=hm.get (hm.fG hp);obtain⟨st,ww,sn,has⟩:=x;obtain rfl:has=false:=hx.has h0
 let s:GP:=⟨w,F',c,p,hp,ww,hx.w,sn,tr,bp,bm,m,hm.len⟩
 have into:∀ {l:List aF} {w1:World},af ⟨w,F'⟩ l w1->af ⟨w,F⟩ l w1:=λhh=>hh.into (l:=[]) n2 n3
 match st,hx.st with
 | 0,_=>exact absurd rfl h0
 | 1,_ =>
  by_cases hz:aW (ld m (c.word p))=0
  ·rw[show aM c p ⟨1,ww,sn,false⟩ m=(⟨0,ld m (c.word p),sn,false⟩,m.tick) by simp only[aM,if_pos (Or.inl hz)]]
   exact bh (S0 s _ hw.2 hw.1 hz) (by kernel_rfl) n1 (by simp) (by simp[s]) (λκ w1 h1=>⟨rfl,em (into h1)⟩)
  ·by_cases hq:(c.q:Int)<aW (ld m (c.word p))
   ·rw[show aM c p ⟨1,ww,sn,false⟩ m=(⟨0,ld m (c.word p),sn,false⟩,m.tick) by simp only[aM,if_pos (Or.inr hq)]]
    exact bh (S1 s _ hw.2 hw.1 hz hq) (by kernel_rfl) n1 (by simp) (by simp[s]) (λκ w1 h1=>⟨rfl,em (into h1)⟩)
   ·rw[show aM c p ⟨1,ww,sn,false⟩ m=(⟨2,ld m (c.word p),sn,false⟩,m.tick) by simp only[aM,if_neg (not_or.2 ⟨hz,hq⟩)]]
    exact bh (S2 s _ hw.2 hw.1 hz hq) (by kernel_rfl) n1 (by simp) (by simp[s]) (λκ w1 h1=>⟨rfl,em (into h1)⟩)
 | 2,_ =>
  have hsl:=hm.get (hm.iP hp (aj ww));exact bh (S3 s _ hsl.2 hsl.1) (by kernel_rfl) n1 (by simp) (by simp[s]) (λκ w1 h1=>⟨rfl,em (into h1)⟩)
 | 3,_ =>
  by_cases hc:ld m (c.word p)=ww
  ·rw[show aM c p ⟨3,ww,sn,false⟩ m=(⟨0,ww,sn,true⟩,m.put (c.word p) (fM ww 1)) by simp only[aM,if_pos hc]]
   exact bh (S5 s _ hw.2 hw.1 hc) (by kernel_rfl) n1 (by simp) (by simp[s]) (λκ w1 h1=>⟨rfl,em (into h1)⟩)
  ·rw[show aM c p ⟨3,ww,sn,false⟩ m=(⟨1,ww,sn,false⟩,m.tick) by simp only[aM,if_neg hc]]
   exact bh (S4 s _ hw.2 hw.1 hc) (by kernel_rfl) n1 (by simp) (by simp[s]) (λκ w1 h1=>⟨rfl,em (into h1)⟩)
def lm:iQ:=⟨1,0,0,false⟩
def Nf(c:aU)(p:Nat)(x:iQ)(v:Value):aF where
 p:=λι F w=>∃ bp,v=.pointer (some ⟨bp,0,none⟩)/\(iR c p bp x).p ι F w
 keep:=λι F w w' hk ⟨bp,e,h⟩=>⟨bp,e,(iR c p bp x).keep ι F w w' hk h⟩
 mono:=λι κ F w hle ⟨bp,e,h⟩=>⟨bp,e,(iR c p bp x).mono ι κ F w hle h⟩
theorem DI{x:iQ}{v:Value}{ctx:dt}{l:List aF}(h:af ctx (Nf c p x v::l) w):∃ bp,v=.pointer (some ⟨bp,0,none⟩)/\af ctx (iR c p bp x::l) w :=
 h.yL (b:=λbp=>iR c p bp x) (p:=λbp=>v=.pointer (some ⟨bp,0,none⟩)) (λF ⟨bp,e,h⟩=>⟨bp,e,h⟩)
theorem DJ{bp:Nat}{x:iQ}{ctx:dt}{l:List aF}(h:af ctx (iR c p bp x::l) w):af ctx (Nf c p x (.pointer (some ⟨bp,0,none⟩))::l) w :=
 h.head (λF h=>⟨bp,rfl,h⟩)
theorem Kf(hp:p<c.n)(h:cL [] F w) :
  Calls prog 34 #[c.v,.int .i64 (p:Int)] w λe w'=>∃ v,e=.returned v/\af ⟨w,F⟩ [Nf c p lm v] w' :=
 bh (S6 w F c p hp) (by kernel_rfl) h (by simp) (by simp) (λκ w1 h1=>⟨_,rfl,DJ (em (tr:=0) h1)⟩)
theorem Cl(hp:p<c.n){x:iQ}{bp:Nat}(h:cL [iR c p bp x] F w) :
  Calls prog 68 #[.pointer (some ⟨bp,0,none⟩)] w λe w'=>e=.returned (.tuple #[.int .i64 (if x.has then x.sn else 0),.bool x.has])/\af ⟨w,F⟩ [iR c p bp x] w':=by
 obtain⟨tr,hh⟩:=si (af.start h);obtain⟨F',n1,n2,n3⟩:=hh.ex;obtain⟨st,ww,sn,has⟩:=x;have into:∀ {l:List aF} {w1:World},af ⟨w,F'⟩ l w1->af ⟨w,F⟩ l w1:=λhh=>hh.into (l:=[]) n2 n3
 cases has
 ·exact bh (S7 w F' c p hp bp st ww sn tr) (by kernel_rfl) n1 (by simp) (by simp) (λκ w1 h1=>⟨rfl,em (into h1)⟩)
 ·exact bh (S8 w F' c p hp bp st ww sn tr) (by kernel_rfl) n1 (by simp) (by simp) (λκ w1 h1=>⟨rfl,em (into h1)⟩)
theorem DK(hp:p<c.n){x:iQ}{bp:Nat}(h:cL [iR c p bp x] F w) :
  Calls prog 160 #[.pointer (some ⟨bp,0,none⟩)] w λe w'=>∃ v,e=.returned v/\af ⟨w,F⟩ [bJ v (if x.has then [x.sn] else []),iR c p bp x] w':=by
 obtain⟨tr,hh⟩:=si (af.start h);obtain⟨F',n1,n2,n3⟩:=hh.ex;obtain⟨st,ww,sn,has⟩:=x;have into:∀ {l:List aF} {w1:World},af ⟨w,F'⟩ l w1->af ⟨w,F⟩ l w1:=λhh=>hh.into (l:=[]) n2 n3
 cases has
 ·refine bh (S_ w F' c p hp bp st ww sn tr) (by kernel_rfl) n1 (by simp) (by simp) (λκ w1 h1=>⟨_,rfl,?_⟩)
  have h2:af ⟨w,F⟩ [He c p bp ⟨st,ww,sn,false⟩ tr] w1:=into h1;exact(em h2).d8 (e := 3) (sz:=1)
 ·refine bh (S' w F' c p hp bp st ww sn tr) (by kernel_rfl) n1 (by simp) (by simp) (λκ w1 h1=>⟨_,rfl,?_⟩)
  have h2:af ⟨w,F⟩ [He c p bp ⟨st,ww,sn,true⟩ tr,aE ((κ 400).getD 0) [.int .i64 sn] 3] w1:=into h1;exact Ck ((em h2).sel [1,0])
end
structure gu where
 st:Nat
 w:Int
 k:Nat
 n:Nat
 ls:List Int
def ni(c:aU)(l:List Int)(v:Int):Nat:=min l.length (c.q-min (aW v).toNat c.q)
def az(c:aU)(p:Nat)(x:gu)(m:bO):gu×bO :=
 match x.st with
 | 0=>(x,m)
 | 1=>(⟨if ni c x.ls (ld m (c.word p))=0 then 0 else 2,ld m (c.word p),0,ni c x.ls (ld m (c.word p)),x.ls⟩,m.tick)
 | 2=>(⟨if x.k+1=x.n then 3 else 2,x.w,x.k+1,x.n,x.ls⟩,m.put (c.slot p ((cI x.w+(x.k:Int))%4294967296)) (x.ls.getD x.k 0))
 | _=>if ld m (c.word p)=x.w then (⟨0,x.w,x.k,x.n,x.ls.drop x.n⟩,m.put (c.word p) (dQ x.w (x.n:Int))) else (⟨1,x.w,x.k,x.n,x.ls⟩,m.tick)
abbrev Gn(g:Int):Prop:=0<=g/\g<=9223372036854775807
structure km(x:gu):Prop where
 st:x.st<4
 w:fv x.w
 b:x.k<=64/\x.n<=64
 ls:x.ls.length<=64
 ne:x.st≠0->x.ls≠[]
 two:x.st=2->x.k<x.n
 le:x.st=2\/x.st=3->x.n<=x.ls.length
 gs:∀ g ∈ x.ls,Gn g
theorem km.el{x:gu}(h:km x)(h2:x.st=2):x.ls[x.k]? = some (x.ls.getD x.k 0)/\Gn (x.ls.getD x.k 0):=by
 have h3:=h.two h2;have h4:=h.le (.inl h2);have h5:x.k<x.ls.length:=by omega
 have e:x.ls.getD x.k 0=x.ls[x.k]:=by rw[List.getD_eq_getElem?_getD,List.getElem?_eq_getElem h5];rfl
 rw[e];exact⟨List.getElem?_eq_getElem h5,h.gs _ (List.getElem_mem h5)⟩
theorem OO{g:Int}(h:Gn g):fv g:=⟨h.1,by have:=h.2;omega⟩
theorem Hg(c:aU)(l:List Int)(v:Int):ni c l v<=l.length:=Nat.min_le_left _ _
theorem sj{c:aU}{p:Nat}{x:gu}{m:bO}(hp:p<c.n)(hx:km x)(hm:bY c m):km (az c p x m).1/\bY c (az c p x m).2:=by
 have hel:=hx.el;obtain⟨st,w,k,n,ls⟩:=x;obtain⟨h1,h2,h3,h4,h5,h6,h7,h8⟩:=hx;dsimp only at h1 h2 h3 h4 h5 h6 h7 h8 hel;have hw:=hm.get (hm.fG hp)
 match st,h1 with
 | 0,_ =>
  have q:km ⟨0,w,k,n,ls⟩:=⟨by simp,h2,h3,h4,h5,h6,h7,h8⟩;exact⟨q,hm⟩
 | 1,_ =>
  have hr:=Hg c ls (ld m (c.word p));refine⟨⟨?_,hw.2,⟨Nat.zero_le _,?_⟩,h4,λ_=>h5 (by simp),?_,?_,h8⟩,hm.tick⟩
  ·simp only[az];split<;>omega
  ·simp only[az];omega
  ·intro e
   simp only[az]at e ⊢
   split at e
   ·cases e
   ·omega
  ·intro _
   simp only[az];exact hr
 | 2,_ =>
  have k1:=h6 rfl;have k2:=h7 (.inl rfl);refine⟨⟨?_,h2,?_,h4,λ_=>h5 (by simp),?_,λ_=>k2,h8⟩,hm.put _ (OO (hel rfl).2)⟩
  ·simp only[az];split<;>omega
  ·simp only[az];omega
  ·intro e
   simp only[az]at e ⊢
   split at e
   ·cases e
   ·omega
 | 3,_ =>
  simp only[az]
  split
  ·exact⟨⟨by simp,h2,h3,by rw[List.length_drop];omega,λh=>absurd rfl h,λh=>(by cases h),λh=>(by rcases h with h | h<;>cases h),λg hg=>h8 g (List.mem_of_mem_drop hg)⟩,hm.put _ (qo h2 _)⟩
  ·exact⟨⟨by simp,h2,h3,h4,λ_=>h5 (by simp),λh=>(by cases h),λh=>(by rcases h with h | h<;>cases h),h8⟩,hm.tick⟩
def Ng(c:aU)(p bp:Nat)(x:gu)(lf:Value):aF:=aE bp [.int .i64 (c.n:Int),.int .i64 (c.q:Int),.int .i64 c.g,.int .i64 c.m,.int .i64 c.t,.int .i64 c.s,.int .i64 (p:Int),.int .i64 (x.st:Int),.int .u64 x.w,.int .u32 (x.k:Int),.int .u32 (x.n:Int),lf] 203
def ez(c:aU)(p bp:Nat)(x:gu):aF:=Dw (λlf:Value=>aT lf=true) (λlf=>Ge [Ng c p bp x lf,bJ lf x.ls])
section
variable{w:World}{F:Nat->Prop}{c:aU}{p:Nat}
theorem y9{bp:Nat}{x:gu}{ctx:dt}{l:List aF}(h:af ctx (ez c p bp x::l) w):∃ lf,aT lf=true/\af ctx (Ng c p bp x lf::bJ lf x.ls::l) w:=by
 obtain⟨lf,qp,hh⟩:=h.qD;exact⟨lf,qp,hh.open⟩
theorem fU{bp:Nat}{x:gu}{lf:Value}{ctx:dt}{l:List aF}(qp:aT lf=true)(h:af ctx (Ng c p bp x lf::bJ lf x.ls::l) w):af ctx (ez c p bp x::l) w :=
 af.r8 lf qp (af.shut h)
theorem uF(l:List Int)(n:Nat):(aX l).drop n=aX (l.drop n):=by simp[aX]
theorem Hh(hp:p<c.n){x:gu}(hx:km x)(h0:x.st≠0){m:bO}(hm:bY c m){bp bm:Nat}(h:cL [ez c p bp x,aN bm m] F w) :
  Calls prog 170 #[.pointer (some ⟨bp,0,none⟩),.pointer (some ⟨bm,0,none⟩)] w λe w'=>e=.returned (.bool (decide ((az c p x m).1.st=0)))/\af ⟨w,F⟩ [ez c p bp (az c p x m).1,aN bm (az c p x m).2] w':=by
 obtain⟨lf,qp,hh⟩:=y9 (af.start h);obtain⟨F',n1,n2,n3⟩:=(hh.sel [0,2,1]).ex;have hw:=hm.get (hm.fG hp);have hel:=hx.el;have hne:¬ ((x.ls.length:Nat):Int)=0:=by
  have:=hx.ne h0;intro e;exact this (List.eq_nil_of_length_eq_zero (by omega))
 have hle:=hx.le;obtain⟨st,ww,k,n,ls⟩:=x;dsimp only at hel hne hle
 let s:LP:=⟨w,F',c,p,hp,ww,hx.w,k,n,lf,qp,ls,bp,bm,m,hm.len,hx.b,hx.ls⟩
 have into:∀ {l:List aF} {w1:World},af ⟨w,F'⟩ l w1->af ⟨w,F⟩ l w1:=λhh=>hh.into (l:=[]) n2 n3
 match st,hx.st with
 | 0,_=>exact absurd rfl h0
 | 1,_ =>
  by_cases hr:ni c ls (ld m (c.word p))=0
  ·rw[show az c p ⟨1,ww,k,n,ls⟩ m=(⟨0,ld m (c.word p),0,ni c ls (ld m (c.word p)),ls⟩,m.tick) by simp only[az,if_pos hr]]
   exact bh (ST s _ hw.2 hw.1 hne (by show((ni c ls (ld m (c.word p)):Nat):Int)=0;omega)) (by kernel_rfl) n1 (by simp) (by simp[s]) (λκ w1 h1=>⟨rfl,fU qp ((into h1).sel [0,2,1])⟩)
  ·rw[show az c p ⟨1,ww,k,n,ls⟩ m=(⟨2,ld m (c.word p),0,ni c ls (ld m (c.word p)),ls⟩,m.tick) by simp only[az,if_neg hr]]
   exact bh (SU s _ hw.2 hw.1 hne (by show ¬ ((ni c ls (ld m (c.word p)):Nat):Int)=0;omega)) (by kernel_rfl) n1 (by simp) (by simp[s]) (λκ w1 h1=>⟨rfl,fU qp ((into h1).sel [0,2,1])⟩)
 | 2,_ =>
  have k1:=hx.two rfl;have k2:=hle (.inl rfl);dsimp only at k1;obtain⟨e1,e2⟩:=hel rfl;have hwr:IntKind.u32.wrap (cI ww+((k:Nat):Int))=(cI ww+(k:Int))%4294967296:=cy _;have ha:c.slot p (IntKind.u32.wrap (cI ww+((k:Nat):Int)))<m.cells.length:=hm.iP hp _
  by_cases hk:k+1=n
  ·rw[show az c p ⟨2,ww,k,n,ls⟩ m=(⟨3,ww,k+1,n,ls⟩,m.put (c.slot p ((cI ww+(k:Int))%4294967296)) (ls.getD k 0)) by simp only[az,if_pos hk]]
   rw[← hwr];exact bh (SV s k1 k2 _ e1 e2 ha hne (by show((k+1:Nat):Int)=((n:Nat):Int);omega)) (by kernel_rfl) n1 (by simp) (by simp[s]) (λκ w1 h1=>⟨rfl,fU qp ((into h1).sel [0,2,1])⟩)
  ·rw[show az c p ⟨2,ww,k,n,ls⟩ m=(⟨2,ww,k+1,n,ls⟩,m.put (c.slot p ((cI ww+(k:Int))%4294967296)) (ls.getD k 0)) by simp only[az,if_neg hk]]
   rw[← hwr];exact bh (SW s k1 k2 _ e1 e2 ha hne (by show ¬ ((k+1:Nat):Int)=((n:Nat):Int);omega)) (by kernel_rfl) n1 (by simp) (by simp[s]) (λκ w1 h1=>⟨rfl,fU qp ((into h1).sel [0,2,1])⟩)
 | 3,_ =>
  have k2:=hle (.inr rfl)
  by_cases hc:ld m (c.word p)=ww
  ·rw[show az c p ⟨3,ww,k,n,ls⟩ m=(⟨0,ww,k,n,ls.drop n⟩,m.put (c.word p) (dQ ww (n:Int))) by simp only[az,if_pos hc]]
   refine bh (SY s _ hw.2 hw.1 hc k2 hne) (by kernel_rfl) n1 (by simp) (by simp[s]) (λκ w1 h1=>⟨rfl,?_⟩);have h2:=((into h1).sel [2,0,1]).y7 (lo:=n) k2;have e1:bT 3 1 (Ev.cutV 1 lf n ls.length) (ls.length-n) ((aX ls).drop (n*1))=bJ (Ev.cutV 1 lf n ls.length) (ls.drop n):=by
    unfold bJ;rw[Nat.mul_one,uF,List.length_drop]
   rw[e1]at h2;exact fU (gJ qp) (h2.sel [1,0,2])
  ·rw[show az c p ⟨3,ww,k,n,ls⟩ m=(⟨1,ww,k,n,ls⟩,m.tick) by simp only[az,if_neg hc]]
   exact bh (SX s _ hw.2 hw.1 hc hne) (by kernel_rfl) n1 (by simp) (by simp[s]) (λκ w1 h1=>⟨rfl,fU qp ((into h1).sel [0,2,1])⟩)
theorem uG(hp:p<c.n){x:gu}(hxw:fv x.w)(hxb:x.k<=64/\x.n<=64)(hxl:x.ls.length<=64){m:bO}(hm:bY c m){bp:Nat}(h:cL [ez c p bp x] F w) :
  Calls prog 118 #[.pointer (some ⟨bp,0,none⟩)] w λe w'=>∃ v,aT v=true/\e=.returned v/\af ⟨w,F⟩ [bJ v x.ls,ez c p bp x] w':=by
 obtain⟨lf,qp,hh⟩:=y9 (af.start h);obtain⟨F',n1,n2,n3⟩:=hh.ex;obtain⟨st,ww,k,n,ls⟩:=x
 let s:LP:=⟨w,F',c,p,hp,ww,hxw,k,n,lf,qp,ls,bp,0,m,hm.len,hxb,hxl⟩
 have into:∀ {l:List aF} {w1:World},af ⟨w,F'⟩ l w1->af ⟨w,F⟩ l w1:=λhh=>hh.into (l:=[]) n2 n3
 refine bh (SZ s st) (by kernel_rfl) n1 (by simp) (by simp[s]) (λκ w1 h1=>?_);have h2:=(into h1).sel [1,0,2];have h3:af ⟨w,F⟩ [ez c p bp ⟨st,ww,k,n,ls⟩,bJ (Ev.dec ((κ 403).getD 0)) ls] w1:=fU qp (h2.sel [1,2,0]);exact⟨_,dm h2,rfl,h3.sel [1,0]⟩
end
end Go.Proofs.YtkmccgombmogmaaGreat
namespace Go.Proofs.YtkmccgombmogmaaGreat
open Go.Ev Go.Proofs.Tryz
open Go.RowKit
set_option maxRecDepth 8000
theorem Nh(m:Nat)(g:Int)(w:World):CallsIn Fence.wide m prog 176 #[.int .i64 g] w λe w'=>e=.returned (.bool (decide (g<0)))/\w'=w:=by
 refine callsIn_of_wp func176 rfl trivial ?_ rfl;simp only[ntmps176,List.size_toArray,List.length_cons,List.length_nil,Nat.reduceAdd,Nat.reduceSub,Array.replicate_succ,Array.replicate_zero,List.push_toArray,List.append_toArray,List.nil_append,List.cons_append]
 gi_wp2
 exact bodyPost_ret (results_tmp rfl _ _ _) rfl ⟨rfl,rfl⟩
abbrev Q0(f:FuncId):Value:=.func (.func f) #[] #[]
set_option maxHeartbeats 1000000 in
theorem Kg(m:Nat)(v:Value)(l:List Int)(w:World)(hl:iM 1 v l.length (aX l) w)(hg:∀ g ∈ l,0<=g)(hn:l.length<=1000):CallsIn Fence.wide m prog 177 #[v,Q0 176] w λe w'=>e=.returned (.int .i64 (-1))/\w'=w:=by
 refine callsIn_of_wp func177 rfl trivial ?_ rfl;simp only[ntmps177,List.size_toArray,List.length_cons,List.length_nil,Nat.reduceAdd,Nat.reduceSub,Array.replicate_succ,Array.replicate_zero,List.push_toArray,List.append_toArray,List.nil_append,List.cons_append];obtain⟨a0,c0,rfl⟩:∃ a c,v=.slice a l.length c:=by
  rcases hl.2 with ⟨e,a,c,rfl⟩ | ⟨b,off,c,rfl,_⟩
  ·exact⟨a,c,by rw[e]⟩
  ·exact⟨_,c,rfl⟩
 dsimp only[Q0]
 gi_wp2
 gi_loopw [8] (λp wr=>∃ k:Nat,p=.int .i64 (k:Int)/\k<=l.length/\wr=w) (λp _=>l.length-(intOf p).toNat)
 case atStart=>exact⟨0,rfl,Nat.zero_le _,by first | rfl | trivial⟩
 case round =>
  obtain⟨k,rfl,hk,hW⟩:=hrel;replace hW:=hW.symm;subst hW
  by_cases hlt:k<l.length
  ·have tU:(k:Int)<(l.length:Int):=by omega
   rcases hl.2 with ⟨e,_⟩ | ⟨b,off,c,hv,_,hc⟩
   ·omega
   cases hv;have hck:w.cell? ⟨b,off+k,none⟩=some (.int .i64 l[k]):=by
    rw[hc k (by omega)];simp[aX,hlt]
   have NK:=hg _ (List.getElem_mem hlt);obtain⟨x,hx⟩:∃ x,l[k]=x:=⟨_,rfl⟩;rw[hx]at hck NK;clear hc
   gi_wp2
   refine⟨trivial,λh=>by simp[Fence.wide]at h,(Nh (m-1) x w).mono ?_⟩;rintro e w2 ⟨rfl,rfl⟩;have hd:decide (x<0)=false:=by simpa using NK
   rw[hd]
   gi_wp2
   exact⟨⟨k+1,rfl,by omega,by first | rfl | trivial⟩,by simp[intOf];omega⟩
  ·obtain rfl:k=l.length:=by omega
   have tU:¬ ((l.length:Nat):Int)<(l.length:Int):=by omega
   gi_wp2
   exact bodyPost_ret (results_tmp rfl _ _ _) rfl ⟨rfl,rfl⟩
theorem Kh(m:Nat)(v:Value)(l:List Int)(w:World)(hl:iM 1 v l.length (aX l) w)(hg:∀ g ∈ l,0<=g)(hn:l.length<=1000):CallsIn Fence.wide m prog 175 #[v,Q0 176] w λe w'=>e=.returned v/\w'=w:=by
 refine callsIn_of_wp func175 rfl trivial ?_ rfl;simp only[ntmps175,List.size_toArray,List.length_cons,List.length_nil,Nat.reduceAdd,Nat.reduceSub,Array.replicate_succ,Array.replicate_zero,List.push_toArray,List.append_toArray,List.nil_append,List.cons_append]
 gi_wp2
 refine⟨trivial,λh=>by simp[Fence.wide]at h,(Kg (m-1) v l w hl hg hn).mono ?_⟩;rintro e w2 ⟨rfl,rfl⟩
 gi_wp2
 exact bodyPost_ret (results_tmp rfl _ _ _) rfl ⟨rfl,rfl⟩
theorem Ki{v:Value}{xs:List Int}{ctx:dt}{l:List aF}{w:World}(h:af ctx (bJ v xs::l) w):∃ cd,Ev.dec cd=v:=by
 obtain⟨f,hf⟩:=h.first
 rcases hf.2 with ⟨he,_⟩ | ⟨b,off,c,arr,rfl,_⟩
 ·rcases he with rfl | ⟨b,off,rfl⟩
  ·exact⟨_,nr⟩
  ·exact⟨_,mA _ _ _ _⟩
 ·exact⟨_,mA _ _ _ _⟩
end Go.Proofs.YtkmccgombmogmaaGreat
namespace Go.Proofs.YtkmccgombmogmaaGreat
open Go.Ev Go.Proofs.Tryz
open Go.RowKit
open Go.Ev (sy iz uz wz iN uN wN pz dv fc fn ak vk vd kn pc cc cr cm cd fr)
set_option maxRecDepth 8000
attribute [local irreducible] kA
theorem Te(W0:World)(F0:Nat->Prop)(c:aU)(p:Nat)(hp:p<c.n):cw prog 63 [] 0 15 ⟨W0,F0⟩ [(0,(.agg #[iN c.n,iN c.q,iz c.g,iz c.m,iz c.t,iz c.s])),(1,iN p)] [] (λκ:am=>(.agg #[iN c.n,iN c.q,iz c.g,iz c.m,iz c.t,iz c.s,iN p,iz 1,.int .u64 0,.int .u32 0])) (λκ:am=>[]):=(eP (c:=⟨W0,F0⟩) 6 (kn [iN (c.n),iN (c.q),iz (c.g),iz (c.m),iz (c.t),iz (c.s),iN (p),iN (c.word p)] fr [(.geq,sy 7,iz 0,.bool true)] [] [] (fc (λ_ _ _=>ft (by have q0:=c.z hp;first|(simp;done)|(simp;omega))) fn) fn fn W0 F0 [[]] [] [⟨40,[.agg #[sy 0,sy 1,sy 2,sy 3,sy 4,sy 5],sy 6],0,none,sy 7,none⟩]) fn (fc (pc rfl (λw hb=>cM c p hp w)) fn) rfl [] [] [] 0 rfl rfl [(0,.agg #[sy 0,sy 1,sy 2,sy 3,sy 4,sy 5]),(1,sy 6)] (.agg #[sy 0,sy 1,sy 2,sy 3,sy 4,sy 5,sy 6,iz 1,.int .u64 0,.int .u32 0]))
end Go.Proofs.YtkmccgombmogmaaGreat
