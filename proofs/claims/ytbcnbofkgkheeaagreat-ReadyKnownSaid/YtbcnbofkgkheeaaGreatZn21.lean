/- Part of a proof: see the last text. -/
import Derived.Test.YtbcnbofkgkheeaaGreatZn20
import Derived.Test.YtbcnbofkgkheeaaGreatZn19
set_option linter.unusedSimpArgs false
set_option linter.unusedVariables false
namespace Go.Proofs.YtbcnbofkgkheeaaGreat
open Go.Ev Go.Proofs.Tryz
open Go.RowKit
open Go.Ev (sy iz uz wz iN uN wN pz dv fc fn ak vk vd kn pc cc cr cm cd fr)
set_option maxRecDepth 8000
attribute [local irreducible] dL
structure GP where
 W0:World
 F0:Nat->Prop
 a0:Int
 a1:Int
 a2:Int
 a3:Int
 a4:Int
 a5:Int
 a6:Int
 nx:Int
 st:Nat
 was:Int
 g:Int
 pv:Value
 lV:ai pv=true
 bx:Nat
 bm:Nat
 hst:st<=3
abbrev OH:List dZ:=[(4,[sy 1,sy 2,sy 3,sy 4,sy 5,sy 6,sy 7,sy 8,.bool true,iz 0,sy 9,sy 0],77)]
abbrev f7:List (Nat×Value):=[(0,.pointer (some ⟨4,0,none⟩))]
abbrev ER(s:GP):List aC:=[aH s.bx [iz s.a0,iz s.a1,iz s.a2,iz s.a3,iz s.a4,iz s.a5,iz s.a6,uz s.nx,.bool true,iz 0,uz s.was,s.pv] 77]
abbrev rE:List dZ:=[(4,[sy 2,sy 3,sy 4,sy 5,sy 6,sy 7,sy 8,sy 9,.bool true,sy 1,sy 10,sy 0],77)]
abbrev OI(s:GP):List aC:=[aH s.bx [iz s.a0,iz s.a1,iz s.a2,iz s.a3,iz s.a4,iz s.a5,iz s.a6,uz s.nx,.bool true,iN s.st,uz s.was,s.pv] 77]
abbrev wm:List dZ:=[(4,[sy 1,sy 2,sy 3,sy 4,sy 5,sy 6,sy 7,sy 8,.bool true,sy 0,sy 9,.pointer none],77)]
abbrev qI(s:GP):List aC:=[aH s.bx [iz s.a0,iz s.a1,iz s.a2,iz s.a3,iz s.a4,iz s.a5,iz s.a6,uz s.nx,.bool true,iN s.st,uz s.was,(.pointer none)] 77]
abbrev Dd(s:GP)(bp:Nat):aC:=aH s.bx [iz s.a0,iz s.a1,iz s.a2,iz s.a3,iz s.a4,iz s.a5,iz s.a6,uz s.nx,.bool true,iN s.st,uz s.was,pz bp] 77
abbrev ye(s:GP)(c:aT)(p:Nat)(bp:Nat)(x:cU):List aC:=[(Dd s bp),cz c p bp x]
abbrev JH:List dZ:=[(4,[sy 2,sy 3,sy 4,sy 5,sy 6,sy 7,sy 8,sy 9,.bool true,iz 0,sy 10,sy 0],77)]
abbrev yf:List dZ:=[(4,[sy 1,sy 2,sy 3,sy 4,sy 5,sy 6,sy 7,sy 8,.bool false,iz 0,sy 9,sy 0,sy 10],75)]
abbrev yg(s:GP):List aC:=[aH s.bx [iz s.a0,iz s.a1,iz s.a2,iz s.a3,iz s.a4,iz s.a5,iz s.a6,uz s.nx,.bool false,iz 0,uz s.was,s.pv,iz s.g] 75]
abbrev qJ:List dZ:=[(4,[sy 2,sy 3,sy 4,sy 5,sy 6,sy 7,sy 8,sy 9,.bool false,sy 1,sy 10,sy 0,sy 11],75)]
abbrev JI(s:GP):List aC:=[aH s.bx [iz s.a0,iz s.a1,iz s.a2,iz s.a3,iz s.a4,iz s.a5,iz s.a6,uz s.nx,.bool false,iN s.st,uz s.was,s.pv,iz s.g] 75]
abbrev yh:List dZ:=[(4,[sy 1,sy 2,sy 3,sy 4,sy 5,sy 6,sy 7,sy 8,.bool false,sy 0,sy 9,.pointer none,sy 10],75)]
abbrev yj(s:GP):List aC:=[aH s.bx [iz s.a0,iz s.a1,iz s.a2,iz s.a3,iz s.a4,iz s.a5,iz s.a6,uz s.nx,.bool false,iN s.st,uz s.was,(.pointer none),iz s.g] 75]
abbrev JJ(s:GP)(bp:Nat):aC:=aH s.bx [iz s.a0,iz s.a1,iz s.a2,iz s.a3,iz s.a4,iz s.a5,iz s.a6,uz s.nx,.bool false,iN s.st,uz s.was,pz bp,iz s.g] 75
abbrev De(s:GP)(c:aT)(p:Nat)(bp:Nat)(x:cU):List aC:=[(JJ s bp),cz c p bp x]
abbrev JK:List dZ:=[(4,[sy 0,sy 1,sy 2,sy 3,sy 4,sy 5,sy 6,sy 7,.bool false,iz 0,sy 8,.pointer none,sy 9],75)]
abbrev JL(s:GP):List aC:=[aH s.bx [iz s.a0,iz s.a1,iz s.a2,iz s.a3,iz s.a4,iz s.a5,iz s.a6,uz s.nx,.bool false,iz 0,uz s.was,(.pointer none),iz s.g] 75]
abbrev JM(s:GP):aC:=aH s.bx [iz s.a0,iz s.a1,iz s.a2,iz s.a3,iz s.a4,iz s.a5,iz s.a6,uz s.nx,.bool false,iz 1,uz s.was,(.pointer none),iz s.g] 75
abbrev JN(s:GP):aC:=aH s.bx [iz s.a0,iz s.a1,iz s.a2,iz s.a3,iz s.a4,iz s.a5,iz s.a6,uz s.nx,.bool false,iz 2,uz s.was,(.pointer none),iz s.g] 75
abbrev JO:List dZ:=[(4,[sy 1,sy 2,sy 3,sy 4,sy 5,sy 6,sy 7,sy 8,.bool false,iz 3,sy 9,sy 0,sy 10],75)]
abbrev JP(s:GP)(bp:Nat):aC:=aH s.bx [iz s.a0,iz s.a1,iz s.a2,iz s.a3,iz s.a4,iz s.a5,iz s.a6,uz s.nx,.bool false,iz 3,uz s.was,pz bp,iz s.g] 75
abbrev JQ(s:GP)(bp:Nat):aC:=aH s.bx [iz s.a0,iz s.a1,iz s.a2,iz s.a3,iz s.a4,iz s.a5,iz s.a6,uz s.nx,.bool false,iz 0,uz s.was,pz bp,iz s.g] 75
abbrev JR:List dZ:=[(4,[sy 2,sy 3,sy 4,sy 5,sy 6,sy 7,sy 8,sy 9,.bool false,iz 0,sy 10,sy 0,sy 11],75)]
theorem VS(s:GP):aK prog 120 [] 0 13 ⟨s.W0,s.F0⟩ [(0,pz s.bx)] (ER s) (λκ:ag=>(.bool true)) (λκ:ag=>(ER s)):=(bU (c:=⟨s.W0,s.F0⟩) 3 (kn [s.pv,iz (s.a0),iz (s.a1),iz (s.a2),iz (s.a3),iz (s.a4),iz (s.a5),iz (s.a6),uz (s.nx),uz (s.was)] (fc s.lV fr) [] [] [] fn fn fn s.W0 s.F0 [[]] [] []) fn fn rfl [(4,s.bx)] OH OH 0 rfl rfl f7 (.bool true))
theorem Xd(s:GP)(h0:s.st≠0):aK prog 120 [] 0 13 ⟨s.W0,s.F0⟩ [(0,pz s.bx)] (OI s) (λκ:ag=>(.bool false)) (λκ:ag=>(OI s)):=(bU (c:=⟨s.W0,s.F0⟩) 3 (kn [s.pv,iN (s.st),iz (s.a0),iz (s.a1),iz (s.a2),iz (s.a3),iz (s.a4),iz (s.a5),iz (s.a6),uz (s.nx),uz (s.was)] (fc s.lV fr) [(.eql,sy 1,iz 0,.bool false)] [] [] (fc (λ_ _ _=>aM (by have q1:=s.hst;first|(simp;done)|(simp;omega))) fn) fn fn s.W0 s.F0 [[]] [] []) fn fn rfl [(4,s.bx)] rE rE 0 rfl rfl f7 (.bool false))
theorem VT(s:GP):aK prog 122 [] 0 11 ⟨s.W0,s.F0⟩ [(0,pz s.bx)] (qI s) (λκ:ag=>(.bool false)) (λκ:ag=>(qI s)):=(bU (c:=⟨s.W0,s.F0⟩) 3 (kn [iN (s.st),iz (s.a0),iz (s.a1),iz (s.a2),iz (s.a3),iz (s.a4),iz (s.a5),iz (s.a6),uz (s.nx),uz (s.was)] fr [] [] [] fn fn fn s.W0 s.F0 [[]] [] []) fn fn rfl [(4,s.bx)] wm wm 0 rfl rfl f7 (.bool false))
theorem Xe(s:GP)(c:aT)(p:Nat)(hp:p<c.n)(bp:Nat)(x:cU)(hx:eC c x):aK prog 122 [] 0 11 ⟨s.W0,s.F0⟩ [(0,pz s.bx)] (ye s c p bp x) (λκ:ag=>(.bool true)) (λκ:ag=>(ye s c p bp x)):=(bU (c:=⟨s.W0,s.F0⟩) 3 (kn [pz bp,iN (s.st),iz (s.a0),iz (s.a1),iz (s.a2),iz (s.a3),iz (s.a4),iz (s.a5),iz (s.a6),uz (s.nx),uz (s.was)] fr [] [] [] fn fn fn s.W0 s.F0 [[cz c p bp x]] [⟨[21,71],[sy 0,.pointer none],none,0,none,.bool true,none⟩] []) (fc (lu rfl (by kernel_rfl)) fn) fn rfl [(4,s.bx)] rE rE 0 rfl rfl f7 (.bool true))
theorem VU(s:GP):aK prog 123 [] 0 12 ⟨s.W0,s.F0⟩ [(0,pz s.bx)] (qI s) (λκ:ag=>(.slice none 0 0)) (λκ:ag=>(qI s)):=(bU (c:=⟨s.W0,s.F0⟩) 5 (kn [iN (s.st),iz (s.a0),iz (s.a1),iz (s.a2),iz (s.a3),iz (s.a4),iz (s.a5),iz (s.a6),uz (s.nx),uz (s.was)] fr [] [] [] fn fn fn s.W0 s.F0 [[]] [] []) fn fn rfl [(4,s.bx)] wm wm 0 rfl rfl f7 (.slice none 0 0))
theorem Xf(s:GP)(c:aT)(p:Nat)(hp:p<c.n)(bp:Nat)(x:cU)(hx:eC c x):aK prog 123 [] 0 12 ⟨s.W0,s.F0⟩ [(0,pz s.bx)] (ye s c p bp x) (λκ:ag=>(dv κ 403)) (λκ:ag=>[(Dd s bp),aw (dv κ 403) (if x.st=0 then x.hs else []),cz c p bp x]):=(bU (c:=⟨s.W0,s.F0⟩) 5 (kn [pz bp,iN (s.st),iz (s.a0),iz (s.a1),iz (s.a2),iz (s.a3),iz (s.a4),iz (s.a5),iz (s.a6),uz (s.nx),uz (s.was)] fr [] [] [] fn fn fn s.W0 s.F0 [[cz c p bp x],[bP 403 (λv=>aw v (if x.st=0 then x.hs else [])),bP 403 (λv=>cz c p bp x)]] [⟨[21,71],[sy 0,.pointer none],none,0,none,.bool true,none⟩] [⟨54,[sy 0],0,some 403,.complex .f32 403 0,some 1⟩]) (fc (lu rfl (by kernel_rfl)) fn) (fc (cd rfl [λv=>aw v (if x.st=0 then x.hs else []),λv=>cz c p bp x] [0] [] (λw F ho hn hF=>Bw hp hx hn)) fn) rfl [(4,s.bx)] rE rE 1 rfl rfl f7 (.complex .f32 403 0)).conv (λκ w=>⟨(λ_ h=>h),(λ_ h=>aS (a:=λv=>aw v (if x.st=0 then x.hs else [])) (λ_ _ _ _ _ h=>h) h),(λ_ h=>aS (a:=λv=>cz c p bp x) (λ_ _ _ _ _ h=>h) h),trivial⟩)
theorem VW(s:GP):aK prog 121 [] 0 12 ⟨s.W0,s.F0⟩ [(0,pz s.bx)] (qI s) (λκ:ag=>(.slice none 0 0)) (λκ:ag=>(qI s)):=(bU (c:=⟨s.W0,s.F0⟩) 5 (kn [iN (s.st),iz (s.a0),iz (s.a1),iz (s.a2),iz (s.a3),iz (s.a4),iz (s.a5),iz (s.a6),uz (s.nx),uz (s.was)] fr [] [] [] fn fn fn s.W0 s.F0 [[]] [] []) fn fn rfl [(4,s.bx)] wm wm 0 rfl rfl f7 (.slice none 0 0))
theorem Xg(s:GP)(c:aT)(p:Nat)(hp:p<c.n)(bp:Nat)(x:cU)(hx:eC c x):aK prog 121 [] 0 12 ⟨s.W0,s.F0⟩ [(0,pz s.bx)] (ye s c p bp x) (λκ:ag=>(dv κ 403)) (λκ:ag=>[(Dd s bp),aw (dv κ 403) x.hs,cz c p bp x]):=(bU (c:=⟨s.W0,s.F0⟩) 5 (kn [pz bp,iN (s.st),iz (s.a0),iz (s.a1),iz (s.a2),iz (s.a3),iz (s.a4),iz (s.a5),iz (s.a6),uz (s.nx),uz (s.was)] fr [] [] [] fn fn fn s.W0 s.F0 [[cz c p bp x],[bP 403 (λv=>aw v x.hs),bP 403 (λv=>cz c p bp x)]] [⟨[21,71],[sy 0,.pointer none],none,0,none,.bool true,none⟩] [⟨93,[sy 0],0,some 403,.complex .f32 403 0,some 1⟩]) (fc (lu rfl (by kernel_rfl)) fn) (fc (cd rfl [λv=>aw v x.hs,λv=>cz c p bp x] [0] [] (λw F ho hn hF=>qG hp hx hn)) fn) rfl [(4,s.bx)] rE rE 1 rfl rfl f7 (.complex .f32 403 0)).conv (λκ w=>⟨(λ_ h=>h),(λ_ h=>aS (a:=λv=>aw v x.hs) (λ_ _ _ _ _ h=>h) h),(λ_ h=>aS (a:=λv=>cz c p bp x) (λ_ _ _ _ _ h=>h) h),trivial⟩)
theorem VX(s:GP):aK prog 124 [] 0 14 ⟨s.W0,s.F0⟩ [(0,pz s.bx),(1,pz s.bm)] (ER s) (λκ:ag=>(.bool true)) (λκ:ag=>(ER s)):=(bU (c:=⟨s.W0,s.F0⟩) 3 (kn [s.pv,pz s.bm,iz (s.a0),iz (s.a1),iz (s.a2),iz (s.a3),iz (s.a4),iz (s.a5),iz (s.a6),uz (s.nx),uz (s.was)] (fc s.lV fr) [] [] [] fn fn fn s.W0 s.F0 [[]] [] []) fn fn rfl [(4,s.bx)] JH JH 0 rfl rfl [(0,.pointer (some ⟨4,0,none⟩)),(1,sy 1)] (.bool true))
theorem VY(s:GP):aK prog 90 [] 0 13 ⟨s.W0,s.F0⟩ [(0,pz s.bx)] (yg s) (λκ:ag=>(.bool true)) (λκ:ag=>(yg s)):=(bU (c:=⟨s.W0,s.F0⟩) 3 (kn [s.pv,iz (s.a0),iz (s.a1),iz (s.a2),iz (s.a3),iz (s.a4),iz (s.a5),iz (s.a6),uz (s.nx),uz (s.was),iz (s.g)] (fc s.lV fr) [] [] [] fn fn fn s.W0 s.F0 [[]] [] []) fn fn rfl [(4,s.bx)] yf yf 0 rfl rfl f7 (.bool true))
theorem Xh(s:GP)(h0:s.st≠0):aK prog 90 [] 0 13 ⟨s.W0,s.F0⟩ [(0,pz s.bx)] (JI s) (λκ:ag=>(.bool false)) (λκ:ag=>(JI s)):=(bU (c:=⟨s.W0,s.F0⟩) 3 (kn [s.pv,iN (s.st),iz (s.a0),iz (s.a1),iz (s.a2),iz (s.a3),iz (s.a4),iz (s.a5),iz (s.a6),uz (s.nx),uz (s.was),iz (s.g)] (fc s.lV fr) [(.eql,sy 1,iz 0,.bool false)] [] [] (fc (λ_ _ _=>aM (by have q1:=s.hst;first|(simp;done)|(simp;omega))) fn) fn fn s.W0 s.F0 [[]] [] []) fn fn rfl [(4,s.bx)] qJ qJ 0 rfl rfl f7 (.bool false))
theorem VZ(s:GP):aK prog 53 [] 0 11 ⟨s.W0,s.F0⟩ [(0,pz s.bx)] (yj s) (λκ:ag=>(.bool false)) (λκ:ag=>(yj s)):=(bU (c:=⟨s.W0,s.F0⟩) 3 (kn [iN (s.st),iz (s.a0),iz (s.a1),iz (s.a2),iz (s.a3),iz (s.a4),iz (s.a5),iz (s.a6),uz (s.nx),uz (s.was),iz (s.g)] fr [] [] [] fn fn fn s.W0 s.F0 [[]] [] []) fn fn rfl [(4,s.bx)] yh yh 0 rfl rfl f7 (.bool false))
theorem Xi(s:GP)(c:aT)(p:Nat)(hp:p<c.n)(bp:Nat)(x:cU)(hx:eC c x):aK prog 53 [] 0 11 ⟨s.W0,s.F0⟩ [(0,pz s.bx)] (De s c p bp x) (λκ:ag=>(.bool true)) (λκ:ag=>(De s c p bp x)):=(bU (c:=⟨s.W0,s.F0⟩) 3 (kn [pz bp,iN (s.st),iz (s.a0),iz (s.a1),iz (s.a2),iz (s.a3),iz (s.a4),iz (s.a5),iz (s.a6),uz (s.nx),uz (s.was),iz (s.g)] fr [] [] [] fn fn fn s.W0 s.F0 [[cz c p bp x]] [⟨[21,71],[sy 0,.pointer none],none,0,none,.bool true,none⟩] []) (fc (lu rfl (by kernel_rfl)) fn) fn rfl [(4,s.bx)] qJ qJ 0 rfl rfl f7 (.bool true))
theorem V0(s:GP):aK prog 33 [] 0 12 ⟨s.W0,s.F0⟩ [(0,pz s.bx)] (yj s) (λκ:ag=>(.slice none 0 0)) (λκ:ag=>(yj s)):=(bU (c:=⟨s.W0,s.F0⟩) 5 (kn [iN (s.st),iz (s.a0),iz (s.a1),iz (s.a2),iz (s.a3),iz (s.a4),iz (s.a5),iz (s.a6),uz (s.nx),uz (s.was),iz (s.g)] fr [] [] [] fn fn fn s.W0 s.F0 [[]] [] []) fn fn rfl [(4,s.bx)] yh yh 0 rfl rfl f7 (.slice none 0 0))
theorem Xj(s:GP)(c:aT)(p:Nat)(hp:p<c.n)(bp:Nat)(x:cU)(hx:eC c x):aK prog 33 [] 0 12 ⟨s.W0,s.F0⟩ [(0,pz s.bx)] (De s c p bp x) (λκ:ag=>(dv κ 403)) (λκ:ag=>[(JJ s bp),aw (dv κ 403) (if x.st=0 then x.hs else []),cz c p bp x]):=(bU (c:=⟨s.W0,s.F0⟩) 5 (kn [pz bp,iN (s.st),iz (s.a0),iz (s.a1),iz (s.a2),iz (s.a3),iz (s.a4),iz (s.a5),iz (s.a6),uz (s.nx),uz (s.was),iz (s.g)] fr [] [] [] fn fn fn s.W0 s.F0 [[cz c p bp x],[bP 403 (λv=>aw v (if x.st=0 then x.hs else [])),bP 403 (λv=>cz c p bp x)]] [⟨[21,71],[sy 0,.pointer none],none,0,none,.bool true,none⟩] [⟨54,[sy 0],0,some 403,.complex .f32 403 0,some 1⟩]) (fc (lu rfl (by kernel_rfl)) fn) (fc (cd rfl [λv=>aw v (if x.st=0 then x.hs else []),λv=>cz c p bp x] [0] [] (λw F ho hn hF=>Bw hp hx hn)) fn) rfl [(4,s.bx)] qJ qJ 1 rfl rfl f7 (.complex .f32 403 0)).conv (λκ w=>⟨(λ_ h=>h),(λ_ h=>aS (a:=λv=>aw v (if x.st=0 then x.hs else [])) (λ_ _ _ _ _ h=>h) h),(λ_ h=>aS (a:=λv=>cz c p bp x) (λ_ _ _ _ _ h=>h) h),trivial⟩)
theorem V1(s:GP):aK prog 91 [] 0 37 ⟨s.W0,s.F0⟩ [(0,pz s.bx)] (JL s) (λκ:ag=>(.slice none 0 0)) (λκ:ag=>(JL s)):=(bU (c:=⟨s.W0,s.F0⟩) 4 (kn [iz (s.a0),iz (s.a1),iz (s.a2),iz (s.a3),iz (s.a4),iz (s.a5),iz (s.a6),uz (s.nx),uz (s.was),iz (s.g)] fr [] [] [] fn fn fn s.W0 s.F0 [[]] [] []) fn fn rfl [(4,s.bx)] JK JK 0 rfl rfl f7 (.slice none 0 0))
theorem Xk(s:GP):aK prog 91 [] 0 37 ⟨s.W0,s.F0⟩ [(0,pz s.bx)] [JM s] (λκ:ag=>(.slice (some ⟨((κ 400).getD 0),0,none⟩) 1 1)) (λκ:ag=>[JM s,aH ((κ 400).getD 0) [iz s.g] 3]):=(bU (c:=⟨s.W0,s.F0⟩) 4 (kn [iz (s.a0),iz (s.a1),iz (s.a2),iz (s.a3),iz (s.a4),iz (s.a5),iz (s.a6),uz (s.nx),uz (s.was),iz (s.g)] fr [] [] [] fn fn fn s.W0 s.F0 [[]] [] []) fn fn rfl [(4,s.bx)] [(4,[sy 0,sy 1,sy 2,sy 3,sy 4,sy 5,sy 6,sy 7,.bool false,iz 1,sy 8,.pointer none,sy 9],75)] [(4,[sy 0,sy 1,sy 2,sy 3,sy 4,sy 5,sy 6,sy 7,.bool false,iz 1,sy 8,.pointer none,sy 9],75),(400,[sy 9],3)] 0 rfl rfl f7 (.slice (some ⟨400,0,none⟩) 1 1))
theorem Xl(s:GP):aK prog 91 [] 0 37 ⟨s.W0,s.F0⟩ [(0,pz s.bx)] [JN s] (λκ:ag=>(.slice (some ⟨((κ 400).getD 0),0,none⟩) 1 1)) (λκ:ag=>[JN s,aH ((κ 400).getD 0) [iz s.g] 3]):=(bU (c:=⟨s.W0,s.F0⟩) 4 (kn [iz (s.a0),iz (s.a1),iz (s.a2),iz (s.a3),iz (s.a4),iz (s.a5),iz (s.a6),uz (s.nx),uz (s.was),iz (s.g)] fr [] [] [] fn fn fn s.W0 s.F0 [[]] [] []) fn fn rfl [(4,s.bx)] [(4,[sy 0,sy 1,sy 2,sy 3,sy 4,sy 5,sy 6,sy 7,.bool false,iz 2,sy 8,.pointer none,sy 9],75)] [(4,[sy 0,sy 1,sy 2,sy 3,sy 4,sy 5,sy 6,sy 7,.bool false,iz 2,sy 8,.pointer none,sy 9],75),(400,[sy 9],3)] 0 rfl rfl f7 (.slice (some ⟨400,0,none⟩) 1 1))
theorem Xm(s:GP)(c:aT)(p:Nat)(hp:p<c.n)(bp:Nat)(x:cU)(hx:eC c x):aK prog 91 [] 0 37 ⟨s.W0,s.F0⟩ [(0,pz s.bx)] [(JP s bp),cz c p bp x] (λκ:ag=>(dv κ 403)) (λκ:ag=>[(JP s bp),aw (dv κ 403) x.hs,cz c p bp x]):=(bU (c:=⟨s.W0,s.F0⟩) 4 (kn [pz bp,iz (s.a0),iz (s.a1),iz (s.a2),iz (s.a3),iz (s.a4),iz (s.a5),iz (s.a6),uz (s.nx),uz (s.was),iz (s.g)] fr [] [] [] fn fn fn s.W0 s.F0 [[cz c p bp x],[bP 403 (λv=>aw v x.hs),bP 403 (λv=>cz c p bp x)]] [⟨[21,71],[sy 0,.pointer none],none,0,none,.bool true,none⟩] [⟨93,[sy 0],0,some 403,.complex .f32 403 0,some 1⟩]) (fc (lu rfl (by kernel_rfl)) fn) (fc (cd rfl [λv=>aw v x.hs,λv=>cz c p bp x] [0] [] (λw F ho hn hF=>qG hp hx hn)) fn) rfl [(4,s.bx)] JO JO 1 rfl rfl f7 (.complex .f32 403 0)).conv (λκ w=>⟨(λ_ h=>h),(λ_ h=>aS (a:=λv=>aw v x.hs) (λ_ _ _ _ _ h=>h) h),(λ_ h=>aS (a:=λv=>cz c p bp x) (λ_ _ _ _ _ h=>h) h),trivial⟩)
theorem Xn(s:GP)(c:aT)(p:Nat)(hp:p<c.n)(bp:Nat)(x:cU)(hx:eC c x):aK prog 91 [] 0 37 ⟨s.W0,s.F0⟩ [(0,pz s.bx)] [(JQ s bp),cz c p bp x] (λκ:ag=>(dv κ 403)) (λκ:ag=>[(JQ s bp),aw (dv κ 403) x.hs,cz c p bp x]):=(bU (c:=⟨s.W0,s.F0⟩) 4 (kn [pz bp,iz (s.a0),iz (s.a1),iz (s.a2),iz (s.a3),iz (s.a4),iz (s.a5),iz (s.a6),uz (s.nx),uz (s.was),iz (s.g)] fr [] [] [] fn fn fn s.W0 s.F0 [[cz c p bp x],[bP 403 (λv=>aw v x.hs),bP 403 (λv=>cz c p bp x)]] [⟨[21,71],[sy 0,.pointer none],none,0,none,.bool true,none⟩] [⟨93,[sy 0],0,some 403,.complex .f32 403 0,some 1⟩]) (fc (lu rfl (by kernel_rfl)) fn) (fc (cd rfl [λv=>aw v x.hs,λv=>cz c p bp x] [0] [] (λw F ho hn hF=>qG hp hx hn)) fn) rfl [(4,s.bx)] yf yf 1 rfl rfl f7 (.complex .f32 403 0)).conv (λκ w=>⟨(λ_ h=>h),(λ_ h=>aS (a:=λv=>aw v x.hs) (λ_ _ _ _ _ h=>h) h),(λ_ h=>aS (a:=λv=>cz c p bp x) (λ_ _ _ _ _ h=>h) h),trivial⟩)
theorem V2(s:GP):aK prog 92 [] 0 14 ⟨s.W0,s.F0⟩ [(0,pz s.bx),(1,pz s.bm)] (yg s) (λκ:ag=>(.bool true)) (λκ:ag=>(yg s)):=(bU (c:=⟨s.W0,s.F0⟩) 3 (kn [s.pv,pz s.bm,iz (s.a0),iz (s.a1),iz (s.a2),iz (s.a3),iz (s.a4),iz (s.a5),iz (s.a6),uz (s.nx),uz (s.was),iz (s.g)] (fc s.lV fr) [] [] [] fn fn fn s.W0 s.F0 [[]] [] []) fn fn rfl [(4,s.bx)] JR JR 0 rfl rfl [(0,.pointer (some ⟨4,0,none⟩)),(1,sy 1)] (.bool true))
end Go.Proofs.YtbcnbofkgkheeaaGreat
namespace Go.Proofs.YtbcnbofkgkheeaaGreat
open Go.Ev Go.Proofs.Tryz
open Go.RowKit
open Go.Ev (sy)
set_option maxRecDepth 8000
theorem pI{c:aT}{p bx:Nat}{k:aI}{ctx:fQ}{l:List aC}{w:World}(h:ah ctx (dt c p bx k::l) w) :
  ∃ pv,ai pv=true/\∃ rest,ah ctx (aH bx (jO c p k pv) (fC k.aJ)::(rest++l)) w/\∀ w',ah ctx (aH bx (jO c p k pv) (fC k.aJ)::(rest++l)) w'->ah ctx (dt c p bx k::l) w':=by
 cases hp:k.put with
 | none=>exact⟨.pointer none,rfl,[],dc hp h,λw' h'=>cG hp h'⟩
 | some x =>
  obtain⟨bp,hh⟩:=eH hp h;exact⟨.pointer (some ⟨bp,0,none⟩),rfl,[cz c p bp x],hh,λw' h'=>cH hp h'⟩
section
variable{w:World}{F:Nat->Prop}{c:aT}{p:Nat}{k:aI}{bx:Nat}
theorem Bz(hd:k.aJ=true)(hk:eM c k)(h:bI [dt c p bx k] F w) :
  Calls prog 120 #[.pointer (some ⟨bx,0,none⟩)] w λe w'=>e=.returned (.bool (decide (k.st=0)))/\ah ⟨w,F⟩ [dt c p bx k] w':=by
 obtain⟨pv,lV,rest,hh,hback⟩:=pI (ah.start h);obtain⟨F',n1,n2,n3⟩:=hh.ex;obtain⟨F1,F2,k1,k2,k3,k4⟩:=cy (l:=[aH bx (jO c p k pv) (fC k.aJ)]) n1;have fin:∀ w1,ah ⟨w,F1⟩ [aH bx (jO c p k pv) (fC k.aJ)] w1->ah ⟨w,F⟩ [dt c p bx k] w1:=λw1 h1=>hback w1 ((h1.frame k2 k3).into (l:=[]) n2 (λj hj=>n3 j ((k4 j).2 hj)))
 obtain⟨aJ,gg,st,was,put⟩:=k;have hd':aJ=true:=hd;subst hd'
 by_cases h0:st=0
 ·subst h0
  exact aB (VS ⟨w,F1,c.n,c.q,c.g,c.m,c.t,c.s,p,aI.nx ⟨true,gg,0,was,put⟩,0,was,gg,pv,lV,bx,0,hk.st⟩) (by kernel_rfl) k1 (by simp) (by simp) (λκ w1 h1=>⟨rfl,fin w1 h1⟩)
 ·exact aB (Xd ⟨w,F1,c.n,c.q,c.g,c.m,c.t,c.s,p,aI.nx ⟨true,gg,st,was,put⟩,st,was,gg,pv,lV,bx,0,hk.st⟩ h0) (by kernel_rfl) k1 (by simp) (by simp) (λκ w1 h1=>⟨by rw[decide_eq_false h0],fin w1 h1⟩)
end
section
variable{w:World}{F:Nat->Prop}{c:aT}{p:Nat}{k:aI}{bx:Nat}
theorem Df(hd:k.aJ=false)(hk:eM c k)(h:bI [dt c p bx k] F w) :
  Calls prog 90 #[.pointer (some ⟨bx,0,none⟩)] w λe w'=>e=.returned (.bool (decide (k.st=0)))/\ah ⟨w,F⟩ [dt c p bx k] w':=by
 obtain⟨pv,lV,rest,hh,hback⟩:=pI (ah.start h);obtain⟨F',n1,n2,n3⟩:=hh.ex;obtain⟨F1,F2,k1,k2,k3,k4⟩:=cy (l:=[aH bx (jO c p k pv) (fC k.aJ)]) n1;have fin:∀ w1,ah ⟨w,F1⟩ [aH bx (jO c p k pv) (fC k.aJ)] w1->ah ⟨w,F⟩ [dt c p bx k] w1:=λw1 h1=>hback w1 ((h1.frame k2 k3).into (l:=[]) n2 (λj hj=>n3 j ((k4 j).2 hj)))
 obtain⟨aJ,gg,st,was,put⟩:=k;have hd':aJ=false:=hd;subst hd'
 by_cases h0:st=0
 ·subst h0
  exact aB (VY ⟨w,F1,c.n,c.q,c.g,c.m,c.t,c.s,p,aI.nx ⟨false,gg,0,was,put⟩,0,was,gg,pv,lV,bx,0,hk.st⟩) (by kernel_rfl) k1 (by simp) (by simp) (λκ w1 h1=>⟨rfl,fin w1 h1⟩)
 ·exact aB (Xh ⟨w,F1,c.n,c.q,c.g,c.m,c.t,c.s,p,aI.nx ⟨false,gg,st,was,put⟩,st,was,gg,pv,lV,bx,0,hk.st⟩ h0) (by kernel_rfl) k1 (by simp) (by simp) (λκ w1 h1=>⟨by rw[decide_eq_false h0],fin w1 h1⟩)
end
section
variable{w:World}{F:Nat->Prop}{c:aT}{p:Nat}{k:aI}{bx:Nat}
theorem vA(hp:p<c.n)(hd:k.aJ=true)(hk:eM c k)(h:bI [dt c p bx k] F w) :
  Calls prog 122 #[.pointer (some ⟨bx,0,none⟩)] w λe w'=>e=.returned (.bool k.put.isSome)/\ah ⟨w,F⟩ [dt c p bx k] w':=by
 obtain⟨aJ,gg,st,was,put⟩:=k;have hd':aJ=true:=hd;subst hd';cases put with
 | none =>
  obtain⟨F',n1,n2,n3⟩:=(dc rfl (ah.start h)).ex;exact aB (VT ⟨w,F',c.n,c.q,c.g,c.m,c.t,c.s,p,aI.nx ⟨true,gg,st,was,none⟩,st,was,gg,.pointer none,rfl,bx,0,hk.st⟩) (by kernel_rfl) n1 (by simp) (by simp) (λκ w1 h1=>⟨rfl,cG (k:=⟨true,gg,st,was,none⟩) rfl (h1.into (l:=[]) n2 n3)⟩)
 | some x =>
  obtain⟨bp,hh⟩:=eH rfl (ah.start h);obtain⟨F',n1,n2,n3⟩:=hh.ex;exact aB (Xe ⟨w,F',c.n,c.q,c.g,c.m,c.t,c.s,p,aI.nx ⟨true,gg,st,was,some x⟩,st,was,gg,.pointer none,rfl,bx,0,hk.st⟩ c p hp bp x (hk.put x rfl)) (by kernel_rfl) n1 (by simp) (by simp) (λκ w1 h1=>⟨rfl,cH (k:=⟨true,gg,st,was,some x⟩) rfl (h1.into (l:=[]) n2 n3)⟩)
theorem BA(hp:p<c.n)(hd:k.aJ=true)(hk:eM c k)(h:bI [dt c p bx k] F w) :
  Calls prog 123 #[.pointer (some ⟨bx,0,none⟩)] w λe w'=>∃ v cd,Ev.dec cd=v/\e=.returned v/\ah ⟨w,F⟩ [aw v k.over,dt c p bx k] w':=by
 obtain⟨aJ,gg,st,was,put⟩:=k;have hd':aJ=true:=hd;subst hd';cases put with
 | none =>
  obtain⟨F',n1,n2,n3⟩:=(dc rfl (ah.start h)).ex;exact aB (VU ⟨w,F',c.n,c.q,c.g,c.m,c.t,c.s,p,aI.nx ⟨true,gg,st,was,none⟩,st,was,gg,.pointer none,rfl,bx,0,hk.st⟩) (by kernel_rfl) n1 (by simp) (by simp) (λκ w1 h1=>⟨_,_,cX,rfl,(cG (k:=⟨true,gg,st,was,none⟩) rfl (h1.into (l:=[]) n2 n3)).cJ (e := 3) (sz:=1)⟩)
 | some x =>
  obtain⟨bp,hh⟩:=eH rfl (ah.start h);obtain⟨F',n1,n2,n3⟩:=hh.ex;refine aB (Xf ⟨w,F',c.n,c.q,c.g,c.m,c.t,c.s,p,aI.nx ⟨true,gg,st,was,some x⟩,st,was,gg,.pointer none,rfl,bx,0,hk.st⟩ c p hp bp x (hk.put x rfl)) (by kernel_rfl) n1 (by simp) (by simp) (λκ w1 h1=>⟨_,_,rfl,rfl,?_⟩);exact(cH (k:=⟨true,gg,st,was,some x⟩) rfl ((h1.into (l:=[]) n2 n3).sel [0,2,1])).sel [1,0]
theorem yk(hp:p<c.n)(hd:k.aJ=true)(hk:eM c k)(h:bI [dt c p bx k] F w) :
  Calls prog 121 #[.pointer (some ⟨bx,0,none⟩)] w λe w'=>∃ v cd,Ev.dec cd=v/\e=.returned v/\ah ⟨w,F⟩ [aw v k.hands,dt c p bx k] w':=by
 obtain⟨aJ,gg,st,was,put⟩:=k;have hd':aJ=true:=hd;subst hd';cases put with
 | none =>
  obtain⟨F',n1,n2,n3⟩:=(dc rfl (ah.start h)).ex;refine aB (VW ⟨w,F',c.n,c.q,c.g,c.m,c.t,c.s,p,aI.nx ⟨true,gg,st,was,none⟩,st,was,gg,.pointer none,rfl,bx,0,hk.st⟩) (by kernel_rfl) n1 (by simp) (by simp) (λκ w1 h1=>⟨_,_,cX,rfl,?_⟩);rw[show aI.hands ⟨true,gg,st,was,none⟩=[] by simp[aI.hands,aI.holds]];exact(cG (k:=⟨true,gg,st,was,none⟩) rfl (h1.into (l:=[]) n2 n3)).cJ (e := 3) (sz:=1)
 | some x =>
  obtain⟨bp,hh⟩:=eH rfl (ah.start h);obtain⟨F',n1,n2,n3⟩:=hh.ex;refine aB (Xg ⟨w,F',c.n,c.q,c.g,c.m,c.t,c.s,p,aI.nx ⟨true,gg,st,was,some x⟩,st,was,gg,.pointer none,rfl,bx,0,hk.st⟩ c p hp bp x (hk.put x rfl)) (by kernel_rfl) n1 (by simp) (by simp) (λκ w1 h1=>⟨_,_,rfl,rfl,?_⟩);rw[show aI.hands ⟨true,gg,st,was,some x⟩=x.hs by simp[aI.hands,aI.holds]];exact(cH (k:=⟨true,gg,st,was,some x⟩) rfl ((h1.into (l:=[]) n2 n3).sel [0,2,1])).sel [1,0]
end
section
variable{w:World}{F:Nat->Prop}{c:aT}{p:Nat}{k:aI}{bx:Nat}
theorem yl(hp:p<c.n)(hd:k.aJ=false)(hk:eM c k)(h:bI [dt c p bx k] F w) :
  Calls prog 53 #[.pointer (some ⟨bx,0,none⟩)] w λe w'=>e=.returned (.bool k.put.isSome)/\ah ⟨w,F⟩ [dt c p bx k] w':=by
 obtain⟨aJ,gg,st,was,put⟩:=k;have hd':aJ=false:=hd;subst hd';cases put with
 | none =>
  obtain⟨F',n1,n2,n3⟩:=(dc rfl (ah.start h)).ex;exact aB (VZ ⟨w,F',c.n,c.q,c.g,c.m,c.t,c.s,p,aI.nx ⟨false,gg,st,was,none⟩,st,was,gg,.pointer none,rfl,bx,0,hk.st⟩) (by kernel_rfl) n1 (by simp) (by simp) (λκ w1 h1=>⟨rfl,cG (k:=⟨false,gg,st,was,none⟩) rfl (h1.into (l:=[]) n2 n3)⟩)
 | some x =>
  obtain⟨bp,hh⟩:=eH rfl (ah.start h);obtain⟨F',n1,n2,n3⟩:=hh.ex;exact aB (Xi ⟨w,F',c.n,c.q,c.g,c.m,c.t,c.s,p,aI.nx ⟨false,gg,st,was,some x⟩,st,was,gg,.pointer none,rfl,bx,0,hk.st⟩ c p hp bp x (hk.put x rfl)) (by kernel_rfl) n1 (by simp) (by simp) (λκ w1 h1=>⟨rfl,cH (k:=⟨false,gg,st,was,some x⟩) rfl (h1.into (l:=[]) n2 n3)⟩)
theorem Dg(hp:p<c.n)(hd:k.aJ=false)(hk:eM c k)(h:bI [dt c p bx k] F w) :
  Calls prog 33 #[.pointer (some ⟨bx,0,none⟩)] w λe w'=>∃ v cd,Ev.dec cd=v/\e=.returned v/\ah ⟨w,F⟩ [aw v k.over,dt c p bx k] w':=by
 obtain⟨aJ,gg,st,was,put⟩:=k;have hd':aJ=false:=hd;subst hd';cases put with
 | none =>
  obtain⟨F',n1,n2,n3⟩:=(dc rfl (ah.start h)).ex;exact aB (V0 ⟨w,F',c.n,c.q,c.g,c.m,c.t,c.s,p,aI.nx ⟨false,gg,st,was,none⟩,st,was,gg,.pointer none,rfl,bx,0,hk.st⟩) (by kernel_rfl) n1 (by simp) (by simp) (λκ w1 h1=>⟨_,_,cX,rfl,(cG (k:=⟨false,gg,st,was,none⟩) rfl (h1.into (l:=[]) n2 n3)).cJ (e := 3) (sz:=1)⟩)
 | some x =>
  obtain⟨bp,hh⟩:=eH rfl (ah.start h);obtain⟨F',n1,n2,n3⟩:=hh.ex;refine aB (Xj ⟨w,F',c.n,c.q,c.g,c.m,c.t,c.s,p,aI.nx ⟨false,gg,st,was,some x⟩,st,was,gg,.pointer none,rfl,bx,0,hk.st⟩ c p hp bp x (hk.put x rfl)) (by kernel_rfl) n1 (by simp) (by simp) (λκ w1 h1=>⟨_,_,rfl,rfl,?_⟩);exact(cH (k:=⟨false,gg,st,was,some x⟩) rfl ((h1.into (l:=[]) n2 n3).sel [0,2,1])).sel [1,0]
theorem BB(hp:p<c.n)(hd:k.aJ=false)(hk:eM c k)(h:bI [dt c p bx k] F w) :
  Calls prog 91 #[.pointer (some ⟨bx,0,none⟩)] w λe w'=>∃ v cd,Ev.dec cd=v/\e=.returned v/\ah ⟨w,F⟩ [aw v k.hands,dt c p bx k] w':=by
 obtain⟨aJ,gg,st,was,put⟩:=k;have hd':aJ=false:=hd;subst hd'
 match st,hk.st with
 | 0,_ =>
  cases put with
  | none =>
   obtain⟨F',n1,n2,n3⟩:=(dc rfl (ah.start h)).ex;refine aB (V1 ⟨w,F',c.n,c.q,c.g,c.m,c.t,c.s,p,aI.nx ⟨false,gg,0,was,none⟩,0,was,gg,.pointer none,rfl,bx,0,hk.st⟩) (by kernel_rfl) n1 (by simp) (by simp) (λκ w1 h1=>⟨_,_,cX,rfl,?_⟩);rw[show aI.hands ⟨false,gg,0,was,none⟩=[] by simp[aI.hands,aI.holds]];exact(cG (k:=⟨false,gg,0,was,none⟩) rfl (h1.into (l:=[]) n2 n3)).cJ (e := 3) (sz:=1)
  | some x =>
   obtain⟨bp,hh⟩:=eH rfl (ah.start h);obtain⟨F',n1,n2,n3⟩:=hh.ex;refine aB (Xn ⟨w,F',c.n,c.q,c.g,c.m,c.t,c.s,p,aI.nx ⟨false,gg,0,was,some x⟩,0,was,gg,.pointer none,rfl,bx,0,hk.st⟩ c p hp bp x (hk.put x rfl)) (by kernel_rfl) n1 (by simp) (by simp) (λκ w1 h1=>⟨_,_,rfl,rfl,?_⟩);rw[show aI.hands ⟨false,gg,0,was,some x⟩=x.hs by simp[aI.hands,aI.holds]];exact(cH (k:=⟨false,gg,0,was,some x⟩) rfl ((h1.into (l:=[]) n2 n3).sel [0,2,1])).sel [1,0]
 | 1,_ =>
  have e:put=none:=hk.Np (.inl rfl);subst e;obtain⟨F',n1,n2,n3⟩:=(dc rfl (ah.start h)).ex;refine aB (Xk ⟨w,F',c.n,c.q,c.g,c.m,c.t,c.s,p,aI.nx ⟨false,gg,1,was,none⟩,1,was,gg,.pointer none,rfl,bx,0,hk.st⟩) (by kernel_rfl) n1 (by simp) (by simp) (λκ w1 h1=>⟨_,_,iR _ 0 1 1,rfl,?_⟩);rw[show aI.hands ⟨false,gg,1,was,none⟩=[gg] by simp[aI.hands]];have h2:=jN ((h1.into (l:=[]) n2 n3).sel [1,0]);exact(cG (k:=⟨false,gg,1,was,none⟩) rfl (h2.sel [1,0])).sel [1,0]
 | 2,_ =>
  have e:put=none:=hk.Np (.inr rfl);subst e;obtain⟨F',n1,n2,n3⟩:=(dc rfl (ah.start h)).ex;refine aB (Xl ⟨w,F',c.n,c.q,c.g,c.m,c.t,c.s,p,aI.nx ⟨false,gg,2,was,none⟩,2,was,gg,.pointer none,rfl,bx,0,hk.st⟩) (by kernel_rfl) n1 (by simp) (by simp) (λκ w1 h1=>⟨_,_,iR _ 0 1 1,rfl,?_⟩);rw[show aI.hands ⟨false,gg,2,was,none⟩=[gg] by simp[aI.hands]];have h2:=jN ((h1.into (l:=[]) n2 n3).sel [1,0]);exact(cG (k:=⟨false,gg,2,was,none⟩) rfl (h2.sel [1,0])).sel [1,0]
 | 3,_ =>
  obtain⟨x,e,hx0⟩:=hk.p3 rfl;have e':put=some x:=e;subst e';obtain⟨bp,hh⟩:=eH rfl (ah.start h);obtain⟨F',n1,n2,n3⟩:=hh.ex;refine aB (Xm ⟨w,F',c.n,c.q,c.g,c.m,c.t,c.s,p,aI.nx ⟨false,gg,3,was,some x⟩,3,was,gg,.pointer none,rfl,bx,0,hk.st⟩ c p hp bp x (hk.put x rfl)) (by kernel_rfl) n1 (by simp) (by simp) (λκ w1 h1=>⟨_,_,rfl,rfl,?_⟩);rw[show aI.hands ⟨false,gg,3,was,some x⟩=x.hs by simp[aI.hands,aI.holds]];exact(cH (k:=⟨false,gg,3,was,some x⟩) rfl ((h1.into (l:=[]) n2 n3).sel [0,2,1])).sel [1,0]
end
end Go.Proofs.YtbcnbofkgkheeaaGreat
namespace Go.Proofs.YtbcnbofkgkheeaaGreat
open Go.Ev Go.Proofs.Tryz
open Go.RowKit
open Go.Ev (sy iz uz wz iN uN wN pz dv fc fn ak vk vd kn pc cc cr cm cd fr)
set_option maxRecDepth 8000
attribute [local irreducible] dL
abbrev JS:List (Nat×Value):=[(0,.agg #[sy 0,sy 1,sy 2,sy 3,sy 4,sy 5]),(1,sy 6)]
abbrev ES(c:aT):Value:=(.agg #[iN c.n,iN c.q,iz c.g,iz c.m,iz c.t,iz c.s])
abbrev OJ:List dZ:=[(416,[sy 0,sy 1,sy 2,sy 3,sy 4,sy 5,sy 6,.int .u64 0,.bool true,iz 0,.int .u64 0,.pointer none],77)]
abbrev ym:List (Nat×Value):=[(0,.agg #[sy 0,sy 1,sy 2,sy 3,sy 4,sy 5]),(1,sy 6),(2,sy 7)]
abbrev JT:List dZ:=[(416,[sy 0,sy 1,sy 2,sy 3,sy 4,sy 5,sy 6,sy 9,.bool false,iz 0,.int .u64 0,.pointer none,sy 7],75)]
abbrev JU(c:Cf)(p:Int)(gg:Int):List (Nat×Value):=[(0,(.agg #[iz c.n,iz c.q,iz c.g,iz c.m,iz c.t,iz c.s])),(1,iz p),(2,iz gg)]
theorem Sf(W0:World)(F0:Nat->Prop)(c:aT)(p:Nat)(hp:p<c.n):aK prog 17 [] 0 10 ⟨W0,F0⟩ [(0,ES c),(1,iN p)] [] (λκ:ag=>(pz ((κ 416).getD 0))) (λκ:ag=>[aH ((κ 416).getD 0) [iN c.n,iN c.q,iz c.g,iz c.m,iz c.t,iz c.s,iN p,.int .u64 0,.bool true,iz 1,.int .u64 0,(.pointer none)] 77]):=(bU (c:=⟨W0,F0⟩) 3 (kn [iN (c.n),iN (c.q),iz (c.g),iz (c.m),iz (c.t),iz (c.s),iN (p),iN (c.word p)] fr [(.geq,sy 7,iz 0,.bool true)] [] [] (fc (λ_ _ _=>bG (by have q0:=c.z hp;first|(simp;done)|(simp;omega))) fn) fn fn W0 F0 [[]] [] [⟨5,[.agg #[sy 0,sy 1,sy 2,sy 3,sy 4,sy 5],sy 6],0,none,sy 7,none⟩]) fn (fc (pc rfl (λw hb=>dD c p hp w)) fn) rfl [] [] [(416,[sy 0,sy 1,sy 2,sy 3,sy 4,sy 5,sy 6,.int .u64 0,.bool true,iz 1,.int .u64 0,.pointer none],77)] 0 rfl rfl JS (.pointer (some ⟨416,0,none⟩)))
theorem Sg(W0:World)(F0:Nat->Prop)(c:Cf)(p:Int)(hc:c.ok=false):aK prog 17 [] 0 10 ⟨W0,F0⟩ [(0,(.agg #[iz c.n,iz c.q,iz c.g,iz c.m,iz c.t,iz c.s])),(1,iz p)] [] (λκ:ag=>(pz ((κ 416).getD 0))) (λκ:ag=>[aH ((κ 416).getD 0) [iz c.n,iz c.q,iz c.g,iz c.m,iz c.t,iz c.s,iz p,.int .u64 0,.bool true,iz 0,.int .u64 0,(.pointer none)] 77]):=(bU (c:=⟨W0,F0⟩) 3 (kn [iz (c.n),iz (c.q),iz (c.g),iz (c.m),iz (c.t),iz (c.s),iz (p)] fr [] [] [] fn fn fn W0 F0 [[]] [] [⟨5,[.agg #[sy 0,sy 1,sy 2,sy 3,sy 4,sy 5],sy 6],0,none,.int .i64 (-1),none⟩]) fn (fc (pc rfl (λw hb=>EE c p hc w)) fn) rfl [] [] OJ 0 rfl rfl JS (.pointer (some ⟨416,0,none⟩)))
theorem Qp(W0:World)(F0:Nat->Prop)(c:aT)(p:Int)(hp:¬ (0<=p/\p<c.n)):aK prog 17 [] 0 10 ⟨W0,F0⟩ [(0,ES c),(1,iz p)] [] (λκ:ag=>(pz ((κ 416).getD 0))) (λκ:ag=>[aH ((κ 416).getD 0) [iN c.n,iN c.q,iz c.g,iz c.m,iz c.t,iz c.s,iz p,.int .u64 0,.bool true,iz 0,.int .u64 0,(.pointer none)] 77]):=(bU (c:=⟨W0,F0⟩) 3 (kn [iN (c.n),iN (c.q),iz (c.g),iz (c.m),iz (c.t),iz (c.s),iz (p)] fr [] [] [] fn fn fn W0 F0 [[]] [] [⟨5,[.agg #[sy 0,sy 1,sy 2,sy 3,sy 4,sy 5],sy 6],0,none,.int .i64 (-1),none⟩]) fn (fc (pc rfl (λw hb=>Bl c p hp w)) fn) rfl [] [] OJ 0 rfl rfl JS (.pointer (some ⟨416,0,none⟩)))
theorem Sh(W0:World)(F0:Nat->Prop)(c:aT)(p:Nat)(hp:p<c.n)(gg:Int)(hg:0<=gg/\gg<=9223372036854775807):aK prog 14 [] 0 20 ⟨W0,F0⟩ [(0,ES c),(1,iN p),(2,iz gg)] [] (λκ:ag=>(pz ((κ 416).getD 0))) (λκ:ag=>[aH ((κ 416).getD 0) [iN c.n,iN c.q,iz c.g,iz c.m,iz c.t,iz c.s,iN p,uz (gg+1),.bool false,iz 1,.int .u64 0,(.pointer none),iz gg] 75]):=by have q0:=c.z hp;exact(bU (c:=⟨W0,F0⟩) 5 (kn [iN (c.n),iN (c.q),iz (c.g),iz (c.m),iz (c.t),iz (c.s),iN (p),iz (gg),uz (gg),uz (gg+1),iN (c.word p)] fr [(.lss,sy 7,iz 0,.bool false),(.add,sy 8,.int .u64 1,sy 9),(.geq,sy 10,iz 0,.bool true)] [] [(.u64,sy 7,sy 8)] (fc (λ_ _ _=>aQ (by first|(simp;done)|(simp;omega))) (fc (λ_ _ _=>ax (ct (by omega) (by omega))) (fc (λ_ _ _=>bG (by first|(simp;done)|(simp;omega))) fn))) fn (fc (bF rfl rfl (ct (by omega) (by omega))) fn) W0 F0 [[]] [] [⟨5,[.agg #[sy 0,sy 1,sy 2,sy 3,sy 4,sy 5],sy 6],0,none,sy 10,none⟩]) fn (fc (pc rfl (λw hb=>dD c p hp w)) fn) rfl [] [] [(416,[sy 0,sy 1,sy 2,sy 3,sy 4,sy 5,sy 6,sy 9,.bool false,iz 1,.int .u64 0,.pointer none,sy 7],75)] 0 rfl rfl ym (.pointer (some ⟨416,0,none⟩)))
theorem Si(W0:World)(F0:Nat->Prop)(c:Cf)(p:Int)(hc:c.ok=false)(gg:Int)(hg:0<=gg/\gg<=9223372036854775807):aK prog 14 [] 0 20 ⟨W0,F0⟩ (JU c p gg) [] (λκ:ag=>(pz ((κ 416).getD 0))) (λκ:ag=>[aH ((κ 416).getD 0) [iz c.n,iz c.q,iz c.g,iz c.m,iz c.t,iz c.s,iz p,uz (gg+1),.bool false,iz 0,.int .u64 0,(.pointer none),iz gg] 75]):=(bU (c:=⟨W0,F0⟩) 5 (kn [iz (c.n),iz (c.q),iz (c.g),iz (c.m),iz (c.t),iz (c.s),iz (p),iz (gg),uz (gg),uz (gg+1)] fr [(.lss,sy 7,iz 0,.bool false),(.add,sy 8,.int .u64 1,sy 9)] [] [(.u64,sy 7,sy 8)] (fc (λ_ _ _=>aQ (by first|(simp;done)|(simp;omega))) (fc (λ_ _ _=>ax (ct (by omega) (by omega))) fn)) fn (fc (bF rfl rfl (ct (by omega) (by omega))) fn) W0 F0 [[]] [] [⟨5,[.agg #[sy 0,sy 1,sy 2,sy 3,sy 4,sy 5],sy 6],0,none,.int .i64 (-1),none⟩]) fn (fc (pc rfl (λw hb=>EE c p hc w)) fn) rfl [] [] JT 0 rfl rfl ym (.pointer (some ⟨416,0,none⟩)))
theorem Qq(W0:World)(F0:Nat->Prop)(c:aT)(p:Int)(hp:¬ (0<=p/\p<c.n))(gg:Int)(hg:0<=gg/\gg<=9223372036854775807):aK prog 14 [] 0 20 ⟨W0,F0⟩ [(0,ES c),(1,iz p),(2,iz gg)] [] (λκ:ag=>(pz ((κ 416).getD 0))) (λκ:ag=>[aH ((κ 416).getD 0) [iN c.n,iN c.q,iz c.g,iz c.m,iz c.t,iz c.s,iz p,uz (gg+1),.bool false,iz 0,.int .u64 0,(.pointer none),iz gg] 75]):=(bU (c:=⟨W0,F0⟩) 5 (kn [iN (c.n),iN (c.q),iz (c.g),iz (c.m),iz (c.t),iz (c.s),iz (p),iz (gg),uz (gg),uz (gg+1)] fr [(.lss,sy 7,iz 0,.bool false),(.add,sy 8,.int .u64 1,sy 9)] [] [(.u64,sy 7,sy 8)] (fc (λ_ _ _=>aQ (by first|(simp;done)|(simp;omega))) (fc (λ_ _ _=>ax (ct (by omega) (by omega))) fn)) fn (fc (bF rfl rfl (ct (by omega) (by omega))) fn) W0 F0 [[]] [] [⟨5,[.agg #[sy 0,sy 1,sy 2,sy 3,sy 4,sy 5],sy 6],0,none,.int .i64 (-1),none⟩]) fn (fc (pc rfl (λw hb=>Bl c p hp w)) fn) rfl [] [] JT 0 rfl rfl ym (.pointer (some ⟨416,0,none⟩)))
theorem Qr(W0:World)(F0:Nat->Prop)(c:Cf)(p:Int)(gg:Int)(hg:¬ 0<=gg):aK prog 14 [] 0 20 ⟨W0,F0⟩ (JU c p gg) [] (λκ:ag=>(pz ((κ 404).getD 0))) (λκ:ag=>[aH ((κ 404).getD 0) [iz 0,iz 0,iz 0,iz 0,iz 0,iz 0,iz 0,.int .u64 0,.bool false,iz 0,.int .u64 0,(.pointer none),iz 0] 75]):=(bU (c:=⟨W0,F0⟩) 5 (kn [iz (c.n),iz (c.q),iz (c.g),iz (c.m),iz (c.t),iz (c.s),iz (p),iz (gg),uz (gg),uz (gg+1)] fr [(.lss,sy 7,iz 0,.bool true)] [] [] (fc (λ_ _ _=>aQ (by first|(simp;done)|(simp;omega))) fn) fn fn W0 F0 [[]] [] []) fn fn rfl [] [] [(404,[iz 0,iz 0,iz 0,iz 0,iz 0,iz 0,iz 0,.int .u64 0,.bool false,iz 0,.int .u64 0,.pointer none,iz 0],75)] 0 rfl rfl ym (.pointer (some ⟨404,0,none⟩)))
end Go.Proofs.YtbcnbofkgkheeaaGreat
namespace Go.Proofs.YtbcnbofkgkheeaaGreat
open Go.Ev Go.Proofs.Tryz
open Go.RowKit
open Go.Ev (sy)
set_option maxRecDepth 8000
structure wo where
 a0:Int
 a1:Int
 a2:Int
 a3:Int
 a4:Int
 a5:Int
 a6:Int
 nx:Int
 was:Int
 g:Int
def ug(a:wo)(aJ:Bool):List Value :=
 .int .i64 a.a0::.int .i64 a.a1::.int .i64 a.a2::.int .i64 a.a3::.int .i64 a.a4::.int .i64 a.a5::.int .i64 a.a6::.int .u64 a.nx::.bool aJ::.int .i64 0::.int .u64 a.was::.pointer none::cond aJ [] [.int .i64 a.g]
def Sj(aJ:Bool)(bx:Nat):aC:=Me (λ_:wo=>True) (λa=>aH bx (ug a aJ) (fC aJ))
structure XS where
 aJ:Bool
 live:Option (aT×Nat×aI)
def XS.st(x:XS):Nat:=match x.live with | some (_,_,k)=>k.st | none=>0
def XS.aA(x:XS):Bool:=match x.live with | some (_,_,k)=>k.put.isSome | none=>false
def XS.hands(x:XS):List Int:=match x.live with | some (_,_,k)=>k.hands | none=>[]
def XS.over(x:XS):List Int:=match x.live with | some (_,_,k)=>k.over | none=>[]
def XS.step(x:XS)(m:aG):XS×aG:=match x.live with | some (c,p,k)=>(⟨x.aJ,some (c,p,(ae c p k m).1)⟩,(ae c p k m).2) | none=>(x,m)
def XS.Ok(x:XS)(m:aG):Prop:=match x.live with | some (c,p,k)=>k.aJ=x.aJ/\p<c.n/\eM c k/\bC c m | none=>True
structure ip(m:aG):Prop where
 len:m.cells.length<=564
 u:∀ x ∈ m.cells,c7 x
theorem ip.tick{m:aG}(h:ip m):ip m.tick:=⟨h.len,h.u⟩
theorem ip.put{m:aG}(h:ip m)(a:Nat){v:Int}(hv:c7 v):ip (m.put a v) :=
 ⟨by simp only[aG.put,List.length_set];exact h.len,λx hx=>by
  rcases List.mem_or_eq_of_mem_set hx with hx | rfl
  ·exact h.u x hx
  ·exact hv⟩
theorem j_{c:aT}{p:Nat}{k:aI}{m:aG}(h:k.st=0):ae c p k m=(k,m):=by
 obtain⟨aJ,gg,st,was,put⟩:=k;have e:st=0:=h;subst e;rfl
theorem iM{c:aT}{p:Nat}{k:aI}{m:aG} : (ae c p k m).1.aJ=k.aJ:=by
 unfold ae
 split
 ·rfl
 ·split
  ·rfl
  ·split<;>rfl
 ·split<;>rfl
 ·rfl
theorem bC.toB{c:aT}{m:aG}(h:bC c m):ip m:=⟨h.big,h.u⟩
theorem XS.step_ok{x:XS}{m:aG}(h:x.Ok m)(hm:ip m):(x.step m).1.Ok (x.step m).2/\ip (x.step m).2/\(x.step m).1.aJ=x.aJ:=by
 obtain⟨aJ,live⟩:=x;cases live with
 | none=>exact⟨h,hm,rfl⟩
 | some y =>
  obtain⟨c,p,k⟩:=y;obtain⟨h1,h2,h3,h4⟩:=h;have h5:=rD h2 h3 h4;exact⟨⟨iM.trans h1,h2,h5.1,h5.2⟩,h5.2.toB,rfl⟩
theorem XS.Qs{x:XS}{m:aG}(h:x.Ok m)(a:Nat){v:Int}(hv:c7 v):x.Ok (m.put a v):=by
 obtain⟨aJ,live⟩:=x;cases live with
 | none=>exact h
 | some y =>
  obtain⟨c,p,k⟩:=y;obtain⟨h1,h2,h3,h4⟩:=h;exact⟨h1,h2,h3,h4.put a hv⟩
def xP(bx:Nat)(x:XS):aC:=match x.live with | some (c,p,k)=>dt c p bx k | none=>Sj x.aJ bx
def xA(bx:Nat)(x:XS):aC where
 p:=λ_ F w=>(xP bx x).p (λ_=>none) F w
 keep:=λ_ F w w' hk h=>(xP bx x).keep (λ_=>none) F w w' hk h
 mono:=λ_ _ _ _ _ h=>h
def xW(x:XS)(v:Value):aC where
 p:=λι F w=>∃ bp,v=.pointer (some ⟨bp,0,none⟩)/\(xA bp x).p ι F w
 keep:=λι F w w' hk ⟨bp,e,h⟩=>⟨bp,e,(xA bp x).keep ι F w w' hk h⟩
 mono:=λι κ F w hle ⟨bp,e,h⟩=>⟨bp,e,(xA bp x).mono ι κ F w hle h⟩
theorem yn{x:XS}{v:Value}{ctx:fQ}{l:List aC}{w:World}(h:ah ctx (xW x v::l) w):∃ bp,v=.pointer (some ⟨bp,0,none⟩)/\ah ctx (xA bp x::l) w :=
 h.Ix (b:=λbp=>xA bp x) (p:=λbp=>v=.pointer (some ⟨bp,0,none⟩)) (λF ⟨bp,e,h⟩=>⟨bp,e,h⟩)
theorem lC{x:XS}{bp:Nat}{ctx:fQ}{l:List aC}{w:World}(h:ah ctx (xA bp x::l) w):ah ctx (xW x (.pointer (some ⟨bp,0,none⟩))::l) w :=
 h.head (λF h=>⟨bp,rfl,h⟩)
theorem fG{aJ:Bool}{bx:Nat}{a:wo}{ctx:fQ}{l:List aC}{w:World}(h:ah ctx (aH bx (ug a aJ) (fC aJ)::l) w):ah ctx (xA bx ⟨aJ,none⟩::l) w:=ah.vu (a:=λa:wo=>aH bx (ug a aJ) (fC aJ)) a trivial h
theorem ka{aJ:Bool}{bx:Nat}{ctx:fQ}{l:List aC}{w:World}(h:ah ctx (xA bx ⟨aJ,none⟩::l) w):∃ a:wo,ah ctx (aH bx (ug a aJ) (fC aJ)::l) w:=by
 obtain⟨a,_,h1⟩:=ah.vt (a:=λa:wo=>aH bx (ug a aJ) (fC aJ)) h;exact⟨a,h1⟩
theorem Nq{w:World}{F:Nat->Prop}{x:XS}{bx:Nat}{m:aG}(hd:x.aJ=true)(hx:x.Ok m)(h:bI [xA bx x] F w) :
  Calls prog 120 #[.pointer (some ⟨bx,0,none⟩)] w λe w'=>e=.returned (.bool (decide (x.st=0)))/\ah ⟨w,F⟩ [xA bx x] w':=by
 obtain⟨aJ,live⟩:=x;have hd':aJ=true:=hd;subst hd';cases live with
 | none =>
  obtain⟨a,hh⟩:=ka (ah.start h);obtain⟨F',n1,n2,n3⟩:=hh.ex;exact aB (VS ⟨w,F',a.a0,a.a1,a.a2,a.a3,a.a4,a.a5,a.a6,a.nx,0,a.was,a.g,.pointer none,rfl,bx,0,Nat.zero_le _⟩) (by kernel_rfl) n1 (by simp) (by simp) (λκ w1 h1=>⟨rfl,fG (aJ:=true) (a:=a) (h1.into (l:=[]) n2 n3)⟩)
 | some y =>
  obtain⟨c,p,k⟩:=y;obtain⟨h1,h2,h3,h4⟩:=hx;exact Bz h1 h3 h
theorem wq{w:World}{F:Nat->Prop}{x:XS}{bx:Nat}{m:aG}(hd:x.aJ=true)(hx:x.Ok m)(h:bI [xA bx x] F w) :
  Calls prog 122 #[.pointer (some ⟨bx,0,none⟩)] w λe w'=>e=.returned (.bool x.aA)/\ah ⟨w,F⟩ [xA bx x] w':=by
 obtain⟨aJ,live⟩:=x;have hd':aJ=true:=hd;subst hd';cases live with
 | none =>
  obtain⟨a,hh⟩:=ka (ah.start h);obtain⟨F',n1,n2,n3⟩:=hh.ex;exact aB (VT ⟨w,F',a.a0,a.a1,a.a2,a.a3,a.a4,a.a5,a.a6,a.nx,0,a.was,a.g,.pointer none,rfl,bx,0,Nat.zero_le _⟩) (by kernel_rfl) n1 (by simp) (by simp) (λκ w1 h1=>⟨rfl,fG (aJ:=true) (a:=a) (h1.into (l:=[]) n2 n3)⟩)
 | some y =>
  obtain⟨c,p,k⟩:=y;obtain⟨h1,h2,h3,h4⟩:=hx;exact vA h2 h1 h3 h
theorem pJ{w:World}{F:Nat->Prop}{x:XS}{bx:Nat}{m:aG}(hd:x.aJ=true)(hx:x.Ok m)(h:bI [xA bx x] F w) :
  Calls prog 123 #[.pointer (some ⟨bx,0,none⟩)] w λe w'=>∃ v cd,Ev.dec cd=v/\e=.returned v/\ah ⟨w,F⟩ [aw v x.over,xA bx x] w':=by
 obtain⟨aJ,live⟩:=x;have hd':aJ=true:=hd;subst hd';cases live with
 | none =>
  obtain⟨a,hh⟩:=ka (ah.start h);obtain⟨F',n1,n2,n3⟩:=hh.ex;exact aB (VU ⟨w,F',a.a0,a.a1,a.a2,a.a3,a.a4,a.a5,a.a6,a.nx,0,a.was,a.g,.pointer none,rfl,bx,0,Nat.zero_le _⟩) (by kernel_rfl) n1 (by simp) (by simp) (λκ w1 h1=>⟨_,_,cX,rfl,(fG (aJ:=true) (a:=a) (h1.into (l:=[]) n2 n3)).cJ (e := 3) (sz:=1)⟩)
 | some y =>
  obtain⟨c,p,k⟩:=y;obtain⟨h1,h2,h3,h4⟩:=hx;exact BA h2 h1 h3 h
theorem pK{w:World}{F:Nat->Prop}{x:XS}{bx:Nat}{m:aG}(hd:x.aJ=true)(hx:x.Ok m)(h:bI [xA bx x] F w) :
  Calls prog 121 #[.pointer (some ⟨bx,0,none⟩)] w λe w'=>∃ v cd,Ev.dec cd=v/\e=.returned v/\ah ⟨w,F⟩ [aw v x.hands,xA bx x] w':=by
 obtain⟨aJ,live⟩:=x;have hd':aJ=true:=hd;subst hd';cases live with
 | none =>
  obtain⟨a,hh⟩:=ka (ah.start h);obtain⟨F',n1,n2,n3⟩:=hh.ex;exact aB (VW ⟨w,F',a.a0,a.a1,a.a2,a.a3,a.a4,a.a5,a.a6,a.nx,0,a.was,a.g,.pointer none,rfl,bx,0,Nat.zero_le _⟩) (by kernel_rfl) n1 (by simp) (by simp) (λκ w1 h1=>⟨_,_,cX,rfl,(fG (aJ:=true) (a:=a) (h1.into (l:=[]) n2 n3)).cJ (e := 3) (sz:=1)⟩)
 | some y =>
  obtain⟨c,p,k⟩:=y;obtain⟨h1,h2,h3,h4⟩:=hx;exact yk h2 h1 h3 h
theorem ET{w:World}{F:Nat->Prop}{x:XS}{bx bm:Nat}{m:aG}(hd:x.aJ=true)(hx:x.Ok m)(h:bI [xA bx x,aj bm m] F w) :
  Calls prog 124 #[.pointer (some ⟨bx,0,none⟩),.pointer (some ⟨bm,0,none⟩)] w λe w'=>e=.returned (.bool (decide ((x.step m).1.st=0)))/\ah ⟨w,F⟩ [xA bx (x.step m).1,aj bm (x.step m).2] w':=by
 obtain⟨aJ,live⟩:=x;have hd':aJ=true:=hd;subst hd';cases live with
 | none =>
  obtain⟨a,hh⟩:=ka (ah.start h);obtain⟨F',n1,n2,n3⟩:=hh.ex;obtain⟨F1,F2,k1,k2,k3,k4⟩:=cy (l:=[aH bx (ug a true) (fC true)]) n1;refine aB (VX ⟨w,F1,a.a0,a.a1,a.a2,a.a3,a.a4,a.a5,a.a6,a.nx,0,a.was,a.g,.pointer none,rfl,bx,bm,Nat.zero_le _⟩) (by kernel_rfl) k1 (by simp) (by simp) (λκ w1 h1=>⟨rfl,?_⟩);exact fG (aJ:=true) (a:=a) ((h1.frame k2 k3).into (l:=[]) n2 (λj hj=>n3 j ((k4 j).2 hj)))
 | some y =>
  obtain⟨c,p,k⟩:=y;obtain⟨h1,h2,h3,h4⟩:=hx
  by_cases h0:k.st=0
  ·show Calls _ _ _ _ (λe w'=>e=.returned (.bool (decide ((ae c p k m).1.st=0)))/\ah ⟨w,F⟩ [dt c p bx (ae c p k m).1,aj bm (ae c p k m).2] w')
   rw[j_ h0];obtain⟨pv,lV,rest,hh,hback⟩:=pI (ah.start h);obtain⟨F',n1,n2,n3⟩:=hh.ex;obtain⟨F1,F2,k1,k2,k3,k4⟩:=cy (l:=[aH bx (jO c p k pv) (fC k.aJ)]) n1;obtain⟨aJ,gg,st,was,put⟩:=k;have e0:st=0:=h0;subst e0;have e1:aJ=true:=h1;subst e1;refine aB (VX ⟨w,F1,c.n,c.q,c.g,c.m,c.t,c.s,p,aI.nx ⟨true,gg,0,was,put⟩,0,was,gg,pv,lV,bx,bm,h3.st⟩) (by kernel_rfl) k1 (by simp) (by simp) (λκ w1 h1=>⟨rfl,?_⟩);exact hback w1 ((h1.frame k2 k3).into (l:=[]) n2 (λj hj=>n3 j ((k4 j).2 hj)))
  ·exact By h2 h1 h3 h0 h4 h
theorem Nr{w:World}{F:Nat->Prop}{x:XS}{bx:Nat}{m:aG}(hd:x.aJ=false)(hx:x.Ok m)(h:bI [xA bx x] F w) :
  Calls prog 90 #[.pointer (some ⟨bx,0,none⟩)] w λe w'=>e=.returned (.bool (decide (x.st=0)))/\ah ⟨w,F⟩ [xA bx x] w':=by
 obtain⟨aJ,live⟩:=x;have hd':aJ=false:=hd;subst hd';cases live with
 | none =>
  obtain⟨a,hh⟩:=ka (ah.start h);obtain⟨F',n1,n2,n3⟩:=hh.ex;exact aB (VY ⟨w,F',a.a0,a.a1,a.a2,a.a3,a.a4,a.a5,a.a6,a.nx,0,a.was,a.g,.pointer none,rfl,bx,0,Nat.zero_le _⟩) (by kernel_rfl) n1 (by simp) (by simp) (λκ w1 h1=>⟨rfl,fG (aJ:=false) (a:=a) (h1.into (l:=[]) n2 n3)⟩)
 | some y =>
  obtain⟨c,p,k⟩:=y;obtain⟨h1,h2,h3,h4⟩:=hx;exact Df h1 h3 h
theorem wu{w:World}{F:Nat->Prop}{x:XS}{bx:Nat}{m:aG}(hd:x.aJ=false)(hx:x.Ok m)(h:bI [xA bx x] F w) :
  Calls prog 53 #[.pointer (some ⟨bx,0,none⟩)] w λe w'=>e=.returned (.bool x.aA)/\ah ⟨w,F⟩ [xA bx x] w':=by
 obtain⟨aJ,live⟩:=x;have hd':aJ=false:=hd;subst hd';cases live with
 | none =>
  obtain⟨a,hh⟩:=ka (ah.start h);obtain⟨F',n1,n2,n3⟩:=hh.ex;exact aB (VZ ⟨w,F',a.a0,a.a1,a.a2,a.a3,a.a4,a.a5,a.a6,a.nx,0,a.was,a.g,.pointer none,rfl,bx,0,Nat.zero_le _⟩) (by kernel_rfl) n1 (by simp) (by simp) (λκ w1 h1=>⟨rfl,fG (aJ:=false) (a:=a) (h1.into (l:=[]) n2 n3)⟩)
 | some y =>
  obtain⟨c,p,k⟩:=y;obtain⟨h1,h2,h3,h4⟩:=hx;exact yl h2 h1 h3 h
theorem m9{w:World}{F:Nat->Prop}{x:XS}{bx:Nat}{m:aG}(hd:x.aJ=false)(hx:x.Ok m)(h:bI [xA bx x] F w) :
  Calls prog 33 #[.pointer (some ⟨bx,0,none⟩)] w λe w'=>∃ v cd,Ev.dec cd=v/\e=.returned v/\ah ⟨w,F⟩ [aw v x.over,xA bx x] w':=by
 obtain⟨aJ,live⟩:=x;have hd':aJ=false:=hd;subst hd';cases live with
 | none =>
  obtain⟨a,hh⟩:=ka (ah.start h);obtain⟨F',n1,n2,n3⟩:=hh.ex;exact aB (V0 ⟨w,F',a.a0,a.a1,a.a2,a.a3,a.a4,a.a5,a.a6,a.nx,0,a.was,a.g,.pointer none,rfl,bx,0,Nat.zero_le _⟩) (by kernel_rfl) n1 (by simp) (by simp) (λκ w1 h1=>⟨_,_,cX,rfl,(fG (aJ:=false) (a:=a) (h1.into (l:=[]) n2 n3)).cJ (e := 3) (sz:=1)⟩)
 | some y =>
  obtain⟨c,p,k⟩:=y;obtain⟨h1,h2,h3,h4⟩:=hx;exact Dg h2 h1 h3 h
theorem mG{w:World}{F:Nat->Prop}{x:XS}{bx:Nat}{m:aG}(hd:x.aJ=false)(hx:x.Ok m)(h:bI [xA bx x] F w) :
  Calls prog 91 #[.pointer (some ⟨bx,0,none⟩)] w λe w'=>∃ v cd,Ev.dec cd=v/\e=.returned v/\ah ⟨w,F⟩ [aw v x.hands,xA bx x] w':=by
 obtain⟨aJ,live⟩:=x;have hd':aJ=false:=hd;subst hd';cases live with
 | none =>
  obtain⟨a,hh⟩:=ka (ah.start h);obtain⟨F',n1,n2,n3⟩:=hh.ex;exact aB (V1 ⟨w,F',a.a0,a.a1,a.a2,a.a3,a.a4,a.a5,a.a6,a.nx,0,a.was,a.g,.pointer none,rfl,bx,0,Nat.zero_le _⟩) (by kernel_rfl) n1 (by simp) (by simp) (λκ w1 h1=>⟨_,_,cX,rfl,(fG (aJ:=false) (a:=a) (h1.into (l:=[]) n2 n3)).cJ (e := 3) (sz:=1)⟩)
 | some y =>
  obtain⟨c,p,k⟩:=y;obtain⟨h1,h2,h3,h4⟩:=hx;exact BB h2 h1 h3 h
theorem EU{w:World}{F:Nat->Prop}{x:XS}{bx bm:Nat}{m:aG}(hd:x.aJ=false)(hx:x.Ok m)(h:bI [xA bx x,aj bm m] F w) :
  Calls prog 92 #[.pointer (some ⟨bx,0,none⟩),.pointer (some ⟨bm,0,none⟩)] w λe w'=>e=.returned (.bool (decide ((x.step m).1.st=0)))/\ah ⟨w,F⟩ [xA bx (x.step m).1,aj bm (x.step m).2] w':=by
 obtain⟨aJ,live⟩:=x;have hd':aJ=false:=hd;subst hd';cases live with
 | none =>
  obtain⟨a,hh⟩:=ka (ah.start h);obtain⟨F',n1,n2,n3⟩:=hh.ex;obtain⟨F1,F2,k1,k2,k3,k4⟩:=cy (l:=[aH bx (ug a false) (fC false)]) n1;refine aB (V2 ⟨w,F1,a.a0,a.a1,a.a2,a.a3,a.a4,a.a5,a.a6,a.nx,0,a.was,a.g,.pointer none,rfl,bx,bm,Nat.zero_le _⟩) (by kernel_rfl) k1 (by simp) (by simp) (λκ w1 h1=>⟨rfl,?_⟩);exact fG (aJ:=false) (a:=a) ((h1.frame k2 k3).into (l:=[]) n2 (λj hj=>n3 j ((k4 j).2 hj)))
 | some y =>
  obtain⟨c,p,k⟩:=y;obtain⟨h1,h2,h3,h4⟩:=hx
  by_cases h0:k.st=0
  ·show Calls _ _ _ _ (λe w'=>e=.returned (.bool (decide ((ae c p k m).1.st=0)))/\ah ⟨w,F⟩ [dt c p bx (ae c p k m).1,aj bm (ae c p k m).2] w')
   rw[j_ h0];obtain⟨pv,lV,rest,hh,hback⟩:=pI (ah.start h);obtain⟨F',n1,n2,n3⟩:=hh.ex;obtain⟨F1,F2,k1,k2,k3,k4⟩:=cy (l:=[aH bx (jO c p k pv) (fC k.aJ)]) n1;obtain⟨aJ,gg,st,was,put⟩:=k;have e0:st=0:=h0;subst e0;have e1:aJ=false:=h1;subst e1;refine aB (V2 ⟨w,F1,c.n,c.q,c.g,c.m,c.t,c.s,p,aI.nx ⟨false,gg,0,was,put⟩,0,was,gg,pv,lV,bx,bm,h3.st⟩) (by kernel_rfl) k1 (by simp) (by simp) (λκ w1 h1=>⟨rfl,?_⟩);exact hback w1 ((h1.frame k2 k3).into (l:=[]) n2 (λj hj=>n3 j ((k4 j).2 hj)))
  ·exact Dc h2 h1 h3 h0 h4 h
def cD(c:aT)(p:Nat):XS:=⟨true,some (c,p,⟨true,0,1,0,none⟩)⟩
def cE(c:aT)(p:Nat)(g:Int):XS:=⟨false,some (c,p,⟨false,g,1,0,none⟩)⟩
section
variable{w:World}{F:Nat->Prop}
theorem EV(c:aT){p:Nat}(hp:p<c.n)(h:bI [] F w):Calls prog 17 #[c.v,.int .i64 (p:Int)] w λe w'=>∃ v cd,Ev.dec cd=v/\e=.returned v/\ah ⟨w,F⟩ [xW (cD c p) v] w':=by
 refine aB (Sf w F c p hp) (by kernel_rfl) h (by simp) (by simp) (λκ w1 h1=>⟨_,_,gJ _ _,rfl,lC ?_⟩);exact cG (c:=c) (p:=p) (k:=⟨true,0,1,0,none⟩) rfl h1
theorem Ns(c:Cf)(p:Int)(hc:c.ok=false)(h:bI [] F w):Calls prog 17 #[c.v,.int .i64 p] w λe w'=>∃ v cd,Ev.dec cd=v/\e=.returned v/\ah ⟨w,F⟩ [xW ⟨true,none⟩ v] w':=by
 refine aB (Sg w F c p hc) (by kernel_rfl) h (by simp) (by simp) (λκ w1 h1=>⟨_,_,gJ _ _,rfl,lC ?_⟩);exact fG (aJ:=true) (a:=⟨c.n,c.q,c.g,c.m,c.t,c.s,p,0,0,0⟩) h1
theorem JV(c:aT)(p:Int)(hp:¬ (0<=p/\p<c.n))(h:bI [] F w):Calls prog 17 #[c.v,.int .i64 p] w λe w'=>∃ v cd,Ev.dec cd=v/\e=.returned v/\ah ⟨w,F⟩ [xW ⟨true,none⟩ v] w':=by
 refine aB (Qp w F c p hp) (by kernel_rfl) h (by simp) (by simp) (λκ w1 h1=>⟨_,_,gJ _ _,rfl,lC ?_⟩);exact fG (aJ:=true) (a:=⟨c.n,c.q,c.g,c.m,c.t,c.s,p,0,0,0⟩) h1
theorem EW(c:aT){p:Nat}(hp:p<c.n)(g:Int)(hg:0<=g/\g<=9223372036854775807)(h:bI [] F w):Calls prog 14 #[c.v,.int .i64 (p:Int),.int .i64 g] w λe w'=>∃ v cd,Ev.dec cd=v/\e=.returned v/\ah ⟨w,F⟩ [xW (cE c p g) v] w':=by
 refine aB (Sh w F c p hp g hg) (by kernel_rfl) h (by simp) (by simp) (λκ w1 h1=>⟨_,_,gJ _ _,rfl,lC ?_⟩);exact cG (c:=c) (p:=p) (k:=⟨false,g,1,0,none⟩) rfl h1
theorem Nt(c:Cf)(p:Int)(hc:c.ok=false)(g:Int)(hg:0<=g/\g<=9223372036854775807)(h:bI [] F w):Calls prog 14 #[c.v,.int .i64 p,.int .i64 g] w λe w'=>∃ v cd,Ev.dec cd=v/\e=.returned v/\ah ⟨w,F⟩ [xW ⟨false,none⟩ v] w':=by
 refine aB (Si w F c p hc g hg) (by kernel_rfl) h (by simp) (by simp) (λκ w1 h1=>⟨_,_,gJ _ _,rfl,lC ?_⟩);exact fG (aJ:=false) (a:=⟨c.n,c.q,c.g,c.m,c.t,c.s,p,g+1,0,g⟩) h1
theorem JW(c:aT)(p:Int)(hp:¬ (0<=p/\p<c.n))(g:Int)(hg:0<=g/\g<=9223372036854775807)(h:bI [] F w):Calls prog 14 #[c.v,.int .i64 p,.int .i64 g] w λe w'=>∃ v cd,Ev.dec cd=v/\e=.returned v/\ah ⟨w,F⟩ [xW ⟨false,none⟩ v] w':=by
 refine aB (Qq w F c p hp g hg) (by kernel_rfl) h (by simp) (by simp) (λκ w1 h1=>⟨_,_,gJ _ _,rfl,lC ?_⟩);exact fG (aJ:=false) (a:=⟨c.n,c.q,c.g,c.m,c.t,c.s,p,g+1,0,g⟩) h1
theorem uh(c:Cf)(p:Int)(g:Int)(hg:¬ 0<=g)(h:bI [] F w):Calls prog 14 #[c.v,.int .i64 p,.int .i64 g] w λe w'=>∃ v cd,Ev.dec cd=v/\e=.returned v/\ah ⟨w,F⟩ [xW ⟨false,none⟩ v] w':=by
 refine aB (Qr w F c p g hg) (by kernel_rfl) h (by simp) (by simp) (λκ w1 h1=>⟨_,_,gJ _ _,rfl,lC ?_⟩);exact fG (aJ:=false) (a:=⟨0,0,0,0,0,0,0,0,0,0⟩) h1
end
end Go.Proofs.YtbcnbofkgkheeaaGreat
