/- Part of a proof: see the last text. -/
import Derived.Test.YtankbefdlbcdnaaZd25
import Derived.Test.YtankbefdlbcdnaaZd14
import Derived.WalkKit
import Derived.WalkSpells
import Derived.Lib.Walk
import Derived.Lib.SliceRun
import Derived.Deep.LoopGhost
import Derived.Laws.AppendOwn
set_option linter.unusedSimpArgs false
set_option linter.unusedVariables false
namespace Go.Proofs.Ytankbefdlbcdnaa
open Go.Ev Go.Proofs.Try
open Go.RowKit
open Go.Ev (sy iz uz wz iN uN wN pz dv fc fn ak vk vd kn pc cc cr cm cd fr)
set_option maxRecDepth 8000
attribute [local irreducible] dF
abbrev tH:List aK:=[ce 403 (λv=>jM prog 3 3 v 0 (λ_=>none))]
abbrev oM:List Value:=[.slice none 0 0,.slice none 0 0,.slice none 0 0]
abbrev oN:List g_:=[(4,[.slice none 0 0,.slice none 0 0,.slice none 0 0],55),(8,[sy 0,sy 1,sy 2],55)]
abbrev tI:List (Nat×Value):=[(0,sy 3),(2,.pointer (some ⟨4,0,none⟩)),(3,.pointer (some ⟨8,0,none⟩)),(4,sy 4)]
abbrev mL(ur:Value)(rw:List Int):aK:=aO 3 1 (ur) (rw.length) (aB rw)
abbrev tJ(us:Value)(ub:Value)(ur:Value)(st:List Int)(bn:List Int)(rw:List Int):List aK:=[aO 3 1 (us) (st.length) (aB st),aO 3 1 (ub) (bn.length) (aB bn),(mL ur rw)]
abbrev tK(st:List Int):aK:=ce 407 (λv=>aO 3 1 v (st.length+1) ((aB st)++[iz 0]))
abbrev oO(b4:Nat)(b8:Nat)(us:Value)(ub:Value)(ur:Value)(st:List Int)(bn:List Int)(rw:List Int):List aK:=[bv b4 oM 55,bv b8 [us,ub,ur] 55,aO 3 1 (us) (st.length) (aB st),aO 3 1 (ub) (bn.length) (aB bn),(mL ur rw)]
theorem OH(q:NQ):aI prog 21 [] 0 20 ⟨q.W0,q.F0⟩ [(0,iz 1),(1,iN q.c)] [] (λκ:ag=>(.slice (some ⟨((κ 400).getD 0),0,none⟩) 1 1)) (λκ:ag=>[bv ((κ 400).getD 0) [iN q.c,.slice none 0 0] 93]):=(br (c:=⟨q.W0,q.F0⟩) 20 (kn [iN (q.c)] fr [] [] [] fn fn fn q.W0 q.F0 [[]] [] []) fn fn rfl [] [] [(400,[sy 0,.slice none 0 0],93)] 0 rfl rfl [(0,iz 1),(1,sy 0)] (.slice (some ⟨400,0,none⟩) 1 1))
theorem OI(q:NQ):aI prog 21 [] 0 20 ⟨q.W0,q.F0⟩ [(0,iz 2),(1,iN q.c)] [] (λκ:ag=>(.slice (some ⟨((κ 400).getD 0),0,none⟩) 2 2)) (λκ:ag=>[bv ((κ 400).getD 0) [iN q.c,.slice none 0 0,iN q.c,.slice none 0 0] 93]):=(br (c:=⟨q.W0,q.F0⟩) 20 (kn [iN (q.c)] fr [] [] [] fn fn fn q.W0 q.F0 [[]] [] []) fn fn rfl [] [] [(400,[sy 0,.slice none 0 0,sy 0,.slice none 0 0],93)] 0 rfl rfl [(0,iz 2),(1,sy 0)] (.slice (some ⟨400,0,none⟩) 2 2))
theorem OJ(q:NQ):aI prog 21 [] 0 20 ⟨q.W0,q.F0⟩ [(0,iz 3),(1,iN q.c)] [] (λκ:ag=>(.slice (some ⟨((κ 400).getD 0),0,none⟩) 3 3)) (λκ:ag=>[bv ((κ 400).getD 0) [iN q.c,.slice none 0 0,iN q.c,.slice none 0 0,iN q.c,.slice none 0 0] 93]):=(br (c:=⟨q.W0,q.F0⟩) 20 (kn [iN (q.c)] fr [] [] [] fn fn fn q.W0 q.F0 [[]] [] []) fn fn rfl [] [] [(400,[sy 0,.slice none 0 0,sy 0,.slice none 0 0,sy 0,.slice none 0 0],93)] 0 rfl rfl [(0,iz 3),(1,sy 0)] (.slice (some ⟨400,0,none⟩) 3 3))
theorem OL(q:NQ):aI prog 21 [] 0 20 ⟨q.W0,q.F0⟩ [(0,iz 4),(1,iN q.c)] [] (λκ:ag=>(.slice (some ⟨((κ 400).getD 0),0,none⟩) 4 4)) (λκ:ag=>[bv ((κ 400).getD 0) [iN q.c,.slice none 0 0,iN q.c,.slice none 0 0,iN q.c,.slice none 0 0,iN q.c,.slice none 0 0] 93]):=(br (c:=⟨q.W0,q.F0⟩) 20 (kn [iN (q.c)] fr [] [] [] fn fn fn q.W0 q.F0 [[]] [] []) fn fn rfl [] [] [(400,[sy 0,.slice none 0 0,sy 0,.slice none 0 0,sy 0,.slice none 0 0,sy 0,.slice none 0 0],93)] 0 rfl rfl [(0,iz 4),(1,sy 0)] (.slice (some ⟨400,0,none⟩) 4 4))
theorem OM(q:NQ):aI prog 7 [] 0 44 ⟨q.W0,q.F0⟩ [(0,iz 1),(1,iN q.c)] [] (λκ:ag=>(.tuple #[(pz ((κ 404).getD 0)),iz 0])) (λκ:ag=>[bv ((κ 404).getD 0) ((.map none)::(iz 0)::(iz 0)::(iN q.c)::(.map none)::(iz 0)::(iz 0)::(iz 0)::(.map none)::(iz 0)::(iz 0)::(iz 0)::(.map none)::(iz 0)::(iz 0)::(iz 0)::(.map none)::(iz 0)::(iz 0)::(iz 0)::(.map none)::(iz 0)::(iz 0)::(iz 0)::(.map none)::(iz 0)::(iz 0)::(iz 0)::(.map none)::(iz 0)::(iz 0)::(iz 0)::(.map none)::(iz 0)::(iz 0)::(iz 0)::(.map none)::(iz 0)::(iz 0)::(iz 0)::(.map none)::(iz 0)::(iz 0)::(iz 0)::(.map none)::(iz 0)::(iz 0)::(iz 0)::(.map none)::(iz 0)::(iz 0)::(iz 0)::(.map none)::(iz 0)::(iz 0)::(iz 0)::(.map none)::(iz 0)::(iz 0)::(iz 0)::(.map none)::(iz 0)::(iz 0)::(iz 0)::(iz 1)::(dv κ 403)::[]) 79,jM prog 3 3 (dv κ 403) 0 (λ_=>none)]):=by have z:=q.z;exact(br (c:=⟨q.W0,q.F0⟩) 20 (kn [iN (q.c)] fr [(.lss,sy 0,iz 0,.bool false),(.gtr,sy 0,iz 1073741824,.bool false)] [] [] (fc (λ_ _ _=>ax (by first|(simp;done)|(simp;omega))) (fc (λ_ _ _=>bJ (by first|(simp;done)|(simp;omega))) fn)) fn fn q.W0 q.F0 [[],tH] [⟨[18,71],[],none,0,some 403,.complex .f32 403 0,some 1⟩] []) (fc (sZ rfl rfl) fn) fn rfl [] [] [(404,(.map none::.int .i64 0::.int .i64 0::sy 0::.map none::.int .i64 0::.int .i64 0::.int .i64 0::.map none::.int .i64 0::.int .i64 0::.int .i64 0::.map none::.int .i64 0::.int .i64 0::.int .i64 0::.map none::.int .i64 0::.int .i64 0::.int .i64 0::.map none::.int .i64 0::.int .i64 0::.int .i64 0::.map none::.int .i64 0::.int .i64 0::.int .i64 0::.map none::.int .i64 0::.int .i64 0::.int .i64 0::.map none::.int .i64 0::.int .i64 0::.int .i64 0::.map none::.int .i64 0::.int .i64 0::.int .i64 0::.map none::.int .i64 0::.int .i64 0::.int .i64 0::.map none::.int .i64 0::.int .i64 0::.int .i64 0::.map none::.int .i64 0::.int .i64 0::.int .i64 0::.map none::.int .i64 0::.int .i64 0::.int .i64 0::.map none::.int .i64 0::.int .i64 0::.int .i64 0::.map none::.int .i64 0::.int .i64 0::.int .i64 0::.int .i64 1::.complex .f32 403 0::[]),79)] 1 rfl rfl [(0,iz 1),(1,sy 0)] (.tuple #[.pointer (some ⟨404,0,none⟩),iz 0])).conv (λκ w=>⟨(λ_ h=>h),(λ_ h=>bN (a:=λv=>jM prog 3 3 v 0 (λ_=>none)) (λ_ _ _ _ _ h=>h) h),trivial⟩)
theorem OO(q:NQ):aI prog 7 [] 0 44 ⟨q.W0,q.F0⟩ [(0,iz 2),(1,iN q.c)] [] (λκ:ag=>(.tuple #[(pz ((κ 404).getD 0)),iz 0])) (λκ:ag=>[bv ((κ 404).getD 0) ((.map none)::(iz 0)::(iz 0)::(iN q.c)::(.map none)::(iz 0)::(iz 0)::(iN q.c)::(.map none)::(iz 0)::(iz 0)::(iz 0)::(.map none)::(iz 0)::(iz 0)::(iz 0)::(.map none)::(iz 0)::(iz 0)::(iz 0)::(.map none)::(iz 0)::(iz 0)::(iz 0)::(.map none)::(iz 0)::(iz 0)::(iz 0)::(.map none)::(iz 0)::(iz 0)::(iz 0)::(.map none)::(iz 0)::(iz 0)::(iz 0)::(.map none)::(iz 0)::(iz 0)::(iz 0)::(.map none)::(iz 0)::(iz 0)::(iz 0)::(.map none)::(iz 0)::(iz 0)::(iz 0)::(.map none)::(iz 0)::(iz 0)::(iz 0)::(.map none)::(iz 0)::(iz 0)::(iz 0)::(.map none)::(iz 0)::(iz 0)::(iz 0)::(.map none)::(iz 0)::(iz 0)::(iz 0)::(iz 2)::(dv κ 403)::[]) 79,jM prog 3 3 (dv κ 403) 0 (λ_=>none)]):=by have z:=q.z;exact(br (c:=⟨q.W0,q.F0⟩) 20 (kn [iN (q.c)] fr [(.lss,sy 0,iz 0,.bool false),(.gtr,sy 0,iz 1073741824,.bool false)] [] [] (fc (λ_ _ _=>ax (by first|(simp;done)|(simp;omega))) (fc (λ_ _ _=>bJ (by first|(simp;done)|(simp;omega))) fn)) fn fn q.W0 q.F0 [[],tH] [⟨[18,71],[],none,0,some 403,.complex .f32 403 0,some 1⟩] []) (fc (sZ rfl rfl) fn) fn rfl [] [] [(404,(.map none::.int .i64 0::.int .i64 0::sy 0::.map none::.int .i64 0::.int .i64 0::sy 0::.map none::.int .i64 0::.int .i64 0::.int .i64 0::.map none::.int .i64 0::.int .i64 0::.int .i64 0::.map none::.int .i64 0::.int .i64 0::.int .i64 0::.map none::.int .i64 0::.int .i64 0::.int .i64 0::.map none::.int .i64 0::.int .i64 0::.int .i64 0::.map none::.int .i64 0::.int .i64 0::.int .i64 0::.map none::.int .i64 0::.int .i64 0::.int .i64 0::.map none::.int .i64 0::.int .i64 0::.int .i64 0::.map none::.int .i64 0::.int .i64 0::.int .i64 0::.map none::.int .i64 0::.int .i64 0::.int .i64 0::.map none::.int .i64 0::.int .i64 0::.int .i64 0::.map none::.int .i64 0::.int .i64 0::.int .i64 0::.map none::.int .i64 0::.int .i64 0::.int .i64 0::.map none::.int .i64 0::.int .i64 0::.int .i64 0::.int .i64 2::.complex .f32 403 0::[]),79)] 1 rfl rfl [(0,iz 2),(1,sy 0)] (.tuple #[.pointer (some ⟨404,0,none⟩),iz 0])).conv (λκ w=>⟨(λ_ h=>h),(λ_ h=>bN (a:=λv=>jM prog 3 3 v 0 (λ_=>none)) (λ_ _ _ _ _ h=>h) h),trivial⟩)
theorem OP(q:NQ):aI prog 7 [] 0 44 ⟨q.W0,q.F0⟩ [(0,iz 3),(1,iN q.c)] [] (λκ:ag=>(.tuple #[(pz ((κ 404).getD 0)),iz 0])) (λκ:ag=>[bv ((κ 404).getD 0) ((.map none)::(iz 0)::(iz 0)::(iN q.c)::(.map none)::(iz 0)::(iz 0)::(iN q.c)::(.map none)::(iz 0)::(iz 0)::(iN q.c)::(.map none)::(iz 0)::(iz 0)::(iz 0)::(.map none)::(iz 0)::(iz 0)::(iz 0)::(.map none)::(iz 0)::(iz 0)::(iz 0)::(.map none)::(iz 0)::(iz 0)::(iz 0)::(.map none)::(iz 0)::(iz 0)::(iz 0)::(.map none)::(iz 0)::(iz 0)::(iz 0)::(.map none)::(iz 0)::(iz 0)::(iz 0)::(.map none)::(iz 0)::(iz 0)::(iz 0)::(.map none)::(iz 0)::(iz 0)::(iz 0)::(.map none)::(iz 0)::(iz 0)::(iz 0)::(.map none)::(iz 0)::(iz 0)::(iz 0)::(.map none)::(iz 0)::(iz 0)::(iz 0)::(.map none)::(iz 0)::(iz 0)::(iz 0)::(iz 3)::(dv κ 403)::[]) 79,jM prog 3 3 (dv κ 403) 0 (λ_=>none)]):=by have z:=q.z;exact(br (c:=⟨q.W0,q.F0⟩) 20 (kn [iN (q.c)] fr [(.lss,sy 0,iz 0,.bool false),(.gtr,sy 0,iz 1073741824,.bool false)] [] [] (fc (λ_ _ _=>ax (by first|(simp;done)|(simp;omega))) (fc (λ_ _ _=>bJ (by first|(simp;done)|(simp;omega))) fn)) fn fn q.W0 q.F0 [[],tH] [⟨[18,71],[],none,0,some 403,.complex .f32 403 0,some 1⟩] []) (fc (sZ rfl rfl) fn) fn rfl [] [] [(404,(.map none::.int .i64 0::.int .i64 0::sy 0::.map none::.int .i64 0::.int .i64 0::sy 0::.map none::.int .i64 0::.int .i64 0::sy 0::.map none::.int .i64 0::.int .i64 0::.int .i64 0::.map none::.int .i64 0::.int .i64 0::.int .i64 0::.map none::.int .i64 0::.int .i64 0::.int .i64 0::.map none::.int .i64 0::.int .i64 0::.int .i64 0::.map none::.int .i64 0::.int .i64 0::.int .i64 0::.map none::.int .i64 0::.int .i64 0::.int .i64 0::.map none::.int .i64 0::.int .i64 0::.int .i64 0::.map none::.int .i64 0::.int .i64 0::.int .i64 0::.map none::.int .i64 0::.int .i64 0::.int .i64 0::.map none::.int .i64 0::.int .i64 0::.int .i64 0::.map none::.int .i64 0::.int .i64 0::.int .i64 0::.map none::.int .i64 0::.int .i64 0::.int .i64 0::.map none::.int .i64 0::.int .i64 0::.int .i64 0::.int .i64 3::.complex .f32 403 0::[]),79)] 1 rfl rfl [(0,iz 3),(1,sy 0)] (.tuple #[.pointer (some ⟨404,0,none⟩),iz 0])).conv (λκ w=>⟨(λ_ h=>h),(λ_ h=>bN (a:=λv=>jM prog 3 3 v 0 (λ_=>none)) (λ_ _ _ _ _ h=>h) h),trivial⟩)
theorem OQ(q:NQ):dH prog 20 [] 0 3 31 ⟨q.W0,q.F0⟩ [(0,iN q.n)] [] .normal (λκ:ag=>[(0,iN q.n),(2,(pz ((κ 400).getD 0))),(3,(pz ((κ 404).getD 0))),(4,iz 0)]) (λκ:ag=>[bv ((κ 400).getD 0) oM 55,bv ((κ 404).getD 0) oM 55]):=(tr (c:=⟨q.W0,q.F0⟩) (kn [iN (q.n)] fr [] [] [] fn fn fn q.W0 q.F0 [[]] [] []) fn fn rfl [] [] [(400,[.slice none 0 0,.slice none 0 0,.slice none 0 0],55),(404,[.slice none 0 0,.slice none 0 0,.slice none 0 0],55)] 0 rfl rfl [(0,sy 0)] [(0,sy 0),(2,.pointer (some ⟨400,0,none⟩)),(3,.pointer (some ⟨404,0,none⟩)),(4,iz 0)] .normal)
theorem OS(q:NQ)(b4 b8:Nat)(us ub ur:Value)(wh:aR us=true)(lub:aR ub=true)(wi:aR ur=true)(st bn rw:List Int)(hll:st.length<=12/\bn.length<=12/\rw.length<=12)(ix:Nat)(hi:ix<q.n):dH prog 20 [6,0] 0 4 31 ⟨q.W0,q.F0⟩ [(0,iN q.n),(2,pz b4),(3,pz b8),(4,iN ix)] (oO b4 b8 us ub ur st bn rw) .normal (λκ:ag=>[(0,iN q.n),(2,pz b4),(3,pz b8),(4,(iN ((ix)+1)))]) (λκ:ag=>[bv b4 oM 55,bv b8 [dv κ 407,dv κ 415,dv κ 423] 55,aO 3 1 (dv κ 407) (st.length+1) ((aB st)++[iz 0]),aO 3 1 (dv κ 415) (bn.length+1) ((aB bn)++[iz 0]),aO 3 1 (dv κ 423) (rw.length+1) ((aB rw)++[iN ix])]):=by have z:=q.z;obtain⟨i,i1,i2,i3,i4⟩:=aT;exact(tr (c:=⟨q.W0,q.F0⟩) (kn [us,ub,ur,iN (q.n),iN (ix),iN ((ix)+1)] (fc (by assumption) (fc (by assumption) (fc (by assumption) fr))) [(.lss,sy 4,sy 3,.bool true),(.lss,sy 4,iz 256,.bool true),(.add,sy 4,iz 1,sy 5)] [] [] (fc (λ_ _ _=>ax (by first|(simp;done)|(simp;omega))) (fc (λ_ _ _=>ax (by first|(simp;done)|(simp;omega))) (fc (λ_ _ _=>bM (by rw[aM (by omega) (by omega)];omega)) fn))) fn fn q.W0 q.F0 [(tJ us ub ur st bn rw),[(tK st),aO 3 1 (ub) (bn.length) (aB bn),(mL ur rw)],[(tK st),ce 415 (λv=>aO 3 1 v (bn.length+1) ((aB bn)++[iz 0])),(mL ur rw)],[(tK st),ce 415 (λv=>aO 3 1 v (bn.length+1) ((aB bn)++[iz 0])),ce 423 (λv=>aO 3 1 v (rw.length+1) ((aB rw)++[iN ix]))]] [⟨[11,37,37],[sy 0],some (1,1,[iz 0]),0,some 407,.complex .f32 407 0,some 1⟩,⟨[11,37,37],[sy 1],some (1,1,[iz 0]),1,some 415,.complex .f32 415 0,some 2⟩,⟨[11,37,37],[sy 2],some (1,1,[sy 4]),2,some 423,.complex .f32 423 0,some 3⟩] []) (fc (by exact iA (ci:=1) (m:=1) (cs:=[iz 0]) rfl rfl rfl underlying37 underlying37 i1 i2 (by omega) i3 (by rw[i2];rfl) (by rw[i4];omega) (by omega) rfl rfl (ak (by kernel_rfl) (by kernel_rfl))) (fc (by exact iA (ci:=2) (m:=1) (cs:=[iz 0]) rfl rfl rfl underlying37 underlying37 i1 i2 (by omega) i3 (by rw[i2];rfl) (by rw[i4];omega) (by omega) rfl rfl (ak (by kernel_rfl) (by kernel_rfl))) (fc (by exact iA (ci:=3) (m:=1) (cs:=[iN ix]) rfl rfl rfl underlying37 underlying37 i1 i2 (by omega) i3 (by rw[i2];rfl) (by rw[i4];omega) (by omega) rfl rfl (ak (by kernel_rfl) (by kernel_rfl))) fn))) fn rfl [(4,b4),(8,b8)] oN [(4,[.slice none 0 0,.slice none 0 0,.slice none 0 0],55),(8,[.complex .f32 407 0,.complex .f32 415 0,.complex .f32 423 0],55)] 3 rfl rfl tI [(0,sy 3),(2,.pointer (some ⟨4,0,none⟩)),(3,.pointer (some ⟨8,0,none⟩)),(4,sy 5)] .normal).conv (λκ w=>⟨(λ_ h=>h),(λ_ h=>h),(λ_ h=>bN (a:=λv=>aO 3 1 v (st.length+1) ((aB st)++[iz 0])) (λ_ _ _ _ _ h=>h) h),(λ_ h=>bN (a:=λv=>aO 3 1 v (bn.length+1) ((aB bn)++[iz 0])) (λ_ _ _ _ _ h=>h) h),(λ_ h=>bN (a:=λv=>aO 3 1 v (rw.length+1) ((aB rw)++[iN ix])) (λ_ _ _ _ _ h=>h) h),trivial⟩)
theorem OT(q:NQ)(b4 b8:Nat)(us ub ur:Value)(wh:aR us=true)(lub:aR ub=true)(wi:aR ur=true)(st bn rw:List Int)(hll:st.length<=12/\bn.length<=12/\rw.length<=12)(ix:Nat)(hi:¬ ix<q.n):dH prog 20 [6,0] 0 2 31 ⟨q.W0,q.F0⟩ [(0,iN q.n),(2,pz b4),(3,pz b8),(4,iN ix)] (oO b4 b8 us ub ur st bn rw) (.exit 0) (λκ:ag=>[(0,iN q.n),(2,pz b4),(3,pz b8),(4,iN ix)]) (λκ:ag=>(oO b4 b8 us ub ur st bn rw)):=(tr (c:=⟨q.W0,q.F0⟩) (kn [us,ub,ur,iN (q.n),iN (ix)] (fc (by assumption) (fc (by assumption) (fc (by assumption) fr))) [(.lss,sy 4,sy 3,.bool false)] [] [] (fc (λ_ _ _=>ax (by have z:=q.z;first|(simp;done)|(simp;omega))) fn) fn fn q.W0 q.F0 [(tJ us ub ur st bn rw)] [] []) fn fn rfl [(4,b4),(8,b8)] oN oN 0 rfl rfl tI tI (.exit 0))
theorem OU(q:NQ)(b4 b8:Nat)(us ub ur:Value)(wh:aR us=true)(lub:aR ub=true)(wi:aR ur=true)(st bn rw:List Int)(hll:st.length<=12/\bn.length<=12/\rw.length<=12)(ix:Nat):aI prog 20 [] 4 31 ⟨q.W0,q.F0⟩ [(2,pz b4),(3,pz b8)] (oO b4 b8 us ub ur st bn rw) (λκ:ag=>(.agg #[us,ub,ur])) (λκ:ag=>[bv b4 [us,ub,ur] 55,bv b8 [us,ub,ur] 55,aO 3 1 (us) (st.length) (aB st),aO 3 1 (ub) (bn.length) (aB bn),(mL ur rw)]):=(br (c:=⟨q.W0,q.F0⟩) 2 (kn [us,ub,ur] (fc (by assumption) (fc (by assumption) (fc (by assumption) fn))) [] [] [] fn fn fn q.W0 q.F0 [(tJ us ub ur st bn rw)] [] []) fn fn rfl [(4,b4),(8,b8)] oN [(4,[sy 0,sy 1,sy 2],55),(8,[sy 0,sy 1,sy 2],55)] 0 rfl rfl [(2,.pointer (some ⟨4,0,none⟩)),(3,.pointer (some ⟨8,0,none⟩))] (.agg #[sy 0,sy 1,sy 2]))
end Go.Proofs.Ytankbefdlbcdnaa
namespace Go.Proofs.Ytankbefdlbcdnaa
open Go.Ev Go.Proofs.Try
open Go.RowKit
open Go.Ev (iz iN pz)
set_option maxRecDepth 8000
attribute [local irreducible] dF
def cl(K c:Nat):Sem:=⟨K,λk=>if k<K then c else 0,λ_=>[],0⟩
section
variable{c:eO}{l:List aK}{w:World}{F:Nat->Prop}
theorem oP{l:List aK}{G:Nat->Prop}{w:World}{b i K:Nat}{cs:List Value}{t:TypeId}(h:bu l G w)(hi:l[i]? = some (bv b cs t))(hl:cs.length=K*2:=by rfl):n9 G 2 (.slice (some ⟨b,0,none⟩) K K) K cs w:=by
 obtain⟨⟨Fs,q⟩,lt⟩:=h;have hlt:i<Fs.length:=by rw[q.len];exact(List.getElem?_eq_some_iff.1 hi).1
 have hf:=List.getElem?_eq_getElem hlt;obtain⟨h1,h2⟩:=q.holds i _ _ hi hf;have hb:Fs[i] b:=(h1 b).2 rfl;refine⟨⟨hl,.inr ⟨b,0,K,rfl,⟨(Array.getElem?_eq_some_iff.1 h2).1,Nat.le_refl _⟩,λj hj=>?_⟩⟩,λ_=>(q.all b).2 ⟨i,_,hf,hb⟩⟩;simp[World.cell?,h2]
def Gr:xE:=⟨none,[],0,0,λ_=>none⟩
theorem fR{xs:List Value}{k:Nat}(h:xs[km k+0]? = some (.map none)/\xs[km k+0+1]? = some (iz 0)/\xs[km k+0+2]? = some (iz 0)):Gr.At xs k:=⟨h.1,h.2.1,h.2.2,bY.nil _ _,λ_=>rfl⟩
def zC(c b:Nat):List Value:=[.map none,iz 0,iz 0,iN c,.map none,iz 0,iz 0,iz 0,.map none,iz 0,iz 0,iz 0,.map none,iz 0,iz 0,iz 0]++([.map none,iz 0,iz 0,iz 0]++[.map none,iz 0,iz 0,iz 0]++[.map none,iz 0,iz 0,iz 0]++[.map none,iz 0,iz 0,iz 0]++[.map none,iz 0,iz 0,iz 0]++[.map none,iz 0,iz 0,iz 0]++[.map none,iz 0,iz 0,iz 0]++[.map none,iz 0,iz 0,iz 0]++[.map none,iz 0,iz 0,iz 0]++[.map none,iz 0,iz 0,iz 0]++[.map none,iz 0,iz 0,iz 0]++[.map none,iz 0,iz 0,iz 0])++[iz 1,.map (some b)]
theorem D2{c:Nat}(hc:c<=2)(h:bu [] F w) :
  Calls prog 7 #[iz 1,iN c] w λe w'=>∃ v cd,Ev.dec cd=v/\e=.returned (.tuple #[v,iz 0])/\ay ⟨w,F⟩ [mG v (cl 1 c)] w':=by
 refine ao (OM (nq w F 0 0 c ⟨by omega,by omega,hc⟩)) (by kernel_rfl) h (by simp) (by simp) (λκ w1 hh=>?_);generalize (κ 404).getD 0=bs at hh;obtain⟨b,e,h2⟩:=ay.jM (hh.sel [1,0]);have h3:=h2.sel [1,0];rw[e]at h3;have h4:ay ⟨w,F⟩ (sA bs (zC c b)::[qz b 0 (λ_=>none)]) w1:=iF (cs:=zC c b) h3;have hf:(⟨b,λ_=>none,zC c b,λ_=>Gr⟩:ky).Fits (cl 1 c):=by
  refine⟨⟨by kernel_rfl,by kernel_rfl,by kernel_rfl,by show(1:Int)<=16;decide⟩,λk hk=>?_,λk hk g hg=>by simp[cl]at hg,λg _=>rfl⟩
  match k,hk with
  | 0,_=>exact⟨fR ⟨rfl,rfl,rfl⟩,rfl,rfl⟩
  | 1,_=>exact⟨fR ⟨rfl,rfl,rfl⟩,rfl,rfl⟩
  | 2,_=>exact⟨fR ⟨rfl,rfl,rfl⟩,rfl,rfl⟩
  | 3,_=>exact⟨fR ⟨rfl,rfl,rfl⟩,rfl,rfl⟩
 have h5:ay ⟨w,F⟩ (qA bs ⟨b,λ_=>none,zC c b,λ_=>Gr⟩ 0++[]) w1:=by
  have h6:=bS (bS (bS (bS h4)));exact h6.sel [4,5,0,1,2,3]
 have h7:=dO (s:=cl 1 c) (l:=[]) hf h5;obtain⟨cd,hcd⟩:∃ cd,Ev.dec cd=pz bs:=⟨_,lL bs 0⟩;exact⟨pz bs,cd,hcd,rfl,h7.head (b:=mG (pz bs) (cl 1 c)) (λG h=>⟨bs,rfl,h⟩)⟩
theorem Gs(W:World)(B:Nat->Prop){c:Nat}(hc:c<=2)(h:bu [] F w) :
  Calls prog 21 #[iz 1,iN c] w λe w'=>∃ v cd,Ev.dec cd=v/\e=.returned v/\ay ⟨w,F⟩ [iL W B v (cl 1 c)] w':=by
 refine ao (OH (nq w F 0 0 c ⟨by omega,by omega,hc⟩)) (by kernel_rfl) h (by simp) (by simp) (λκ w1 hh=>⟨_,_,dU _ _ _ _,rfl,hh.jn (λG hG=>⟨λ_=>.slice none 0 0,.inl (oP (i:=0) (cs:=oh (cl 1 c).ct (λ_=>.slice none 0 0) 1) (K:=1) hG rfl),λk hk=>.inr (xT B W)⟩)⟩)
def zD(c b:Nat):List Value:=[.map none,iz 0,iz 0,iN c,.map none,iz 0,iz 0,iN c,.map none,iz 0,iz 0,iz 0,.map none,iz 0,iz 0,iz 0]++([.map none,iz 0,iz 0,iz 0]++[.map none,iz 0,iz 0,iz 0]++[.map none,iz 0,iz 0,iz 0]++[.map none,iz 0,iz 0,iz 0]++[.map none,iz 0,iz 0,iz 0]++[.map none,iz 0,iz 0,iz 0]++[.map none,iz 0,iz 0,iz 0]++[.map none,iz 0,iz 0,iz 0]++[.map none,iz 0,iz 0,iz 0]++[.map none,iz 0,iz 0,iz 0]++[.map none,iz 0,iz 0,iz 0]++[.map none,iz 0,iz 0,iz 0])++[iz 2,.map (some b)]
theorem D3{c:Nat}(hc:c<=2)(h:bu [] F w) :
  Calls prog 7 #[iz 2,iN c] w λe w'=>∃ v cd,Ev.dec cd=v/\e=.returned (.tuple #[v,iz 0])/\ay ⟨w,F⟩ [mG v (cl 2 c)] w':=by
 refine ao (OO (nq w F 0 0 c ⟨by omega,by omega,hc⟩)) (by kernel_rfl) h (by simp) (by simp) (λκ w1 hh=>?_);generalize (κ 404).getD 0=bs at hh;obtain⟨b,e,h2⟩:=ay.jM (hh.sel [1,0]);have h3:=h2.sel [1,0];rw[e]at h3;have h4:ay ⟨w,F⟩ (sA bs (zD c b)::[qz b 0 (λ_=>none)]) w1:=iF (cs:=zD c b) h3;have hf:(⟨b,λ_=>none,zD c b,λ_=>Gr⟩:ky).Fits (cl 2 c):=by
  refine⟨⟨by kernel_rfl,by kernel_rfl,by kernel_rfl,by show(2:Int)<=16;decide⟩,λk hk=>?_,λk hk g hg=>by simp[cl]at hg,λg _=>rfl⟩
  match k,hk with
  | 0,_=>exact⟨fR ⟨rfl,rfl,rfl⟩,rfl,rfl⟩
  | 1,_=>exact⟨fR ⟨rfl,rfl,rfl⟩,rfl,rfl⟩
  | 2,_=>exact⟨fR ⟨rfl,rfl,rfl⟩,rfl,rfl⟩
  | 3,_=>exact⟨fR ⟨rfl,rfl,rfl⟩,rfl,rfl⟩
 have h5:ay ⟨w,F⟩ (qA bs ⟨b,λ_=>none,zD c b,λ_=>Gr⟩ 0++[]) w1:=by
  have h6:=bS (bS (bS (bS h4)));exact h6.sel [4,5,0,1,2,3]
 have h7:=dO (s:=cl 2 c) (l:=[]) hf h5;obtain⟨cd,hcd⟩:∃ cd,Ev.dec cd=pz bs:=⟨_,lL bs 0⟩;exact⟨pz bs,cd,hcd,rfl,h7.head (b:=mG (pz bs) (cl 2 c)) (λG h=>⟨bs,rfl,h⟩)⟩
theorem Gt(W:World)(B:Nat->Prop){c:Nat}(hc:c<=2)(h:bu [] F w) :
  Calls prog 21 #[iz 2,iN c] w λe w'=>∃ v cd,Ev.dec cd=v/\e=.returned v/\ay ⟨w,F⟩ [iL W B v (cl 2 c)] w':=by
 refine ao (OI (nq w F 0 0 c ⟨by omega,by omega,hc⟩)) (by kernel_rfl) h (by simp) (by simp) (λκ w1 hh=>⟨_,_,dU _ _ _ _,rfl,hh.jn (λG hG=>⟨λ_=>.slice none 0 0,.inl (oP (i:=0) (cs:=oh (cl 2 c).ct (λ_=>.slice none 0 0) 2) (K:=2) hG rfl),λk hk=>.inr (xT B W)⟩)⟩)
def zE(c b:Nat):List Value:=[.map none,iz 0,iz 0,iN c,.map none,iz 0,iz 0,iN c,.map none,iz 0,iz 0,iN c,.map none,iz 0,iz 0,iz 0]++([.map none,iz 0,iz 0,iz 0]++[.map none,iz 0,iz 0,iz 0]++[.map none,iz 0,iz 0,iz 0]++[.map none,iz 0,iz 0,iz 0]++[.map none,iz 0,iz 0,iz 0]++[.map none,iz 0,iz 0,iz 0]++[.map none,iz 0,iz 0,iz 0]++[.map none,iz 0,iz 0,iz 0]++[.map none,iz 0,iz 0,iz 0]++[.map none,iz 0,iz 0,iz 0]++[.map none,iz 0,iz 0,iz 0]++[.map none,iz 0,iz 0,iz 0])++[iz 3,.map (some b)]
theorem D4{c:Nat}(hc:c<=2)(h:bu [] F w) :
  Calls prog 7 #[iz 3,iN c] w λe w'=>∃ v cd,Ev.dec cd=v/\e=.returned (.tuple #[v,iz 0])/\ay ⟨w,F⟩ [mG v (cl 3 c)] w':=by
 refine ao (OP (nq w F 0 0 c ⟨by omega,by omega,hc⟩)) (by kernel_rfl) h (by simp) (by simp) (λκ w1 hh=>?_);generalize (κ 404).getD 0=bs at hh;obtain⟨b,e,h2⟩:=ay.jM (hh.sel [1,0]);have h3:=h2.sel [1,0];rw[e]at h3;have h4:ay ⟨w,F⟩ (sA bs (zE c b)::[qz b 0 (λ_=>none)]) w1:=iF (cs:=zE c b) h3;have hf:(⟨b,λ_=>none,zE c b,λ_=>Gr⟩:ky).Fits (cl 3 c):=by
  refine⟨⟨by kernel_rfl,by kernel_rfl,by kernel_rfl,by show(3:Int)<=16;decide⟩,λk hk=>?_,λk hk g hg=>by simp[cl]at hg,λg _=>rfl⟩
  match k,hk with
  | 0,_=>exact⟨fR ⟨rfl,rfl,rfl⟩,rfl,rfl⟩
  | 1,_=>exact⟨fR ⟨rfl,rfl,rfl⟩,rfl,rfl⟩
  | 2,_=>exact⟨fR ⟨rfl,rfl,rfl⟩,rfl,rfl⟩
  | 3,_=>exact⟨fR ⟨rfl,rfl,rfl⟩,rfl,rfl⟩
 have h5:ay ⟨w,F⟩ (qA bs ⟨b,λ_=>none,zE c b,λ_=>Gr⟩ 0++[]) w1:=by
  have h6:=bS (bS (bS (bS h4)));exact h6.sel [4,5,0,1,2,3]
 have h7:=dO (s:=cl 3 c) (l:=[]) hf h5;obtain⟨cd,hcd⟩:∃ cd,Ev.dec cd=pz bs:=⟨_,lL bs 0⟩;exact⟨pz bs,cd,hcd,rfl,h7.head (b:=mG (pz bs) (cl 3 c)) (λG h=>⟨bs,rfl,h⟩)⟩
theorem Gu(W:World)(B:Nat->Prop){c:Nat}(hc:c<=2)(h:bu [] F w) :
  Calls prog 21 #[iz 3,iN c] w λe w'=>∃ v cd,Ev.dec cd=v/\e=.returned v/\ay ⟨w,F⟩ [iL W B v (cl 3 c)] w':=by
 refine ao (OJ (nq w F 0 0 c ⟨by omega,by omega,hc⟩)) (by kernel_rfl) h (by simp) (by simp) (λκ w1 hh=>⟨_,_,dU _ _ _ _,rfl,hh.jn (λG hG=>⟨λ_=>.slice none 0 0,.inl (oP (i:=0) (cs:=oh (cl 3 c).ct (λ_=>.slice none 0 0) 3) (K:=3) hG rfl),λk hk=>.inr (xT B W)⟩)⟩)
def zF(c b:Nat):List Value:=[.map none,iz 0,iz 0,iN c,.map none,iz 0,iz 0,iN c,.map none,iz 0,iz 0,iN c,.map none,iz 0,iz 0,iN c]++([.map none,iz 0,iz 0,iz 0]++[.map none,iz 0,iz 0,iz 0]++[.map none,iz 0,iz 0,iz 0]++[.map none,iz 0,iz 0,iz 0]++[.map none,iz 0,iz 0,iz 0]++[.map none,iz 0,iz 0,iz 0]++[.map none,iz 0,iz 0,iz 0]++[.map none,iz 0,iz 0,iz 0]++[.map none,iz 0,iz 0,iz 0]++[.map none,iz 0,iz 0,iz 0]++[.map none,iz 0,iz 0,iz 0]++[.map none,iz 0,iz 0,iz 0])++[iz 4,.map (some b)]
theorem D5{c:Nat}(hc:c<=2)(h:bu [] F w) :
  Calls prog 7 #[iz 4,iN c] w λe w'=>∃ v cd,Ev.dec cd=v/\e=.returned (.tuple #[v,iz 0])/\ay ⟨w,F⟩ [mG v (cl 4 c)] w':=by
 refine ao (NK (nq w F 0 0 c ⟨by omega,by omega,hc⟩)) (by kernel_rfl) h (by simp) (by simp) (λκ w1 hh=>?_);generalize (κ 404).getD 0=bs at hh;obtain⟨b,e,h2⟩:=ay.jM (hh.sel [1,0]);have h3:=h2.sel [1,0];rw[e]at h3;have h4:ay ⟨w,F⟩ (sA bs (zF c b)::[qz b 0 (λ_=>none)]) w1:=iF (cs:=zF c b) h3;have hf:(⟨b,λ_=>none,zF c b,λ_=>Gr⟩:ky).Fits (cl 4 c):=by
  refine⟨⟨by kernel_rfl,by kernel_rfl,by kernel_rfl,by show(4:Int)<=16;decide⟩,λk hk=>?_,λk hk g hg=>by simp[cl]at hg,λg _=>rfl⟩
  match k,hk with
  | 0,_=>exact⟨fR ⟨rfl,rfl,rfl⟩,rfl,rfl⟩
  | 1,_=>exact⟨fR ⟨rfl,rfl,rfl⟩,rfl,rfl⟩
  | 2,_=>exact⟨fR ⟨rfl,rfl,rfl⟩,rfl,rfl⟩
  | 3,_=>exact⟨fR ⟨rfl,rfl,rfl⟩,rfl,rfl⟩
 have h5:ay ⟨w,F⟩ (qA bs ⟨b,λ_=>none,zF c b,λ_=>Gr⟩ 0++[]) w1:=by
  have h6:=bS (bS (bS (bS h4)));exact h6.sel [4,5,0,1,2,3]
 have h7:=dO (s:=cl 4 c) (l:=[]) hf h5;obtain⟨cd,hcd⟩:∃ cd,Ev.dec cd=pz bs:=⟨_,lL bs 0⟩;exact⟨pz bs,cd,hcd,rfl,h7.head (b:=mG (pz bs) (cl 4 c)) (λG h=>⟨bs,rfl,h⟩)⟩
theorem Gv(W:World)(B:Nat->Prop){c:Nat}(hc:c<=2)(h:bu [] F w) :
  Calls prog 21 #[iz 4,iN c] w λe w'=>∃ v cd,Ev.dec cd=v/\e=.returned v/\ay ⟨w,F⟩ [iL W B v (cl 4 c)] w':=by
 refine ao (OL (nq w F 0 0 c ⟨by omega,by omega,hc⟩)) (by kernel_rfl) h (by simp) (by simp) (λκ w1 hh=>⟨_,_,dU _ _ _ _,rfl,hh.jn (λG hG=>⟨λ_=>.slice none 0 0,.inl (oP (i:=0) (cs:=oh (cl 4 c).ct (λ_=>.slice none 0 0) 4) (K:=4) hG rfl),λk hk=>.inr (xT B W)⟩)⟩)
theorem D6{K c:Nat}(hK:1<=K/\K<=4)(hc:c<=2)(h:bu [] F w) :
  Calls prog 7 #[iN K,iN c] w λe w'=>∃ v cd,Ev.dec cd=v/\e=.returned (.tuple #[v,iz 0])/\ay ⟨w,F⟩ [mG v (cl K c)] w':=by
 match K,hK with
 | 1,_=>exact D2 hc h
 | 2,_=>exact D3 hc h
 | 3,_=>exact D4 hc h
 | 4,_=>exact D5 hc h
theorem D7(W:World)(B:Nat->Prop){K c:Nat}(hK:1<=K/\K<=4)(hc:c<=2)(h:bu [] F w) :
  Calls prog 21 #[iN K,iN c] w λe w'=>∃ v cd,Ev.dec cd=v/\e=.returned v/\ay ⟨w,F⟩ [iL W B v (cl K c)] w':=by
 match K,hK with
 | 1,_=>exact Gs W B hc h
 | 2,_=>exact Gt W B hc h
 | 3,_=>exact Gu W B hc h
 | 4,_=>exact Gv W B hc h
theorem D8(W:World)(B:Nat->Prop){n:Nat}(hn:n<=12)(h:bu [] F w) :
  Calls prog 20 #[iN n] w λe w'=>∃ u cd,Ev.dec cd=u/\e=.returned (.agg #[aq 0 u,aq 1 u,aq 2 u])/\ay ⟨w,F⟩ [iI W B (aq 0 u) (aq 1 u) (aq 2 u) (bW n)] w':=by
 let q:=nq w F n 0 0 ⟨hn,by omega,by omega⟩
 let zs:Nat->List Int:=λk=>List.replicate k 0
 let rs:Nat->List Int:=λk=>(List.range k).map (λj:Nat=>(j:Int))
 have lz:∀ k,(zs k).length=k:=λk=>List.length_replicate
 have lr:∀ k,(rs k).length=k:=λk=>by simp[rs]
 refine bx (N:=31) (tm:=[(0,iN n)]) (by kernel_rfl) h (by simp) (by simp) (λA hA=>?_);refine OQ q A w _ hA ?_;intro κ A1 w1 g1;dsimp only at g1;generalize (κ 400).getD 0=b4 at g1;generalize (κ 404).getD 0=b8 at g1;refine cY (id:=0) (by kernel_rfl) ?_;refine eD (by kernel_rfl) (λ(x:Nat×Value×Value×Value) A w'=>Ev.At ⟨w,F⟩ 31 [(0,iN n),(2,pz b4),(3,pz b8),(4,iN x.1)] [bv b4 [.slice none 0 0,.slice none 0 0,.slice none 0 0] 55,bv b8 [x.2.1,x.2.2.1,x.2.2.2] 55,aO 3 1 x.2.1 (zs x.1).length (aB (zs x.1)),aO 3 1 x.2.2.1 (zs x.1).length (aB (zs x.1)),aO 3 1 x.2.2.2 (rs x.1).length (aB (rs x.1))] A w'/\x.1<=n) (λx=>n-x.1) (x:=(0,.slice none 0 0,.slice none 0 0,.slice none 0 0)) ⟨g1.to (λq hq=>hq) (λhh=>?_),Nat.zero_le _⟩ ?_
 ·have h1:=(((hh.pG (e := 3) (sz:=1)).pG (e := 3) (sz:=1)).pG (e := 3) (sz:=1))
  exact h1.sel [3,4,0,1,2]
 clear g1 hA A A1 w1;rintro⟨k,us,ub,ur⟩ A w1 ⟨g1,hx⟩;replace hx:k<=n:=hx;dsimp only at g1;have wh:=bV (g1.hold.sel [2]);have lub:=bV (g1.hold.sel [3]);have wi:=bV (g1.hold.sel [4])
 by_cases hk:k<n
 ·refine OS q b4 b8 us ub ur wh lub wi (zs k) (zs k) (rs k) ⟨by rw[lz];omega,by rw[lz];omega,by rw[lr];omega⟩ k hk A w1 _ g1 ?_
  intro κ2 A2 w2 g2;dsimp only at g2;refine db (by kernel_rfl) ⟨(k+1,Ev.dv κ2 407,Ev.dv κ2 415,Ev.dv κ2 423),⟨g2.to (λq hq=>hq) (λhh=>?_),by show k+1<=n;omega⟩,by show n-(k+1)<n-k;omega⟩;have e1:aB (zs (k+1))=aB (zs k)++[iz 0]:=by simp[zs,aB,List.replicate_succ']
  have e2:aB (rs (k+1))=aB (rs k)++[iN k]:=by simp[rs,aB,List.range_succ]
  show ay _ [_,_,aO 3 1 (Ev.dv κ2 407) (zs (k+1)).length (aB (zs (k+1))),aO 3 1 (Ev.dv κ2 415) (zs (k+1)).length (aB (zs (k+1))),aO 3 1 (Ev.dv κ2 423) (rs (k+1)).length (aB (rs (k+1)))] w2;have e3:(zs (k+1)).length=(zs k).length+1:=by rw[lz,lz]
  have e4:(rs (k+1)).length=(rs k).length+1:=by rw[lr,lr]
  rw[e1,e2,e3,e4];exact hh
 ·obtain rfl:k=n:=by omega
  have hll:(zs k).length<=12/\(zs k).length<=12/\(rs k).length<=12:=⟨by rw[lz];omega,by rw[lz];omega,by rw[lr];omega⟩;refine OT q b4 b8 us ub ur wh lub wi (zs k) (zs k) (rs k) hll k hk A w1 _ g1 ?_;intro κ2 A2 w2 g2;obtain⟨c1,h1⟩:=d7 (g2.hold.sel [2]);obtain⟨c2,h2⟩:=d7 (g2.hold.sel [3]);obtain⟨c3,h3⟩:=d7 (g2.hold.sel [4]);refine OU q b4 b8 us ub ur wh lub wi (zs k) (zs k) (rs k) hll k A2 w2 _ (g2.to (λq hq=>by rcases List.mem_cons.1 hq with rfl | hq;exact List.mem_cons_of_mem _ List.mem_cons_self;rw[List.mem_singleton.1 hq];exact List.mem_cons_of_mem _ (List.mem_cons_of_mem _ List.mem_cons_self)) (λhh=>hh)) ?_;intro κ3 w3 g3;refine⟨_,_,iM (fb c1 (fb c2 c3)),?_,?_⟩
  ·rw[gI,gJ,kA,h1,h2,h3]
  ·rw[gI,gJ,kA,h1,h2,h3]
   have es:cU (bW k)=zs k:=by simp[cU,bW,zs]
   have eb:pV (bW k)=zs k:=by simp[pV,bW,zs]
   have er:iH (bW k)=rs k:=by
    refine List.ext_getElem? (λi=>?_);simp only[iH,bW,pT,rs];rw[← List.map_reverse,List.map_map,List.getElem?_map,List.getElem?_map];rcases Nat.lt_or_ge i k with hi | hi
    ·rw[List.getElem?_reverse (by simpa using hi),List.length_range,List.getElem?_range (by omega),List.getElem?_range hi]
     simp;omega
    ·rw[List.getElem?_eq_none (by simpa using hi),List.getElem?_eq_none (by simpa using hi)]
     rfl
   refine(g3.sel [2,3,4]).jn (λG hG=>⟨.inl ?_,.inl ?_,.inl ?_,⟨_,h1⟩,⟨_,h2⟩,⟨_,h3⟩⟩)
   ·rw[es];exact cv (i:=0) hG rfl
   ·rw[eb];exact cv (i:=1) hG rfl
   ·rw[er];exact cv (i:=2) hG rfl
end
end Go.Proofs.Ytankbefdlbcdnaa
namespace Go.Proofs.Ytankbefdlbcdnaa
open Go.Ev Go.Proofs.Try
open Go.RowKit Go.Lib
open Go.Ev (sy)
theorem ko{a:aK}{F:Nat->Prop}{w:World}(h:bu [a] F w):∃ Fa,a.p (λ_=>none) Fa w/\∀ j,Fa j->F j:=by
 obtain⟨Fa,Fl,k1,k2,k3,k4⟩:=bT h;exact⟨Fa,k1,λj hj=>(k4 j).2 (.inl hj)⟩
theorem D9{l:List aK}{e:TypeId}{v':Value}{n:Nat}{xs:List Value}{F:Nat->Prop}{w w':World}(h:bu l F w)(ho:w'.ownsRow w.heap.size e 1 v' n xs)(hb:Below w.heap.size w w'):∃ v2 cd,Ev.dec cd=v2/\Ending.returned v'=.returned v2/\ay ⟨w,F⟩ (aO e 1 v2 n xs::l) w':=by
 obtain⟨hl,ho⟩:=ho;have key:∃ Fn,dG e 1 v' n xs Fn w'/\∀ j,Fn j->w.heap.size<=j:=by
  rcases ho with ⟨rfl,rfl⟩ | ⟨g,cap,cur,rfl,hg,hh,h1,h2,h3,h4⟩
  ·have:xs=[]:=List.eq_nil_of_length_eq_zero (by rw[hl])
   subst this;exact⟨λ_=>False,dG.nil e 1 w',λ_ h=>h.elim⟩
  ·refine⟨λj=>j=g,⟨hl,.inr ⟨g,0,cap,cur,rfl,λ_=>Iff.rfl,hh,λi hi=>?_,by rw[h3];omega,h1⟩⟩,λj hj=>by rw[hj];exact hg⟩
   rw[← h4,Nat.zero_add,List.getElem?_take_of_lt hi];simp
 obtain⟨Fn,k1,k2⟩:=key;obtain⟨cd,hcd⟩:=k1.code;have hk:bu l F w':=ft h (λj hj=>hb.block j (h.lt j hj)) hb.size;refine⟨v',cd,hcd,rfl,⟨⟨_,cf (a:=aO e 1 v' n xs) k1 hk (λj hj=>dG.lt k1 j hj) (λj hj hf=>?_),⟨hb.os,hb.tape,hb.output,hb.size,λj hj _=>hb.block j hj⟩,λj hj=>?_⟩⟩⟩
 ·have:=h.lt j hf
  have:=k2 j hj;omega
 ·exact hj.elim (λh=>.inr (k2 j h)) .inl
set_option maxHeartbeats 2000000 in
set_option maxRecDepth 100000 in
theorem tL(ad:Addr)(n c:Nat)(xs:List Value)(w:World)(hl:xs.length=n)(hn:n<=1000000)(hone:∀ u ∈ xs,u.oneCell'=true)(hc:∀ (j:Nat) u,xs[j]? = some u->w.cell? (ad.add j)=some u) :
  Calls prog 74 #[.slice (some ad) n c] w λe w'=>∃ v',e=.returned v'/\w'.ownsRow w.heap.size 3 1 v' n xs/\Below w.heap.size w w':=by
 have mixed:=jN;obtain⟨i0,hi,hz1,hz0,hz2⟩:=aT;have q22:∀ (w:World) (a:Option Addr) (n c n' c':Nat),(binOp .eql 37 (.slice a n c) (.slice none n' c')).run prog w=.ok (.bool a.isNone) w:=λw a n c n' c'=>Lib.run_eql_slice_nil w _ _ a n c n' c' underlying37
 have A:Aside (∀ (j:Nat) u,xs[j]? = some u->w.cell? (ad.add j)=some u):=hc;clear hc
 go_enter func74,ntmps74
 go_wp2_with (at_builtin;refine wpList_append_own _ rfl _ _ 37 rfl w.heap.size 3 i0 (.int .i64 0) 1 8 underlying37 hi hz0 hz1 hz2 rfl (by decide) _ _ _ rfl (World.ownsRow_made w #[] 0 (Nat.le_refl _) (Nat.zero_le _) rfl) ad n c xs rfl ?qc1 ?qc2 ?qc3 ?qc4 ?qc5 ?qc6 ?_)
 case qc1=>simp;omega
 case qc2 =>
  intro j u hj;refine Lib.cell?_alloc_some _ ?_;exact A.out j u hj
 case qc3=>exact hone
 case qc4=>unfold maxLen;omega
 case qc5=>omega
 case qc6=>simp
 intro v' w1 hown hgrow hnil
 go_wp2
 go_ret
 refine⟨v',rfl,by simpa using hown,?_⟩;exact((Below.refl _ w).alloc (Nat.le_refl _) _).grown hgrow (by simp) (by intro k hk;simp[Value.ownBlock]at hk;omega)
set_option maxHeartbeats 1000000 in
theorem qB(n c:Nat)(w:World) :
  Calls prog 74 #[.slice none n c] w λe w'=>e=.returned (.slice none 0 0)/\w'=w:=by
 have mixed:=jN;have q22:∀ (w:World) (a:Option Addr) (n c n' c':Nat),(binOp .eql 37 (.slice a n c) (.slice none n' c')).run prog w=.ok (.bool a.isNone) w:=λw a n c n' c'=>Lib.run_eql_slice_nil w _ _ a n c n' c' underlying37
 go_enter func74,ntmps74
 go_wp2
 go_ret
 exact⟨rfl,rfl⟩
theorem AY{v:Value}{n:Nat}{xs:List Value}{F:Nat->Prop}{w:World}(hn:n<=1000000)(hone:∀ u ∈ xs,u.oneCell'=true)(h:bu [aO 3 1 v n xs] F w) :
  Calls prog 74 #[v] w λe w'=>∃ v' cd,Ev.dec cd=v'/\e=.returned v'/\ay ⟨w,F⟩ [aO 3 1 v' n xs,aO 3 1 v n xs] w':=by
 obtain⟨Fa,h1,h2⟩:=ko h;obtain⟨hl,hr⟩:=dG.ro h1;rw[Nat.mul_one]at hl;have rx:∀ ad c,v=.slice (some ad) n c->(∀ (j:Nat) u,xs[j]? = some u->w.cell? (ad.add j)=some u)->Calls prog 74 #[v] w λe w'=>∃ v' cd,Ev.dec cd=v'/\e=.returned v'/\ay ⟨w,F⟩ [aO 3 1 v' n xs,aO 3 1 v n xs] w':=by
  rintro ad c rfl hc;refine(tL ad n c xs w hl hn hone hc).mono ?_;rintro e w' ⟨v',rfl,ho,hb⟩;exact D9 h ho hb
 rcases hr with ⟨rfl,a,c,rfl⟩ | ⟨b,off,c,rfl,_,hx⟩
 ·cases a with
  | some a=>exact rx a c rfl (λj u hj=>by rw[List.eq_nil_of_length_eq_zero hl]at hj;simp at hj)
  | none =>
   refine(qB 0 c w).mono ?_;rintro e w' ⟨rfl,rfl⟩;have hx0:xs=[]:=List.eq_nil_of_length_eq_zero hl;subst hx0;exact⟨_,_,(dG.nil 3 1 w').code.choose_spec,rfl,(ay.start h).pG⟩
 ·refine rx ⟨b,off,none⟩ c rfl (λj u hj=>?_)
  have hj':=(List.getElem?_eq_some_iff.1 hj).1;rw[dY,hx j (by omega),hj]
end Go.Proofs.Ytankbefdlbcdnaa
namespace Go.Proofs.Ytankbefdlbcdnaa
open Go.Ev Go.Proofs.Try
open Go.RowKit
open Go.Ev (sy iz uz wz iN uN wN pz dv fc fn ak vk vd kn pc cc cr cm cd fr)
set_option maxRecDepth 8000
attribute [local irreducible] dF
structure SN where
 W0:World
 F0:Nat->Prop
 bs:Nat
 xs:List Value
 hxs:xs.length=66
 nn:Nat
 hnn:xs[0+64]? = some (.int .i64 ((nn:Nat):Int))
 k:Nat
 g:Nat
 ct:Nat
 h:nn<=4/\k<4
theorem SN.z(q:SN):q.nn<=4/\q.k<4:=q.h
structure Hd where
 W0:World
 F0:Nat->Prop
 v:Value
 lv:aR v=true
 l:List Int
 n:Nat
 hn:l.length=n
 i:Nat
 j:Nat
 jj:Int
 x:Int
 y:Int
 h:n<=300/\i<=300/\j<=300
theorem Hd.z(q:Hd):q.n<=300/\q.i<=300/\q.j<=300:=q.h
abbrev gE(q:SN):List aK:=[aO 79 1 (ap q.bs 66) 66 (q.xs)]
abbrev D_(q:SN):List (Nat×Value):=[(0,(au (ap q.bs 66) (0))),(1,iN q.k)]
abbrev zH:List g_:=[(4,[sy 0,sy 1],83)]
abbrev Ea(q:TQ):List aK:=[aO 87 2 (q.av) (q.gs.length) (mQ q.gs),aO 3 1 (q.fv) (q.fr.length) (aB q.fr)]
abbrev tM(q:TQ):List aK:=[bv q.bt [q.av,q.fv] 83,aO 87 2 (q.av) (q.gs.length) (mQ q.gs),aO 3 1 (q.fv) (q.fr.length) (aB q.fr)]
abbrev jV(q:Hd):List aK:=[aO 3 1 (q.v) (q.n) (aB q.l)]
abbrev Eb(q:Hd):List aK:=[aO 3 1 (q.v) (q.n) (((aB q.l).set ((q.i)*1) (iz q.y)).set ((q.j)*1) (iz q.x))]
theorem OV(q:SN):aI prog 47 [] 0 9 ⟨q.W0,q.F0⟩ [(0,(au (ap q.bs 66) (0)))] (gE q) (λκ:ag=>(iN q.nn)) (λκ:ag=>(gE q)):=by have z:=q.z;exact(br (c:=⟨q.W0,q.F0⟩) 20 (kn [au (ap q.bs 66) (0),au (ap q.bs 66) (0+64),ap q.bs 66,iN (q.nn)] (fc (ae _ _) (fc (ae _ _) fr)) [] [] [] fn fn fn q.W0 q.F0 [gE q] [⟨[20,24],[sy 0,.pointer none],none,0,none,.bool false,none⟩,⟨[9],[sy 0],none,0,none,sy 0,none⟩,⟨[7,79,1],[sy 0],none,0,none,sy 1,none⟩,⟨[1,3],[sy 1],none,0,none,sy 3,none⟩] []) (fc (b5 rfl (by kernel_rfl)) (fc (ai rfl) (fc (by exact af (ci:=1) (fo:=64) rfl rfl (by omega) dJ rfl rfl) (fc (by exact ah (ci:=1) (m:=0+64) (x:=(iN q.nn)) rfl rfl aG q.hnn (by decide) rfl (λι=>(vk (by kernel_rfl) (by kernel_rfl)))) fn)))) fn rfl [] [] [] 0 rfl rfl [(0,sy 0)] (sy 3))
theorem OW(q:SN)(hk:q.k<q.nn)(hc:q.xs[0+0+(q.k)*4+3]? = some (.int .i64 ((q.ct:Nat):Int))):aI prog 48 [] 0 20 ⟨q.W0,q.F0⟩ (D_ q) (gE q) (λκ:ag=>(iN q.ct)) (λκ:ag=>(gE q)):=by have z:=q.z;exact(br (c:=⟨q.W0,q.F0⟩) 20 (kn [au (ap q.bs 66) (0),au (ap q.bs 66) (0+64),au (ap q.bs 66) (0+0),au (ap q.bs 66) (0+0+(q.k)*4),au (ap q.bs 66) (0+0+(q.k)*4+3),ap q.bs 66,iN (q.k),iN (q.nn),iN (q.ct)] (fc (ae _ _) (fc (ae _ _) (fc (ae _ _) (fc (ae _ _) (fc (ae _ _) fr))))) [(.geq,sy 6,iz 0,.bool true),(.lss,sy 6,sy 7,.bool true)] [] [] (fc (λ_ _ _=>aP (by first|(simp;done)|(simp;omega))) (fc (λ_ _ _=>ax (by first|(simp;done)|(simp;omega))) fn)) fn fn q.W0 q.F0 [gE q] [⟨[20,24],[sy 0,.pointer none],none,0,none,.bool false,none⟩,⟨[9],[sy 0],none,0,none,sy 0,none⟩,⟨[7,79,1],[sy 0],none,0,none,sy 1,none⟩,⟨[1,3],[sy 1],none,0,none,sy 7,none⟩,⟨[7,79,0],[sy 0],none,0,none,sy 2,none⟩,⟨[3,77],[sy 2,sy 6],none,0,none,sy 3,none⟩,⟨[7,76,1],[sy 3],none,0,none,sy 4,none⟩,⟨[1,3],[sy 4],none,0,none,sy 8,none⟩] []) (fc (b5 rfl (by kernel_rfl)) (fc (ai rfl) (fc (by exact af (ci:=1) (fo:=64) rfl rfl (by omega) dJ rfl rfl) (fc (by exact ah (ci:=1) (m:=0+64) (x:=(iN q.nn)) rfl rfl aG q.hnn (by decide) rfl (λι=>(vk (by kernel_rfl) (by kernel_rfl)))) (fc (by exact af (ci:=1) (fo:=0) rfl rfl (by omega) fg rfl rfl) (fc (by obtain⟨i,i1,i2,i3,i4⟩:=jd;exact hH (ci:=1) (j:=(q.k)) rfl rfl (by omega) underlying77 i1 i2 rfl rfl (by omega) rfl) (fc (by exact af (ci:=1) (fo:=3) rfl rfl (by omega) kj rfl rfl) (fc (by exact ah (ci:=1) (m:=0+0+(q.k)*4+3) (x:=(iN q.ct)) rfl rfl aG hc (by omega) rfl (λι=>(vk (by kernel_rfl) (by kernel_rfl)))) fn)))))))) fn rfl [] [] [] 0 rfl rfl [(0,sy 0),(1,sy 6)] (sy 8))
theorem OX(q:SN)(hk:q.nn<=q.k):aI prog 56 [] 0 56 ⟨q.W0,q.F0⟩ [(0,(au (ap q.bs 66) (0))),(1,iN q.k),(2,iN q.g)] (gE q) (λκ:ag=>(.tuple #[.bool false,iz 2])) (λκ:ag=>(gE q)):=by have z:=q.z;exact(br (c:=⟨q.W0,q.F0⟩) 20 (kn [au (ap q.bs 66) (0),au (ap q.bs 66) (0+64),ap q.bs 66,iN (q.k),iN (q.g),iN (q.nn)] (fc (ae _ _) (fc (ae _ _) fr)) [(.geq,sy 3,iz 0,.bool true),(.lss,sy 3,sy 5,.bool false)] [] [] (fc (λ_ _ _=>aP (by first|(simp;done)|(simp;omega))) (fc (λ_ _ _=>ax (by first|(simp;done)|(simp;omega))) fn)) fn fn q.W0 q.F0 [gE q] [⟨[20,24],[sy 0,.pointer none],none,0,none,.bool false,none⟩,⟨[9],[sy 0],none,0,none,sy 0,none⟩,⟨[7,79,1],[sy 0],none,0,none,sy 1,none⟩,⟨[1,3],[sy 1],none,0,none,sy 5,none⟩] []) (fc (b5 rfl (by kernel_rfl)) (fc (ai rfl) (fc (by exact af (ci:=1) (fo:=64) rfl rfl (by omega) dJ rfl rfl) (fc (by exact ah (ci:=1) (m:=0+64) (x:=(iN q.nn)) rfl rfl aG q.hnn (by decide) rfl (λι=>(vk (by kernel_rfl) (by kernel_rfl)))) fn)))) fn rfl [] [] [] 0 rfl rfl [(0,sy 0),(1,sy 3),(2,sy 4)] (.tuple #[.bool false,iz 2]))
theorem OY(q:SN)(hk:q.nn<=q.k):aI prog 15 [] 0 20 ⟨q.W0,q.F0⟩ (D_ q) (gE q) (λκ:ag=>(.slice none 0 0)) (λκ:ag=>(gE q)):=by have z:=q.z;exact(br (c:=⟨q.W0,q.F0⟩) 20 (kn [au (ap q.bs 66) (0),au (ap q.bs 66) (0+64),ap q.bs 66,iN (q.k),iN (q.nn)] (fc (ae _ _) (fc (ae _ _) fr)) [(.geq,sy 3,iz 0,.bool true),(.lss,sy 3,sy 4,.bool false)] [] [] (fc (λ_ _ _=>aP (by first|(simp;done)|(simp;omega))) (fc (λ_ _ _=>ax (by first|(simp;done)|(simp;omega))) fn)) fn fn q.W0 q.F0 [gE q] [⟨[20,24],[sy 0,.pointer none],none,0,none,.bool false,none⟩,⟨[9],[sy 0],none,0,none,sy 0,none⟩,⟨[7,79,1],[sy 0],none,0,none,sy 1,none⟩,⟨[1,3],[sy 1],none,0,none,sy 4,none⟩] []) (fc (b5 rfl (by kernel_rfl)) (fc (ai rfl) (fc (by exact af (ci:=1) (fo:=64) rfl rfl (by omega) dJ rfl rfl) (fc (by exact ah (ci:=1) (m:=0+64) (x:=(iN q.nn)) rfl rfl aG q.hnn (by decide) rfl (λι=>(vk (by kernel_rfl) (by kernel_rfl)))) fn)))) fn rfl [] [] [] 0 rfl rfl [(0,sy 0),(1,sy 3)] (.slice none 0 0))
theorem OZ(q:SN)(hk:q.nn<=q.k):aI prog 57 [] 0 47 ⟨q.W0,q.F0⟩ (D_ q) (gE q) (λκ:ag=>(.tuple #[iz 0,.bool false,iz 2])) (λκ:ag=>(gE q)):=by have z:=q.z;exact(br (c:=⟨q.W0,q.F0⟩) 20 (kn [au (ap q.bs 66) (0),au (ap q.bs 66) (0+64),ap q.bs 66,iN (q.k),iN (q.nn)] (fc (ae _ _) (fc (ae _ _) fr)) [(.geq,sy 3,iz 0,.bool true),(.lss,sy 3,sy 4,.bool false)] [] [] (fc (λ_ _ _=>aP (by first|(simp;done)|(simp;omega))) (fc (λ_ _ _=>ax (by first|(simp;done)|(simp;omega))) fn)) fn fn q.W0 q.F0 [gE q] [⟨[20,24],[sy 0,.pointer none],none,0,none,.bool false,none⟩,⟨[9],[sy 0],none,0,none,sy 0,none⟩,⟨[7,79,1],[sy 0],none,0,none,sy 1,none⟩,⟨[1,3],[sy 1],none,0,none,sy 4,none⟩] []) (fc (b5 rfl (by kernel_rfl)) (fc (ai rfl) (fc (by exact af (ci:=1) (fo:=64) rfl rfl (by omega) dJ rfl rfl) (fc (by exact ah (ci:=1) (m:=0+64) (x:=(iN q.nn)) rfl rfl aG q.hnn (by decide) rfl (λι=>(vk (by kernel_rfl) (by kernel_rfl)))) fn)))) fn rfl [] [] [] 0 rfl rfl [(0,sy 0),(1,sy 3)] (.tuple #[iz 0,.bool false,iz 2]))
theorem O1(q:TQ):aI prog 50 [] 0 10 ⟨q.W0,q.F0⟩ [(0,pz q.bt)] (tM q) (λκ:ag=>(iN q.gs.length)) (λκ:ag=>(tM q)):=(br (c:=⟨q.W0,q.F0⟩) 20 (kn [q.av,q.fv,iN (q.gs.length)] (fc q.fh (fc q.fC fr)) [] [] [] fn fn fn q.W0 q.F0 [Ea q] [⟨[10,81],[sy 0],none,0,none,sy 2,none⟩] []) (fc (by obtain⟨i,i1,i2,i3,i4⟩:=eI;exact de (ci:=1) rfl rfl underlying81 i2 rfl rfl) fn) fn rfl [(4,q.bt)] zH zH 0 rfl rfl [(0,.pointer (some ⟨4,0,none⟩))] (sy 2))
theorem O2(q:TQ)(hj:q.gs[q.j]? = some ((q.a:Int),q.b))(hl:q.j<q.gs.length):aI prog 65 [] 0 17 ⟨q.W0,q.F0⟩ [(0,pz q.bt),(1,iN q.j)] (tM q) (λκ:ag=>(iz q.b)) (λκ:ag=>(tM q)):=by have z:=q.z;obtain⟨i,i1,i2,i3,i4⟩:=eI;exact(br (c:=⟨q.W0,q.F0⟩) 20 (kn [q.av,q.fv,au (q.av) ((q.j)*2),au (q.av) ((q.j)*2+1),iN (q.j),iN (q.gs.length),iz (q.b)] (fc q.fh (fc q.fC (fc (ae _ _) (fc (ae _ _) fr)))) [(.geq,sy 4,iz 0,.bool true),(.lss,sy 4,sy 5,.bool true)] [] [] (fc (λ_ _ _=>aP (by first|(simp;done)|(simp;omega))) (fc (λ_ _ _=>ax (by first|(simp;done)|(simp;omega))) fn)) fn fn q.W0 q.F0 [Ea q] [⟨[10,81],[sy 0],none,0,none,sy 5,none⟩,⟨[3,81],[sy 0,sy 4],none,0,none,sy 2,none⟩,⟨[7,87,1],[sy 2],none,0,none,sy 3,none⟩,⟨[1,3],[sy 3],none,0,none,sy 6,none⟩] []) (fc (by exact de (ci:=1) rfl rfl underlying81 i2 rfl rfl) (fc (by exact bZ (ci:=1) (j:=(q.j)) rfl rfl underlying81 i1 i2 rfl rfl (by omega) rfl) (fc (by exact af (ci:=1) (fo:=1) rfl rfl (by omega) zl rfl rfl) (fc (by exact ah (ci:=1) (m:=(q.j)*2+1) (x:=(iz q.b)) rfl rfl aG (nC hj).2 (by omega) rfl (λι=>(vk (by kernel_rfl) (by kernel_rfl)))) fn)))) fn rfl [(4,q.bt)] zH zH 0 rfl rfl [(0,.pointer (some ⟨4,0,none⟩)),(1,sy 4)] (sy 6))
theorem O4(q:Hd):dH prog 75 [] 0 1 28 ⟨q.W0,q.F0⟩ [(0,(q.v))] (jV q) .normal (λκ:ag=>[(0,(q.v)),(2,iz 0),(3,(iz ((q.n:Int)-1)))]) (λκ:ag=>(jV q)):=(tr (c:=⟨q.W0,q.F0⟩) (kn [q.v,iN (q.n),iz ((q.n:Int)-1)] (fc q.lv fr) [(.sub,sy 1,iz 1,sy 2)] [] [] (fc (λ_ _ _=>jE (by have z:=q.z;exact aM (by omega) (by omega))) fn) fn fn q.W0 q.F0 [jV q] [⟨[10,37],[sy 0],none,0,none,sy 1,none⟩] []) (fc (by obtain⟨i,i1,i2,i3,i4⟩:=aT;exact de (ci:=1) rfl rfl underlying37 i2 rfl rfl) fn) fn rfl [] [] [] 0 rfl rfl [(0,sy 0)] [(0,sy 0),(2,iz 0),(3,sy 2)] .normal)
theorem O5(q:Hd)(hx:q.l[q.i]? = some q.x)(hy:q.l[q.j]? = some q.y)(hij:q.i<q.j)(hj:q.j<q.n):dH prog 75 [2,0] 0 4 28 ⟨q.W0,q.F0⟩ [(0,(q.v)),(2,iN q.i),(3,iN q.j)] (jV q) .normal (λκ:ag=>[(0,(q.v)),(2,(iN ((q.i)+1))),(3,iN (q.j-1))]) (λκ:ag=>(Eb q)):=by have z:=q.z;obtain⟨i,i1,i2,i3,i4⟩:=aT;exact(tr (c:=⟨q.W0,q.F0⟩) (kn [q.v,au (q.v) ((q.j)*1),au (q.v) ((q.i)*1),iN (q.i),iN (q.j),iN (q.j-1),iz (q.y),iz (q.x),iN ((q.i)+1)] (fc q.lv (fc (ae _ _) (fc (ae _ _) fr))) [(.lss,sy 3,sy 4,.bool true),(.add,sy 3,iz 1,sy 8),(.sub,sy 4,iz 1,sy 5)] [] [] (fc (λ_ _ _=>ax (by first|(simp;done)|(simp;omega))) (fc (λ_ _ _=>bM (by rw[aM (by omega) (by omega)];omega)) (fc (λ_ _ _=>jE (by rw[aM (by omega) (by omega)];omega)) fn))) fn fn q.W0 q.F0 [jV q,[aO 3 1 (q.v) (q.n) ((aB q.l).set ((q.i)*1) (iz q.y))],Eb q] [⟨[3,37],[sy 0,sy 4],none,0,none,sy 1,none⟩,⟨[1,3],[sy 1],none,0,none,sy 6,none⟩,⟨[3,37],[sy 0,sy 3],none,0,none,sy 2,none⟩,⟨[1,3],[sy 2],none,0,none,sy 7,none⟩,⟨[2,3],[sy 2,sy 6],none,0,none,undef,some 1⟩,⟨[3,37],[sy 0,sy 4],none,1,none,sy 1,none⟩,⟨[2,3],[sy 1,sy 7],none,1,none,undef,some 2⟩] []) (fc (by exact bZ (ci:=1) (j:=(q.j)) rfl rfl underlying37 i1 i2 rfl rfl (by omega) rfl) (fc (by exact ah (ci:=1) (m:=(q.j)*1) (x:=(iz q.y)) rfl rfl aG (by rw[Nat.mul_one];exact bp hy) (by omega) rfl (λι=>(vk (by kernel_rfl) (by kernel_rfl)))) (fc (by exact bZ (ci:=1) (j:=(q.i)) rfl rfl underlying37 i1 i2 rfl rfl (by omega) rfl) (fc (by exact ah (ci:=1) (m:=(q.i)*1) (x:=(iz q.x)) rfl rfl aG (by rw[Nat.mul_one];exact bp hx) (by omega) rfl (λι=>(vk (by kernel_rfl) (by kernel_rfl)))) (fc (by exact bD (ci:=1) (m:=(q.i)*1) (x:=(iz q.y)) rfl rfl rfl bE (by omega) rfl (cu rfl) rfl) (fc (by exact bZ (ci:=1) (j:=(q.j)) rfl rfl underlying37 i1 i2 rfl rfl (by omega) rfl) (fc (by exact bD (ci:=1) (m:=(q.j)*1) (x:=(iz q.x)) rfl rfl rfl bE (by omega) rfl (cu rfl) rfl) fn))))))) fn rfl [] [] [] 2 rfl rfl [(0,sy 0),(2,sy 3),(3,sy 4)] [(0,sy 0),(2,sy 8),(3,sy 5)] .normal)
theorem O6(q:Hd)(hij:¬ (q.i:Int)<q.jj):dH prog 75 [2,0] 0 2 28 ⟨q.W0,q.F0⟩ [(0,(q.v)),(2,iN q.i),(3,iz q.jj)] (jV q) (.exit 0) (λκ:ag=>[(0,(q.v))]) (λκ:ag=>(jV q)):=(tr (c:=⟨q.W0,q.F0⟩) (kn [q.v,iN (q.i),iz (q.jj)] (fc q.lv fr) [(.lss,sy 1,sy 2,.bool false)] [] [] (fc (λ_ _ _=>ax (by have z:=q.z;first|(simp;done)|(simp;omega))) fn) fn fn q.W0 q.F0 [jV q] [] []) fn fn rfl [] [] [] 0 rfl rfl [(0,sy 0),(2,sy 1),(3,sy 2)] [(0,sy 0)] (.exit 0))
theorem O7(q:tx)(hl:q.l.length=q.l2.length):dH prog 49 [] 0 4 26 ⟨q.W0,λ_=>False⟩ [(0,(q.v)),(1,(q.v2))] [] .normal (λκ:ag=>[(0,(q.v)),(1,(q.v2)),(5,iz 0)]) (λκ:ag=>[]):=(tr (c:=⟨q.W0,λ_=>False⟩) (kn [q.v,q.v2,iN (q.l.length),iN (q.l2.length)] (fc q.hv.leaf (fc q.hv2.leaf fr)) [(.neq,sy 2,sy 3,.bool false)] [] [] (fc (λ_ _ _=>gx (by have z:=q.z;first|(simp;done)|(simp;omega))) fn) fn fn q.W0 (λ_=>False) [[]] [⟨[10,37],[sy 0],none,0,none,sy 2,none⟩,⟨[10,37],[sy 1],none,0,none,sy 3,none⟩] []) (fc (bf (ci:=0) rfl rfl q.hv underlying37 rfl rfl) (fc (bf (ci:=0) rfl rfl q.hv2 underlying37 rfl rfl) fn)) fn rfl [] [] [] 0 rfl rfl [(0,sy 0),(1,sy 1)] [(0,sy 0),(1,sy 1),(5,iz 0)] .normal)
theorem O8(q:tx)(hi:q.i<q.l.length)(hi2:q.i<q.l2.length)(hy:q.l[q.i]? = some q.y)(hx:q.l2[q.i]? = some q.x)(hxy:q.x=q.y):dH prog 49 [8,0] 0 4 26 ⟨q.W0,λ_=>False⟩ [(0,(q.v)),(1,(q.v2)),(5,iN q.i)] [] .normal (λκ:ag=>[(0,(q.v)),(1,(q.v2)),(5,(iN ((q.i)+1)))]) (λκ:ag=>[]):=by have z:=q.z;obtain⟨i,i1,i2,i3,i4⟩:=aT;exact(tr (c:=⟨q.W0,λ_=>False⟩) (kn [q.v,q.v2,au (q.v) ((q.i)*1),au (q.v2) ((q.i)*1),iN (q.i),iN (q.l.length),iz (q.y),iz (q.x),iN ((q.i)+1)] (fc q.hv.leaf (fc q.hv2.leaf (fc (ae _ _) (fc (ae _ _) fr)))) [(.lss,sy 4,sy 5,.bool true),(.neq,sy 6,sy 7,.bool false),(.add,sy 4,iz 1,sy 8)] [] [] (fc (λ_ _ _=>ax (by first|(simp;done)|(simp;omega))) (fc (λ_ _ _=>gx (by first|(simp;done)|(simp;omega))) (fc (λ_ _ _=>bM (by rw[aM (by omega) (by omega)];omega)) fn))) fn fn q.W0 (λ_=>False) [[]] [⟨[10,37],[sy 0],none,0,none,sy 5,none⟩,⟨[3,37],[sy 0,sy 4],none,0,none,sy 2,none⟩,⟨[1,3],[sy 2],none,0,none,sy 6,none⟩,⟨[3,37],[sy 1,sy 4],none,0,none,sy 3,none⟩,⟨[1,3],[sy 3],none,0,none,sy 7,none⟩] []) (fc (bf (ci:=0) rfl rfl q.hv underlying37 rfl rfl) (fc (by exact bj (ci:=0) (j:=(q.i)) rfl rfl q.hv underlying37 i1 i2 rfl rfl (by omega) rfl) (fc (by exact bq (ci:=0) (m:=(q.i)*1) (x:=iz (q.y)) rfl rfl q.hv aG (by rw[Nat.mul_one];exact bp hy) rfl rfl (aH _)) (fc (by exact bj (ci:=0) (j:=(q.i)) rfl rfl q.hv2 underlying37 i1 i2 rfl rfl (by omega) rfl) (fc (by exact bq (ci:=0) (m:=(q.i)*1) (x:=iz (q.x)) rfl rfl q.hv2 aG (by rw[Nat.mul_one];exact bp hx) rfl rfl (aH _)) fn))))) fn rfl [] [] [] 0 rfl rfl [(0,sy 0),(1,sy 1),(5,sy 4)] [(0,sy 0),(1,sy 1),(5,sy 8)] .normal)
theorem O9(q:tx)(hi:¬ q.i<q.l.length):dH prog 49 [8,0] 0 2 26 ⟨q.W0,λ_=>False⟩ [(0,(q.v)),(1,(q.v2)),(5,iN q.i)] [] (.exit 0) (λκ:ag=>[(0,(q.v))]) (λκ:ag=>[]):=(tr (c:=⟨q.W0,λ_=>False⟩) (kn [q.v,q.v2,iN (q.i),iN (q.l.length)] (fc q.hv.leaf (fc q.hv2.leaf fr)) [(.lss,sy 2,sy 3,.bool false)] [] [] (fc (λ_ _ _=>ax (by have z:=q.z;first|(simp;done)|(simp;omega))) fn) fn fn q.W0 (λ_=>False) [[]] [⟨[10,37],[sy 0],none,0,none,sy 3,none⟩] []) (fc (bf (ci:=0) rfl rfl q.hv underlying37 rfl rfl) fn) fn rfl [] [] [] 0 rfl rfl [(0,sy 0),(1,sy 1),(5,sy 2)] [(0,sy 0)] (.exit 0))
theorem O_(q:tx):aI prog 49 [] 5 26 ⟨q.W0,λ_=>False⟩ [] [] (λκ:ag=>(.bool true)) (λκ:ag=>[]):=(br (c:=⟨q.W0,λ_=>False⟩) 2 (kn [] fn [] [] [] fn fn fn q.W0 (λ_=>False) [[]] [] []) fn fn rfl [] [] [] 0 rfl rfl [] (.bool true))
end Go.Proofs.Ytankbefdlbcdnaa
