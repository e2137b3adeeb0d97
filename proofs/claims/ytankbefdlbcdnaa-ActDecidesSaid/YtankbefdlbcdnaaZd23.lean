/- Part of a proof: see the last text. -/
import Derived.Test.YtankbefdlbcdnaaZd22
import Derived.Test.YtankbefdlbcdnaaZd21
set_option linter.unusedSimpArgs false
set_option linter.unusedVariables false
namespace Go.Proofs.Ytankbefdlbcdnaa
open Go.Ev Go.Proofs.Try
open Go.RowKit
open Go.Ev (sy iz uz wz iN uN wN pz dv fc fn ak vk vd kn pc cc cr cm cd fr)
set_option maxRecDepth 8000
attribute [local irreducible] dF
abbrev hZ(q:oJ):Value:=(.agg #[q.vs,q.vb,q.vr])
abbrev DO:List g_:=[(400,[sy 0,sy 1,sy 2],55),(404,[.slice none 0 0,.slice none 0 0,.slice none 0 0],55),(412,[.complex .f32 411 2,.complex .f32 411 3,.complex .f32 411 4],55)]
abbrev DP(q:oJ):List aK:=[ce 411 (λv=>aO 3 1 (aq 0 v) q.st.length (aB q.st)),ce 411 (λv=>aO 3 1 (aq 1 v) q.bn.length (aB q.bn)),ce 411 (λv=>aO 3 1 (aq 2 v) q.rw.length (aB q.rw))]
abbrev xM:List Value:=[.slice none 0 0,.slice none 0 0,.slice none 0 0]
abbrev xN:List g_:=[(4,[.slice none 0 0,.slice none 0 0,.slice none 0 0],55),(8,[sy 0,sy 1,sy 2],55)]
abbrev DR:List (Nat×Value):=[(1,sy 4),(2,sy 5),(6,.pointer (some ⟨4,0,none⟩)),(8,.pointer (some ⟨8,0,none⟩))]
abbrev jR(q:oJ)(ub:Value):aK:=aO 3 1 (ub) (q.bn.length) (aB q.bn)
abbrev h_(q:oJ)(ur:Value):aK:=aO 3 1 (ur) (q.rw.length) (aB q.rw)
abbrev xO(q:oJ)(us:Value)(ub:Value)(ur:Value):List aK:=[aO 3 1 (us) (q.st.length) (aB q.st),(jR q ub),(h_ q ur)]
abbrev pW(q:oJ)(us:Value):aK:=aO 3 1 (us) (q.st.length) ((aB q.st).set ((q.j)*1) (iN q.nx))
abbrev DS(q:oJ)(us:Value)(ub:Value)(ur:Value):List aK:=[(pW q us),(jR q ub),(h_ q ur)]
abbrev xP(q:oJ)(us:Value)(ub:Value)(ur:Value)(b4:Nat)(b8:Nat):List aK:=[bv b4 xM 55,bv b8 [us,ub,ur] 55,aO 3 1 (us) (q.st.length) (aB q.st),(jR q ub),(h_ q ur)]
abbrev xQ(q:oJ)(us:Value):aK:=aO 3 1 (us) (q.st.length) ((aB q.st).set ((q.j)*1) (iz 1))
theorem Ob(q:oJ)(hx:q.x<0):aI prog 23 [] 0 46 ⟨q.W0,λ_=>False⟩ [(0,hZ q),(1,iz q.x),(2,iN q.nx)] [] (λκ:ag=>(.tuple #[hZ q,iz 5])) (λκ:ag=>[]):=(br (c:=⟨q.W0,λ_=>False⟩) 40 (kn [q.vs,q.vb,q.vr,iz (q.x),iN (q.nx)] (fc q.hs.leaf (fc q.hb.leaf (fc q.hr.leaf fr))) [(.lss,sy 3,iz 0,.bool true)] [] [] (fc (λ_ _ _=>ax (by have z:=q.z;first|(simp;done)|(simp;omega))) fn) fn fn q.W0 (λ_=>False) [[]] [] []) fn fn rfl [] [] [] 0 rfl rfl [(0,.agg #[sy 0,sy 1,sy 2]),(1,sy 3),(2,sy 4)] (.tuple #[.agg #[sy 0,sy 1,sy 2],iz 5]))
theorem Oc(q:oJ)(hx:0<=q.x)(hx2:(q.st.length:Int)<=q.x):aI prog 23 [] 0 46 ⟨q.W0,λ_=>False⟩ [(0,hZ q),(1,iz q.x),(2,iN q.nx)] [] (λκ:ag=>(.tuple #[hZ q,iz 5])) (λκ:ag=>[]):=by have z:=q.z;exact(br (c:=⟨q.W0,λ_=>False⟩) 40 (kn [q.vs,q.vb,q.vr,iz (q.x),iN (q.nx),iN (q.st.length)] (fc q.hs.leaf (fc q.hb.leaf (fc q.hr.leaf fr))) [(.lss,sy 3,iz 0,.bool false),(.geq,sy 3,sy 5,.bool true)] [] [] (fc (λ_ _ _=>ax (by first|(simp;done)|(simp;omega))) (fc (λ_ _ _=>aP (by first|(simp;done)|(simp;omega))) fn)) fn fn q.W0 (λ_=>False) [[]] [⟨[10,37],[sy 0],none,0,none,sy 5,none⟩] []) (fc (bf (ci:=0) rfl rfl q.hs underlying37 rfl rfl) fn) fn rfl [] [] [] 0 rfl rfl [(0,.agg #[sy 0,sy 1,sy 2]),(1,sy 3),(2,sy 4)] (.tuple #[.agg #[sy 0,sy 1,sy 2],iz 5]))
theorem Od(q:oJ)(hj:q.st[q.j]? = some (q.a:Int))(hl:q.j<q.st.length)(hm:hO q.a q.nx=false):aI prog 23 [] 0 46 ⟨q.W0,λ_=>False⟩ [(0,hZ q),(1,iN q.j),(2,iN q.nx)] [] (λκ:ag=>(.tuple #[hZ q,iz 4])) (λκ:ag=>[]):=by have z:=q.z;exact(br (c:=⟨q.W0,λ_=>False⟩) 40 (kn [q.vs,q.vb,q.vr,au (q.vs) ((q.j)*1),iN (q.j),iN (q.nx),iN (q.st.length),iN (q.a)] (fc q.hs.leaf (fc q.hb.leaf (fc q.hr.leaf (fc (ae _ _) fr)))) [(.lss,sy 4,iz 0,.bool false),(.geq,sy 4,sy 6,.bool false)] [] [] (fc (λ_ _ _=>ax (by first|(simp;done)|(simp;omega))) (fc (λ_ _ _=>aP (by first|(simp;done)|(simp;omega))) fn)) fn fn q.W0 (λ_=>False) [[]] [⟨[10,37],[sy 0],none,0,none,sy 6,none⟩,⟨[3,37],[sy 0,sy 4],none,0,none,sy 3,none⟩,⟨[1,3],[sy 3],none,0,none,sy 7,none⟩] [⟨42,[sy 7,sy 5],0,none,.bool false,none⟩]) (fc (bf (ci:=0) rfl rfl q.hs underlying37 rfl rfl) (fc (by obtain⟨i,i1,i2,i3,i4⟩:=aT;exact bj (ci:=0) (j:=(q.j)) rfl rfl q.hs underlying37 i1 i2 rfl rfl (by omega) rfl) (fc (by exact bq (ci:=0) (m:=(q.j)*1) (x:=iN (q.a)) rfl rfl q.hs aG (by rw[Nat.mul_one];exact bp hj) rfl rfl (aH _)) fn))) (fc (pc (args:=[iN q.a,iN q.nx]) rfl (λw hb=>hm▸Hc q.a q.nx (by omega) (by omega) w)) fn) rfl [] [] [] 0 rfl rfl [(0,.agg #[sy 0,sy 1,sy 2]),(1,sy 4),(2,sy 5)] (.tuple #[.agg #[sy 0,sy 1,sy 2],iz 4]))
theorem Oe(q:oJ)(hj:q.st[q.j]? = some (q.a:Int))(hl:q.j<q.st.length)(hm:hO q.a q.nx=true):dH prog 23 [] 0 6 46 ⟨q.W0,λ_=>False⟩ [(0,hZ q),(1,iN q.j),(2,iN q.nx)] [] .normal (λκ:ag=>[(1,iN q.j),(2,iN q.nx),(6,(pz ((κ 404).getD 0))),(8,(pz ((κ 412).getD 0)))]) (λκ:ag=>[bv ((κ 400).getD 0) [q.vs,q.vb,q.vr] 55,bv ((κ 404).getD 0) xM 55,bv ((κ 412).getD 0) [(aq 0 (dv κ 411)),(aq 1 (dv κ 411)),(aq 2 (dv κ 411))] 55,aO 3 1 (aq 0 (dv κ 411)) q.st.length (aB q.st),aO 3 1 (aq 1 (dv κ 411)) q.bn.length (aB q.bn),aO 3 1 (aq 2 (dv κ 411)) q.rw.length (aB q.rw)]):=by have z:=q.z;exact(tr (c:=⟨q.W0,λ_=>False⟩) (kn [q.vs,q.vb,q.vr,au (q.vs) ((q.j)*1),iN (q.j),iN (q.nx),iN (q.st.length),iN (q.a)] (fc q.hs.leaf (fc q.hb.leaf (fc q.hr.leaf (fc (ae _ _) fr)))) [(.lss,sy 4,iz 0,.bool false),(.geq,sy 4,sy 6,.bool false)] [] [] (fc (λ_ _ _=>ax (by first|(simp;done)|(simp;omega))) (fc (λ_ _ _=>aP (by first|(simp;done)|(simp;omega))) fn)) fn fn q.W0 (λ_=>False) [[],DP q] [⟨[10,37],[sy 0],none,0,none,sy 6,none⟩,⟨[3,37],[sy 0,sy 4],none,0,none,sy 3,none⟩,⟨[1,3],[sy 3],none,0,none,sy 7,none⟩] [⟨42,[sy 7,sy 5],0,none,.bool true,none⟩,⟨41,[.agg #[sy 0,sy 1,sy 2]],0,some 411,.agg #[.complex .f32 411 2,.complex .f32 411 3,.complex .f32 411 4],some 1⟩]) (fc (bf (ci:=0) rfl rfl q.hs underlying37 rfl rfl) (fc (by obtain⟨i,i1,i2,i3,i4⟩:=aT;exact bj (ci:=0) (j:=(q.j)) rfl rfl q.hs underlying37 i1 i2 rfl rfl (by omega) rfl) (fc (by exact bq (ci:=0) (m:=(q.j)*1) (x:=iN (q.a)) rfl rfl q.hs aG (by rw[Nat.mul_one];exact bp hj) rfl rfl (aH _)) fn))) (fc (pc (args:=[iN q.a,iN q.nx]) rfl (λw hb=>hm▸Hc q.a q.nx (by omega) (by omega) w)) (fc (cd rfl [λv=>aO 3 1 (aq 0 v) q.st.length (aB q.st),λv=>aO 3 1 (aq 1 v) q.bn.length (aB q.bn),λv=>aO 3 1 (aq 2 v) q.rw.length (aB q.rw)] [] [] (λw F ho hn hF=>rj (q.hs.old ho (aH _)) (q.hb.old ho (aH _)) (q.hr.old ho (aH _)) ⟨q.h.1,q.h.2.1,q.h.2.2.1⟩ hn)) fn)) rfl [] [] DO 1 rfl rfl [(0,.agg #[sy 0,sy 1,sy 2]),(1,sy 4),(2,sy 5)] [(1,sy 4),(2,sy 5),(6,.pointer (some ⟨404,0,none⟩)),(8,.pointer (some ⟨412,0,none⟩))] .normal).conv (λκ w=>⟨(λ_ h=>h),(λ_ h=>h),(λ_ h=>h),(λ_ h=>bN (a:=λv=>aO 3 1 (aq 0 v) q.st.length (aB q.st)) (λ_ _ _ _ _ h=>h) h),(λ_ h=>bN (a:=λv=>aO 3 1 (aq 1 v) q.bn.length (aB q.bn)) (λ_ _ _ _ _ h=>h) h),(λ_ h=>bN (a:=λv=>aO 3 1 (aq 2 v) q.rw.length (aB q.rw)) (λ_ _ _ _ _ h=>h) h),trivial⟩)
theorem Og(q:oJ)(hl:q.j<q.st.length)(us ub ur:Value)(wh:aR us=true)(lub:aR ub=true)(wi:aR ur=true)(b4 b8:Nat)(h0:q.nx≠0):aI prog 23 [] 6 46 ⟨q.W0,λ_=>False⟩ [(1,iN q.j),(2,iN q.nx),(6,pz b4),(8,pz b8)] (xP q us ub ur b4 b8) (λκ:ag=>(.tuple #[(.agg #[us,ub,ur]),iz 0])) (λκ:ag=>[bv b4 [us,ub,ur] 55,bv b8 [us,ub,ur] 55,(pW q us),(jR q ub),(h_ q ur)]):=by have z:=q.z;exact(br (c:=⟨q.W0,λ_=>False⟩) 40 (kn [us,ub,ur,au (us) ((q.j)*1),iN (q.j),iN (q.nx)] (fc (by assumption) (fc (by assumption) (fc (by assumption) (fc (ae _ _) fr)))) [(.eql,sy 5,iz 0,.bool false)] [] [] (fc (λ_ _ _=>bL (by first|(simp;done)|(simp;omega))) fn) fn fn q.W0 (λ_=>False) [(xO q us ub ur),(DS q us ub ur)] [⟨[3,37],[sy 0,sy 4],none,0,none,sy 3,none⟩,⟨[2,3],[sy 3,sy 5],none,0,none,undef,some 1⟩] []) (fc (by obtain⟨i,i1,i2,i3,i4⟩:=aT;exact bZ (ci:=1) (j:=(q.j)) rfl rfl underlying37 i1 i2 rfl rfl (by omega) rfl) (fc (by exact bD (ci:=1) (m:=(q.j)*1) (x:=(iN q.nx)) rfl rfl rfl bE (by omega) rfl (cu rfl) rfl) fn)) fn rfl [(4,b4),(8,b8)] xN [(4,[sy 0,sy 1,sy 2],55),(8,[sy 0,sy 1,sy 2],55)] 1 rfl rfl DR (.tuple #[.agg #[sy 0,sy 1,sy 2],iz 0]))
theorem Oh(q:oJ)(hl:q.j<q.st.length)(us ub ur:Value)(wh:aR us=true)(lub:aR ub=true)(wi:aR ur=true)(b4 b8:Nat)(h0:q.nx=0):aI prog 23 [] 6 46 ⟨q.W0,λ_=>False⟩ [(1,iN q.j),(2,iN q.nx),(6,pz b4),(8,pz b8)] (xP q us ub ur b4 b8) (λκ:ag=>(.tuple #[(.agg #[us,ub,dv κ 411]),iz 0])) (λκ:ag=>[bv b4 [us,ub,dv κ 411] 55,bv b8 [us,ub,dv κ 411] 55,(pW q us),(jR q ub),(h_ q ur),aO 3 1 (dv κ 411) (1+q.rw.length) (([iN q.j])++(aB q.rw))]):=by have z:=q.z;obtain⟨i,i1,i2,i3,i4⟩:=aT;exact(br (c:=⟨q.W0,λ_=>False⟩) 40 (kn [us,ub,ur,au (us) ((q.j)*1),iN (q.j),iN (q.nx)] (fc (by assumption) (fc (by assumption) (fc (by assumption) (fc (ae _ _) fr)))) [(.eql,sy 5,iz 0,.bool true)] [] [] (fc (λ_ _ _=>bL (by first|(simp;done)|(simp;omega))) fn) fn fn q.W0 (λ_=>False) [(xO q us ub ur),(DS q us ub ur),[(pW q us),(jR q ub),(h_ q ur),ce 407 (λv=>aO 3 1 v 1 [iN q.j])],[(pW q us),(jR q ub),(h_ q ur),ce 411 (λv=>aO 3 1 v (1+q.rw.length) (([iN q.j])++(aB q.rw)))]] [⟨[3,37],[sy 0,sy 4],none,0,none,sy 3,none⟩,⟨[2,3],[sy 3,sy 5],none,0,none,undef,some 1⟩,⟨[24,37],[sy 4],none,1,some 407,.complex .f32 407 0,some 2⟩,⟨[11,37,37],[.complex .f32 407 0,sy 2],none,2,some 411,.complex .f32 411 0,some 3⟩] []) (fc (by exact bZ (ci:=1) (j:=(q.j)) rfl rfl underlying37 i1 i2 rfl rfl (by omega) rfl) (fc (by exact bD (ci:=1) (m:=(q.j)*1) (x:=(iN q.nx)) rfl rfl rfl bE (by omega) rfl (cu rfl) rfl) (fc (by exact ki rfl rfl underlying37 i1 i2 i3 rfl (cu rfl) rfl) (fc (by exact vK (ci:=4) (m:=q.rw.length) (cs:=aB q.rw) rfl rfl rfl (Nt (ci:=3) rfl rfl rfl) underlying37 underlying37 i1 i2 i3 (by rw[i2];rfl) (by rw[i4];omega) (by omega) gy) fn)))) fn rfl [(4,b4),(8,b8)] xN [(4,[sy 0,sy 1,.complex .f32 411 0],55),(8,[sy 0,sy 1,.complex .f32 411 0],55)] 3 rfl rfl DR (.tuple #[.agg #[sy 0,sy 1,.complex .f32 411 0],iz 0])).conv (λκ w=>⟨(λ_ h=>h),(λ_ h=>h),(λ_ h=>h),(λ_ h=>h),(λ_ h=>h),(λ_ h=>bN (a:=λv=>aO 3 1 v (1+q.rw.length) (([iN q.j])++(aB q.rw))) (λ_ _ _ _ _ h=>h) h),trivial⟩)
theorem Oi(q:oJ)(hz:q.rw.length=0):aI prog 22 [] 0 35 ⟨q.W0,λ_=>False⟩ [(0,hZ q)] [] (λκ:ag=>(.tuple #[hZ q,(.int .i64 (-1)),iz 130])) (λκ:ag=>[]):=(br (c:=⟨q.W0,λ_=>False⟩) 40 (kn [q.vs,q.vb,q.vr,iN (q.rw.length)] (fc q.hs.leaf (fc q.hb.leaf (fc q.hr.leaf fr))) [(.eql,sy 3,iz 0,.bool true)] [] [] (fc (λ_ _ _=>bL (decide_eq_true (by omega))) fn) fn fn q.W0 (λ_=>False) [[]] [⟨[10,37],[sy 2],none,0,none,sy 3,none⟩] []) (fc (bf (ci:=0) rfl rfl q.hr underlying37 rfl rfl) fn) fn rfl [] [] [] 0 rfl rfl [(0,.agg #[sy 0,sy 1,sy 2])] (.tuple #[.agg #[sy 0,sy 1,sy 2],.int .i64 (-1),iz 130]))
theorem Oj(q:oJ)(hp:0<q.rw.length):dH prog 22 [] 0 4 35 ⟨q.W0,λ_=>False⟩ [(0,hZ q)] [] .normal (λκ:ag=>[(2,(pz ((κ 404).getD 0))),(3,iz 0),(4,iz 0),(5,(pz ((κ 412).getD 0)))]) (λκ:ag=>[bv ((κ 400).getD 0) [q.vs,q.vb,q.vr] 55,bv ((κ 404).getD 0) xM 55,bv ((κ 412).getD 0) [(aq 0 (dv κ 411)),(aq 1 (dv κ 411)),(aq 2 (dv κ 411))] 55,aO 3 1 (aq 0 (dv κ 411)) q.st.length (aB q.st),aO 3 1 (aq 1 (dv κ 411)) q.bn.length (aB q.bn),aO 3 1 (aq 2 (dv κ 411)) q.rw.length (aB q.rw)]):=(tr (c:=⟨q.W0,λ_=>False⟩) (kn [q.vs,q.vb,q.vr,iN (q.rw.length)] (fc q.hs.leaf (fc q.hb.leaf (fc q.hr.leaf fr))) [(.eql,sy 3,iz 0,.bool false)] [] [] (fc (λ_ _ _=>bL (decide_eq_false (by omega))) fn) fn fn q.W0 (λ_=>False) [[],DP q] [⟨[10,37],[sy 2],none,0,none,sy 3,none⟩] [⟨41,[.agg #[sy 0,sy 1,sy 2]],0,some 411,.agg #[.complex .f32 411 2,.complex .f32 411 3,.complex .f32 411 4],some 1⟩]) (fc (bf (ci:=0) rfl rfl q.hr underlying37 rfl rfl) fn) (fc (cd rfl [λv=>aO 3 1 (aq 0 v) q.st.length (aB q.st),λv=>aO 3 1 (aq 1 v) q.bn.length (aB q.bn),λv=>aO 3 1 (aq 2 v) q.rw.length (aB q.rw)] [] [] (λw F ho hn hF=>rj (q.hs.old ho (aH _)) (q.hb.old ho (aH _)) (q.hr.old ho (aH _)) ⟨q.h.1,q.h.2.1,q.h.2.2.1⟩ hn)) fn) rfl [] [] DO 1 rfl rfl [(0,.agg #[sy 0,sy 1,sy 2])] [(2,.pointer (some ⟨404,0,none⟩)),(3,iz 0),(4,iz 0),(5,.pointer (some ⟨412,0,none⟩))] .normal).conv (λκ w=>⟨(λ_ h=>h),(λ_ h=>h),(λ_ h=>h),(λ_ h=>bN (a:=λv=>aO 3 1 (aq 0 v) q.st.length (aB q.st)) (λ_ _ _ _ _ h=>h) h),(λ_ h=>bN (a:=λv=>aO 3 1 (aq 1 v) q.bn.length (aB q.bn)) (λ_ _ _ _ _ h=>h) h),(λ_ h=>bN (a:=λv=>aO 3 1 (aq 2 v) q.rw.length (aB q.rw)) (λ_ _ _ _ _ h=>h) h),trivial⟩)
theorem Ol(q:oJ)(hp:0<q.rw.length)(h0:q.rw[0]? = some (q.j:Int))(hl:q.j<q.st.length)(hl2:q.j<q.bn.length)(hb:q.bn[q.j]? = some q.b)(us ub ur:Value)(wh:aR us=true)(lub:aR ub=true)(wi:aR ur=true)(b4 b8:Nat):aI prog 22 [] 4 35 ⟨q.W0,λ_=>False⟩ [(2,pz b4),(3,iz 0),(4,iz 0),(5,pz b8)] (xP q us ub ur b4 b8) (λκ:ag=>(.tuple #[(.agg #[us,ub,(Ev.cutV 1 (ur) 1 (q.rw.length))]),iN q.j,iz 0])) (λκ:ag=>[bv b4 [us,ub,(Ev.cutV 1 (ur) 1 (q.rw.length))] 55,bv b8 [us,ub,(Ev.cutV 1 (ur) 1 (q.rw.length))] 55,(xQ q us),aO 3 1 (ub) (q.bn.length) ((aB q.bn).set ((q.j)*1) (iz ((q.b)+1))),(h_ q ur)]):=by have z:=q.z;obtain⟨i,i1,i2,i3,i4⟩:=aT;exact(br (c:=⟨q.W0,λ_=>False⟩) 40 (kn [us,ub,ur,au (ur) (0*1),Ev.cutV 1 (ur) 1 (q.rw.length),au (us) ((q.j)*1),au (ub) ((q.j)*1),iN (q.j),iz (q.b),iz ((q.b)+1)] (fc (by assumption) (fc (by assumption) (fc (by assumption) (fc (ae _ _) (fc (by first | assumption | exact iB (by assumption)) (fc (ae _ _) (fc (ae _ _) fr))))))) [(.add,sy 8,iz 1,sy 9)] [] [] (fc (λ_ _ _=>bM (by exact aM (by omega) (by omega))) fn) fn fn q.W0 (λ_=>False) [(xO q us ub ur),[(xQ q us),(jR q ub),(h_ q ur)],[(xQ q us),aO 3 1 (ub) (q.bn.length) ((aB q.bn).set ((q.j)*1) (iz ((q.b)+1))),(h_ q ur)]] [⟨[3,37],[sy 2,iz 0],none,0,none,sy 3,none⟩,⟨[1,3],[sy 3],none,0,none,sy 7,none⟩,⟨[4,37,1,0,0],[sy 2,iz 1],none,0,none,sy 4,none⟩,⟨[3,37],[sy 0,sy 7],none,0,none,sy 5,none⟩,⟨[2,3],[sy 5,iz 1],none,0,none,undef,some 1⟩,⟨[3,37],[sy 1,sy 7],none,1,none,sy 6,none⟩,⟨[1,3],[sy 6],none,1,none,sy 8,none⟩,⟨[2,3],[sy 6,sy 9],none,1,none,undef,some 2⟩] []) (fc (by exact eX (ci:=3) (j:=0) rfl rfl underlying37 i1 i2 rfl dM (by omega) rfl) (fc (by exact ah (ci:=3) (m:=0*1) (x:=(iN q.j)) rfl rfl aG (bp h0) (by omega) rfl (λι=>(vk (by kernel_rfl) (by kernel_rfl)))) (fc (by exact JX (ci:=3) (lo:=1) rfl rfl underlying37 i1 i2 rfl dM (by omega) rfl) (fc (by exact bZ (ci:=1) (j:=(q.j)) rfl rfl underlying37 i1 i2 rfl rfl (by omega) rfl) (fc (by exact bD (ci:=1) (m:=(q.j)*1) (x:=(iz 1)) rfl rfl rfl bE (by omega) rfl dM rfl) (fc (by exact bZ (ci:=2) (j:=(q.j)) rfl rfl underlying37 i1 i2 rfl rfl (by omega) rfl) (fc (by exact ah (ci:=2) (m:=(q.j)*1) (x:=(iz q.b)) rfl rfl aG (by rw[Nat.mul_one];exact bp hb) (by omega) rfl (λι=>(vk (by kernel_rfl) (by kernel_rfl)))) (fc (by exact bD (ci:=2) (m:=(q.j)*1) (x:=(iz ((q.b)+1))) rfl rfl rfl bE (by omega) rfl (cu rfl) rfl) fn)))))))) fn rfl [(4,b4),(8,b8)] xN [(4,[sy 0,sy 1,sy 4],55),(8,[sy 0,sy 1,sy 4],55)] 2 rfl rfl [(2,.pointer (some ⟨4,0,none⟩)),(3,iz 0),(4,iz 0),(5,.pointer (some ⟨8,0,none⟩))] (.tuple #[.agg #[sy 0,sy 1,sy 4],sy 7,iz 0]))
end Go.Proofs.Ytankbefdlbcdnaa
namespace Go.Proofs.Ytankbefdlbcdnaa
open Go.Ev Go.Proofs.Try
def cnt(p:Nat->Bool):Nat->Nat
 | 0=>0
 | n+1=>cnt p n+(if p n then 1 else 0)
theorem rl{p q:Nat->Bool}{n:Nat}(h:∀ j,j<n->p j=q j):cnt p n=cnt q n:=by
 induction n with
 | zero=>rfl
 | succ n ih=>unfold cnt;rw[ih (λj hj=>h j (by omega)),h n (by omega)]
theorem DT(p:Nat->Bool)(n:Nat):cnt p n<=n:=by
 induction n with
 | zero=>exact Nat.le_refl _
 | succ n ih=>unfold cnt;split<;>omega
theorem Gl{p q:Nat->Bool}{a n:Nat}(ha:a<n)(hp:p a=false)(hq:∀ j,q j=(decide (j=a)||p j)):cnt q n=cnt p n+1:=by
 induction n with
 | zero=>omega
 | succ n ih =>
  unfold cnt
  by_cases e:a=n
  ·subst e
   rw[rl (p:=q) (q:=p) (n:=a) (λj hj=>by rw[hq,decide_eq_false (by omega)];rfl),hq,hp,decide_eq_true rfl];simp
  ·rw[ih (by omega),hq,decide_eq_false (by omega:¬ n=a),Bool.false_or]
   omega
theorem DU{n:Nat} : cnt (λ_=>false) n=0:=by
 induction n with
 | zero=>rfl
 | succ n ih=>unfold cnt;rw[ih];simp
theorem xR{p q:Nat->Bool}{n:Nat}(h:∀ j,j<n->p j=true->q j=false):cnt (λj=>p j||q j) n=cnt p n+cnt q n:=by
 induction n with
 | zero=>rfl
 | succ n ih =>
  unfold cnt;rw[ih (λj hj=>h j (by omega))];have:=h n (by omega);cases hp:p n<;>cases hq:q n<;>simp_all<;>omega
theorem tz{α:Type}[DecidableEq α](f:Nat->α)(hf:∀ a b,f a=f b->a=b)(n:Nat):∀ l:List α,l.Nodup->(∀ x ∈ l,∃ a,a<n/\f a=x)->cnt (λj=>decide (f j ∈ l)) n=l.length
 | [],_,_=>by simp[DU]
 | x::r,h,g=>by
  obtain⟨a,ha,e⟩:=g x List.mem_cons_self;obtain⟨h1,h2⟩:=List.nodup_cons.1 h;rw[Gl (p:=λj=>decide (f j ∈ r)) ha (by rw[e];exact decide_eq_false h1) (λj=>?_),tz f hf n r h2 (λy hy=>g y (List.mem_cons_of_mem _ hy)),List.length_cons];rw[← e]
  by_cases q:j=a
  ·subst q;simp
  ·have:f j≠f a:=λe=>q (hf _ _ e)
   simp[q,this]
theorem DV{l:List Nat}{n:Nat}(h:l.Nodup)(g:∀ x ∈ l,x<n):l.length<=n:=by
 rw[← tz (λj=>j) (λ_ _ h=>h) n l h (λx hx=>⟨x,g x hx,rfl⟩)];exact DT _ _
theorem int_inj(a b:Nat)(h:(a:Int)=(b:Int)):a=b:=by omega
theorem vP{l:List Int}{n:Nat}(h:l.Nodup)(g:∀ x ∈ l,0<=x/\x<(n:Int)):cnt (λj=>decide ((j:Int) ∈ l)) n=l.length :=
 tz (λj:Nat=>(j:Int)) int_inj n l h (λx hx=>⟨x.toNat,by have:=g x hx;omega,by have:=g x hx;omega⟩)
structure Inv(K n m:Nat)(t:Tab)(s:Sem):Prop where
 len:t.gs.length=n
 st:∀ j a b:Nat,t.gs[j]? = some (a,b)->a<5/\b<=m
 fr:∀ j,j ∈ t.fr↔∃ b,t.gs[j]? = some (0,b)
 Gm:t.fr.Nodup
 nn:s.nn=K/\K<=4
 ct:∀ k,k<4->s.ct k<=2+m
 wt:∀ j a b:Nat,t.gs[j]? = some (a,b)->(a=3↔∃ k,k<4/\(j:Int) ∈ s.ln k)
 rng:∀ k,k<4->∀ g ∈ s.ln k,0<=g/\g<(n:Int)
 nd:∀ k,k<4->(s.ln k).Nodup
 vj:∀ i j,i<4->j<4->i≠j->∀ g ∈ s.ln i,g ∉ s.ln j
 nw:s.nw<=m
section
variable{K n m:Nat}{t:Tab}{s:Sem}
theorem Inv.lt(h:Inv K n m t s){j:Nat}{p:Nat×Nat}(hj:t.gs[j]? = some p):j<n:=by
 rw[← h.len];exact(List.getElem?_eq_some_iff.1 hj).1
theorem Inv.tok(h:Inv K n m t s)(hn:n<=12)(hm:m<=1000):t.Ok where
 n:=by rw[h.len];omega
 fn:=by
  have:=DV h.Gm (λx hx=>h.lt ((h.fr x).1 hx).choose_spec);omega
 st:=λp hp=>by
  obtain⟨j,hj⟩:=List.mem_iff_getElem?.1 hp;have:=h.st j p.1 p.2 hj;exact⟨this.1,by omega⟩
 fr:=λj hj=>by
  obtain⟨b,hb⟩:=(h.fr j).1 hj;exact(List.getElem?_eq_some_iff.1 hb).1
theorem Inv.ll(h:Inv K n m t s){k:Nat}(hk:k<4):(s.ln k).length<=n:=by
 rw[← vP (h.nd k hk) (h.rng k hk)];exact DT _ _
theorem Inv.Il(h:Inv K n m t s)(hn:n<=12)(hm:m<=1000):s.Ok where
 n1:=by have:=h.nn;omega
 ct:=λk hk=>by have:=h.ct k hk;omega
 len:=λk hk=>by have:=h.ll hk;omega
 rng:=λk hk g hg=>by have:=h.rng k hk g hg;omega
 vj:=h.vj
 nw:=by have:=h.nw;omega
theorem Inv.mono{m':Nat}(h:Inv K n m t s)(hm:m<=m'):Inv K n m' t s :=
 { h with st:=λj a b hj=>by { have:=h.st j a b hj;omega },ct:=λk hk=>by { have:=h.ct k hk;omega },nw:=by { have:=h.nw;omega } }
theorem jS{j a b nx:Nat}(hj:t.gs[j]? = some (a,b))(i:Nat):(t.set j nx).gs[i]? = if i=j then some (nx,b) else t.gs[i]?:=by
 have hl:=(List.getElem?_eq_some_iff.1 hj).1;unfold Tab.set;show(t.gs.set j (nx,((t.gs[j]?).getD (0,0)).2))[i]? = _;rw[hj]
 by_cases e:i=j
 ·subst e
  rw[if_pos rfl,List.getElem?_set_self hl];rfl
 ·rw[if_neg e,List.getElem?_set_ne (λh=>e h.symm)]
theorem nG(h:Inv K n m t s){j a b nx:Nat}(hj:t.gs[j]? = some (a,b))(ha:a≠0):(∀ i,i ∈ (t.set j nx).fr↔∃ b,(t.set j nx).gs[i]? = some (0,b))/\(t.set j nx).fr.Nodup:=by
 have hn:j ∉ t.fr:=λhm=>by
  obtain⟨b',h1⟩:=(h.fr j).1 hm;rw[hj]at h1;cases h1;exact ha rfl
 by_cases e:nx=0
 ·subst e
  have e1:(t.set j 0).fr=t.fr++[j]:=rfl;rw[e1];refine⟨λi=>?_,?_⟩
  ·rw[jS hj,List.mem_append,List.mem_singleton]
   by_cases q:i=j
   ·subst q
    simp
   ·rw[if_neg q,h.fr]
    simp[q]
  ·rw[List.nodup_append]
   exact⟨h.Gm,by simp,λx hx y hy=>by rw[List.mem_singleton.1 hy];exact λe=>hn (e▸hx)⟩
 ·have e1:(t.set j nx).fr=t.fr:=if_neg e
  rw[e1];refine⟨λi=>?_,h.Gm⟩;rw[jS hj]
  by_cases q:i=j
  ·subst q
   rw[if_pos rfl];exact⟨λh=>absurd h hn,λ⟨b',hb⟩=>by cases hb;exact absurd rfl e⟩
  ·rw[if_neg q,h.fr]
theorem tA{j nx:Nat} : (t.set j nx).gs.length=t.gs.length:=by simp[Tab.set]
theorem Inv.set(h:Inv K n m t s){j a b nx:Nat}(hj:t.gs[j]? = some (a,b))(ha:a≠0)(Om:a≠3)(hx:nx<5)(hx3:nx≠3):Inv K n m (t.set j nx) s :=
 { h with
  len:=tA.trans h.len
  st:=λi c d hi=>by
   rw[jS hj]at hi
   split at hi
   ·cases hi;exact⟨hx,(h.st j a b hj).2⟩
   ·exact h.st i c d hi
  fr:=(nG h hj ha).1
  Gm:=(nG h hj ha).2
  wt:=λi c d hi=>by
   rw[jS hj]at hi
   split at hi
   ·rename_i e
    subst e;cases hi;have:=h.wt i a b hj;exact⟨λe=>absurd e hx3,λe=>absurd (this.2 e) Om⟩
   ·exact h.wt i c d hi }
theorem tB{x b:Nat}(hx:t.gs[x]? = some (0,b))(i:Nat):(t.make x).gs[i]? = if i=x then some (1,b+1) else t.gs[i]?:=by
 have hl:=(List.getElem?_eq_some_iff.1 hx).1;unfold Tab.make;show(t.gs.set x (1,((t.gs[x]?).getD (0,0)).2+1))[i]? = _;rw[hx]
 by_cases e:i=x
 ·subst e
  rw[if_pos rfl,List.getElem?_set_self hl];rfl
 ·rw[if_neg e,List.getElem?_set_ne (λh=>e h.symm)]
theorem pX{l:List Nat}{x:Nat}(h:l[l.length-1]? = some x):l=l.take (l.length-1)++[x]:=by
 have hl:=(List.getElem?_eq_some_iff.1 h).1;have h1:l≠[]:=λe=>by subst e;simp at hl
 obtain⟨r,y,rfl⟩:=List.eq_nil_or_concat l |>.resolve_left h1
 simp at h;subst h;simp
theorem Inv.make(h:Inv K n m t s){x:Nat}(hf:t.fr[t.fr.length-1]? = some x):Inv K n (m+1) (t.make x) s:=by
 obtain⟨b,hx⟩:=(h.fr x).1 (List.mem_of_getElem? hf);have hs:=pX hf;have hnd:=h.Gm;rw[hs,List.nodup_append]at hnd;obtain⟨n1,_,n2⟩:=hnd;have hfr:(t.make x).fr=t.fr.take (t.fr.length-1):=rfl
 exact { h.mono (Nat.le_succ m) with
  len:=by rw[← h.len];simp[Tab.make]
  st:=λi c d hi=>by
   rw[tB hx]at hi
   split at hi
   ·cases hi;exact⟨by omega,by have:=h.st x 0 b hx;omega⟩
   ·have:=h.st i c d hi;omega
  fr:=λi=>by
   rw[tB hx,hfr]
   by_cases e:i=x
   ·subst e
    rw[if_pos rfl];exact⟨λhm=>absurd rfl (n2 i hm i (List.mem_singleton.2 rfl)),λ⟨b',hb⟩=>by cases hb⟩
   ·rw[if_neg e,← h.fr]
    conv=>rhs;rw[hs]
    simp[e]
  Gm:=by rw[hfr];exact n1
  wt:=λi c d hi=>by
   rw[tB hx]at hi
   split at hi
   ·rename_i e
    subst e;cases hi;exact⟨λe=>absurd e (by decide),λe=>absurd ((h.wt i 0 b hx).2 e) (by decide)⟩
   ·exact h.wt i c d hi }
theorem Inv.M8(h:Inv K n m t s){k c:Nat}(hc:c<=s.ct k+1)(hk:k<4):Inv K n (m+1) t { s with ct:=aZ s.ct k c } :=
 { h.mono (Nat.le_succ m) with
  nn:=h.nn
  ct:=λi hi=>by
   show aZ s.ct k c i<=_;unfold aZ;have h1:=h.ct k hk;have h2:=h.ct i hi
   split<;>omega
  wt:=h.wt,rng:=h.rng,nd:=h.nd,vj:=h.vj,nw:=by { show s.nw<=m+1;have:=h.nw;omega } }
theorem Inv.wait(h:Inv K n m t s){j b k:Nat}(hj:t.gs[j]? = some (2,b))(hk:k<4):Inv K n (m+1) (t.set j 3) { s with ln:=aZ s.ln k (s.ln k++[(j:Int)]),nw:=s.nw+1 }:=by
 have hno:∀ i,i<4->(j:Int) ∉ s.ln i:=λi hi hm=>absurd ((h.wt j 2 b hj).2 ⟨i,hi,hm⟩) (by decide)
 have mem:∀ i (g:Int),g ∈ aZ s.ln k (s.ln k++[(j:Int)]) i↔g ∈ s.ln i\/(i=k/\g=(j:Int)):=λi g=>by
  unfold aZ
  split
  ·rename_i e
   subst e;simp
  ·rename_i e
   simp[e]
 have hlt:=h.lt hj
 exact {
  len:=tA.trans h.len
  st:=λi c d hi=>by
   rw[jS hj]at hi
   split at hi
   ·cases hi;have:=h.st j 2 b hj;exact⟨by omega,by omega⟩
   ·have:=h.st i c d hi;exact⟨this.1,by omega⟩
  fr:=(nG h hj (by decide)).1
  Gm:=(nG h hj (by decide)).2
  nn:=h.nn
  ct:=λi hi=>by { show s.ct i<=_;have:=h.ct i hi;omega }
  wt:=λi c d hi=>by
   rw[jS hj]at hi
   split at hi
   ·rename_i e
    subst e;cases hi;exact⟨λ_=>⟨k,hk,(mem k _).2 (.inr ⟨rfl,rfl⟩)⟩,λ_=>rfl⟩
   ·rename_i e
    rw[h.wt i c d hi];exact⟨λ⟨q,h1,h2⟩=>⟨q,h1,(mem q _).2 (.inl h2)⟩,λ⟨q,h1,h2⟩=>⟨q,h1,((mem q _).1 h2).elim id (λ⟨_,h3⟩=>absurd (int_inj _ _ h3) e)⟩⟩
  rng:=λi hi g hg=>((mem i g).1 hg).elim (h.rng i hi g) (λ⟨_,e⟩=>by rw[e];omega)
  nd:=λi hi=>by
   show(aZ s.ln k _ i).Nodup;unfold aZ
   split
   ·rename_i e
    subst e;rw[List.nodup_append];exact⟨h.nd i hi,by simp,λx hx y hy=>by rw[List.mem_singleton.1 hy];exact λe=>hno i hi (e▸hx)⟩
   ·exact h.nd i hi
  vj:=λi i2 hi hi2 e g hg hg2=>by
   rcases(mem i g).1 hg with h1 | ⟨e1,h1⟩<;>rcases(mem i2 g).1 hg2 with h2 | ⟨e2,h2⟩
   ·exact h.vj i i2 hi hi2 e g h1 h2
   ·exact hno i hi (h2▸h1)
   ·exact hno i2 hi2 (h1▸h2)
   ·exact e (e1.trans e2.symm)
  nw:=by { show s.nw+1<=m+1;have:=h.nw;omega } }
theorem Inv.wake(h:Inv K n m t s){k:Nat}{g:Int}{r:List Int}(hk:k<4)(hl:s.ln k=g::r):Inv K n (m+1) (t.set g.toNat 1) { s with ln:=aZ s.ln k r }:=by
 have hg:=h.rng k hk g (by rw[hl];exact List.mem_cons_self);obtain⟨j,rfl⟩:∃ j:Nat,g=(j:Int):=⟨g.toNat,by omega⟩;have hnd:=h.nd k hk;rw[hl]at hnd;obtain⟨hnr,hr⟩:=List.nodup_cons.1 hnd;have hjl:j<t.gs.length:=by rw[h.len];omega
 have hjk:(j:Int) ∈ s.ln k:=by rw[hl];exact List.mem_cons_self
 obtain⟨b,hj⟩:∃ b,t.gs[j]? = some (3,b):=by
  have h1:=List.getElem?_eq_getElem hjl;have h2:=(h.wt j _ _ h1).2 ⟨k,hk,hjk⟩;exact⟨(t.gs[j]).2,by rw[h1,← h2];rfl⟩
 have mem:∀ i (x:Int),i<4->(x ∈ aZ s.ln k r i↔x ∈ s.ln i/\x≠(j:Int)):=λi x hi=>by
  unfold aZ
  split
  ·rename_i e
   subst e;rw[hl];exact⟨λhx=>⟨List.mem_cons_of_mem _ hx,λe=>hnr (e▸hx)⟩,λ⟨h1,h2⟩=>(List.mem_cons.1 h1).elim (λe=>absurd e h2) id⟩
  ·rename_i e
   exact⟨λhx=>⟨hx,λe2=>h.vj i k hi hk e x hx (e2▸hjk)⟩,λh=>h.1⟩
 show Inv K n (m+1) (t.set j 1) _
 exact {
  len:=tA.trans h.len
  st:=λi c d hi=>by
   rw[jS hj]at hi
   split at hi
   ·cases hi;have:=h.st j 3 b hj;exact⟨by omega,by omega⟩
   ·have:=h.st i c d hi;exact⟨this.1,by omega⟩
  fr:=(nG h hj (by decide)).1
  Gm:=(nG h hj (by decide)).2
  nn:=h.nn
  ct:=λi hi=>by { show s.ct i<=_;have:=h.ct i hi;omega }
  wt:=λi c d hi=>by
   rw[jS hj]at hi
   split at hi
   ·rename_i e
    subst e;cases hi;exact⟨λe=>absurd e (by decide),λ⟨q,h1,h2⟩=>absurd rfl ((mem q _ h1).1 h2).2⟩
   ·rename_i e
    rw[h.wt i c d hi];exact⟨λ⟨q,h1,h2⟩=>⟨q,h1,(mem q _ h1).2 ⟨h2,λe2=>e (int_inj _ _ e2)⟩⟩,λ⟨q,h1,h2⟩=>⟨q,h1,((mem q _ h1).1 h2).1⟩⟩
  rng:=λi hi g hg=>h.rng i hi g ((mem i g hi).1 hg).1
  nd:=λi hi=>by
   show(aZ s.ln k _ i).Nodup;unfold aZ
   split
   ·exact hr
   ·exact h.nd i hi
  vj:=λi i2 hi hi2 e g hg hg2=>h.vj i i2 hi hi2 e g ((mem i g hi).1 hg).1 ((mem i2 g hi2).1 hg2).1
  nw:=by { show s.nw<=m+1;have:=h.nw;omega } }
theorem Inv.dec(h:Inv K n m t s){ca mo:Int}{kd k:Nat}{g:Int}(hk:k<K):Inv K n (m+1) (d8 t s ca mo kd k g).t (d8 t s ca mo kd k g).s:=by
 have h1:=h.mono (Nat.le_succ m);have hk4:k<4:=by have:=h.nn;omega
 unfold d8;cases hr:t.runs g with
 | none=>exact h1
 | some j =>
  obtain⟨rfl,b,hj⟩:=Tab.e8 hr;show Inv K n (m+1) (dC t s ca mo kd k j).t (dC t s ca mo kd k j).s;unfold dC
  split
  ·exact h1
  ·exact h1
  ·exact h1.set hj (by decide) (by decide) (by decide) (by decide)
  ·split
   ·rename_i x hx
    exact h.make hx
   ·exact h1
  ·exact h1.set hj (by decide) (by decide) (by decide) (by decide)
  ·split
   ·exact h1
   ·split
    ·exact h.wait hj hk4
    ·exact h.M8 (by omega) hk4
  ·split
   ·exact h1
   ·split
    ·exact h.M8 (by omega) hk4
    ·rename_i g r hl
     exact h.wake hk4 hl
  ·split
   ·exact h1
   ·exact h1.set hj (by decide) (by decide) (by decide) (by decide)
def Tab.eK(t:Tab)(g:Int)(nx:Nat):Tab:=if 0<=g then (match t.gs[g.toNat]? with
 | some (a,_)=>if hO a nx then t.set g.toNat nx else t
 | none=>t) else t
theorem Inv.eK(h:Inv K n m t s)(g:Int):Inv K n m (t.eK g 2) s:=by
 unfold Tab.eK
 split
 ·split
  ·rename_i a b hj
   split
   ·rename_i hm
    have ha:a≠0/\a≠3:=⟨λe=>by subst e;simp[hO]at hm,λe=>by subst e;simp[hO]at hm⟩;exact h.set hj ha.1 ha.2 (by decide) (by decide)
   ·exact h
  ·exact h
 ·exact h
theorem Inv.start{c:Nat}(hn:n<=12)(hc:c<=2)(h0:0<n):Inv 4 n 1 ((bW n).make 0) (AQ c):=by
 have h:Inv 4 n 0 (bW n) (AQ c):={
  len:=by simp[bW]
  st:=λj a b hj=>by
   have:=List.mem_of_getElem? hj;simp[bW]at this;omega
  fr:=λj=>by
   simp[bW,pT,List.getElem?_replicate];constructor
   ·rintro⟨a,h1,h2⟩;omega
   ·intro h;exact⟨n-1-j,by omega,by omega⟩
  Gm:=by
   show((List.range n).map (λk=>n-1-k)).Nodup
   exact List.pairwise_map.2 (List.Pairwise.imp_of_mem (fun {a b} ha hb (hab:a≠b) e=>by
    have:=List.mem_range.1 ha;have:=List.mem_range.1 hb
    omega) List.nodup_range)
  nn:=⟨rfl,by decide⟩
  ct:=λk _=>hc
  wt:=λj a b hj=>by
   have:=List.mem_of_getElem? hj;simp[bW]at this;obtain⟨_,e,_⟩:=this;subst e;exact⟨λe=>absurd e (by decide),λ⟨_,_,h⟩=>by simp[AQ]at h⟩
  rng:=λk _ g hg=>by simp[AQ]at hg
  nd:=λk _=>by simp[AQ]
  vj:=λ_ _ _ _ _ g hg=>by simp[AQ]at hg
  nw:=Nat.le_refl _ }
 refine h.make ?_;show(pT n n)[(pT n n).length-1]? = some 0;have e:(pT n n).length=n:=by simp[pT]
 rw[e];unfold pT;rw[List.getElem?_map,List.getElem?_range (by omega)];show some (n-1-(n-1))=some 0;rw[Nat.sub_self]
theorem Inv.all(h:Inv K n m t s):(s.ln 0).length+(s.ln 1).length+(s.ln 2).length+(s.ln 3).length=cnt (λj=>(t.gs[j]?).map (·.1)==some 3) n:=by
 have c:∀ k,k<4->cnt (λj=>decide ((j:Int) ∈ s.ln k)) n=(s.ln k).length:=λk hk=>vP (h.nd k hk) (h.rng k hk)
 have d:∀ i j,i<4->j<4->i≠j->∀ x:Nat,decide ((x:Int) ∈ s.ln i)=true->decide ((x:Int) ∈ s.ln j)=false:=λi j hi hj e x hx=>decide_eq_false (h.vj i j hi hj e _ (of_decide_eq_true hx))
 rw[← c 0 (by decide),← c 1 (by decide),← c 2 (by decide),← c 3 (by decide),← xR (λj _=>d 0 1 (by decide) (by decide) (by decide) j),← xR (λj _ hj=>?_),← xR (λj _ hj=>?_)]
 ·refine rl (λj hj=>?_)
  have hjl:j<t.gs.length:=by rw[h.len];exact hj
  have hw:=h.wt j _ _ (List.getElem?_eq_getElem hjl);rw[List.getElem?_eq_getElem hjl];show _=((some ((t.gs[j]).1):Option Nat)==some 3);have e1:((some ((t.gs[j]).1):Option Nat)==some 3)=decide ((t.gs[j]).1=3):=by
   by_cases q:(t.gs[j]).1=3
   ·rw[q];rfl
   ·rw[decide_eq_false q]
    simpa using q
  rw[e1];rw[← Bool.decide_or,← Bool.decide_or,← Bool.decide_or];refine decide_eq_decide.2 ?_;refine Iff.trans ?_ hw.symm;constructor
  ·rintro(((h | h) | h) | h)
   ·exact⟨0,by decide,h⟩
   ·exact⟨1,by decide,h⟩
   ·exact⟨2,by decide,h⟩
   ·exact⟨3,by decide,h⟩
  ·rintro⟨k,hk,h⟩
   match k,hk with
   | 0,_=>exact .inl (.inl (.inl h))
   | 1,_=>exact .inl (.inl (.inr h))
   | 2,_=>exact .inl (.inr h)
   | 3,_=>exact .inr h
 ·rcases Bool.or_eq_true _ _▸hj with hj | hj
  ·rcases Bool.or_eq_true _ _▸hj with hj | hj
   ·exact d 0 3 (by decide) (by decide) (by decide) j hj
   ·exact d 1 3 (by decide) (by decide) (by decide) j hj
  ·exact d 2 3 (by decide) (by decide) (by decide) j hj
 ·rcases Bool.or_eq_true _ _▸hj with hj | hj
  ·exact d 0 2 (by decide) (by decide) (by decide) j hj
  ·exact d 1 2 (by decide) (by decide) (by decide) j hj
end
end Go.Proofs.Ytankbefdlbcdnaa
namespace Go.Ev
open Go.RowKit
section
variable{l m:List aK}{F:Nat->Prop}{w:World}{c:eO}{e:TypeId}{sz n i:Nat}{v:Value}{xs:List Value}{a:aK}
theorem cv(h:bu l F w)(hi:l[i]? = some (aO e sz v n xs)):n9 F sz v n xs w:=by
 obtain⟨⟨Fs,q⟩,lt⟩:=h;have hlt:i<Fs.length:=by rw[q.len];exact(List.getElem?_eq_some_iff.1 hi).1
 have hf:=List.getElem?_eq_getElem hlt;exact(n9.of (q.holds i _ _ hi hf)).mono (λj hj=>(q.all j).2 ⟨i,_,hf,hj⟩)
theorem ay.fold(h:ay c (l++m) w)(k:∀ F,bu l F w->a.p (λ_=>none) F w):ay c (a::m) w:=h.shut.head (λF hF=>k F hF)
theorem ay.jn(h:ay c l w)(k:∀ F,bu l F w->a.p (λ_=>none) F w):ay c [a] w:=ay.fold (m:=[]) (by rw[List.append_nil];exact h) k
theorem d7(h:ay c (aO e sz v n xs::l) w):∃ cd,dec cd=v:=by
 obtain⟨f,hf⟩:=h.first
 exact dG.code hf
end
end Go.Ev
namespace Go.Proofs.Ytankbefdlbcdnaa
open Go.Ev Go.Proofs.Try
open Go.RowKit
open Go.Ev (iz iN pz)
attribute [local irreducible] dF
structure zt(w:World)(vs vb vr:Value)(t:Tab):Prop where
 s:c7 1 vs (cU t).length (aB (cU t)) w
 b:c7 1 vb (pV t).length (aB (pV t)) w
 r:c7 1 vr (iH t).length (aB (iH t)) w
theorem zt.old{w w':World}{vs vb vr:Value}{t:Tab}(h:zt w vs vb vr t)(ho:eC w (λ_=>False) w'):zt w' vs vb vr t:=⟨h.s.old ho (aH _),h.b.old ho (aH _),h.r.old ho (aH _)⟩
section
variable{w:World}{F:Nat->Prop}{vs vb vr:Value}{t:Tab}{j a b nx:Nat}
theorem dg(t:Tab):(cU t).length=t.gs.length:=by simp[cU]
theorem oL(t:Tab):(pV t).length=t.gs.length:=by simp[pV]
theorem mJ(t:Tab):(iH t).length=t.fr.length:=by simp[iH]
theorem jT(h:t.gs[j]? = some (a,b)):(cU t)[j]? = some (a:Int):=by
 unfold cU;rw[List.getElem?_map,h];rfl
theorem DX(h:t.gs[j]? = some (a,b)):(pV t)[j]? = some (b:Int):=by
 unfold pV;rw[List.getElem?_map,h];rfl
abbrev JY(w:World)(vs vb vr:Value)(t:Tab)(h:zt w vs vb vr t)(O:t.Ok)(j a b nx:Nat)(x:Int)(hj:j<=300/\a<5/\nx<5/\b<=1000000):oJ :=
 ⟨w,vs,cU t,h.s,vb,pV t,h.b,vr,iH t,h.r,j,a,b,nx,x,⟨by rw[dg];have:=O.n;omega,by rw[oL];have:=O.n;omega,by rw[mJ];have:=O.fn;omega,hj.1,hj.2.1,hj.2.2.1,by omega,by omega⟩⟩
theorem Gn(hj:t.gs[j]? = some (a,b)):cU (t.set j nx)=(cU t).set j (nx:Int)/\pV (t.set j nx)=pV t:=by
 unfold cU pV Tab.set;rw[hj];simp only[List.map_set,Option.getD_some];refine⟨trivial,?_⟩;refine List.ext_getElem? (λi=>?_);rw[List.getElem?_set]
 split
 ·rename_i e
  subst e;rw[List.getElem?_map,hj];simp;exact(List.getElem?_eq_some_iff.1 hj).1
 ·rfl
theorem Gp:iH (t.set j nx)=if nx=0 then (j:Int)::iH t else iH t:=by
 unfold iH Tab.set
 by_cases h:nx=0<;>simp[h]
theorem gf(h:zt w vs vb vr t)(O:t.Ok)(hn:nx<5)(hj:t.gs[j]? = some (a,b))(hm:hO a nx=true)(W:World)(B:Nat->Prop)(hN:bu [] F w) :
  Calls prog 23 #[.agg #[vs,vb,vr],iN j,iN nx] w λe w'=>∃ u cd,Ev.dec cd=u/\e=.returned (.tuple #[.agg #[aq 0 u,aq 1 u,aq 2 u],iz 0])/\ay ⟨w,F⟩ [iI W B (aq 0 u) (aq 1 u) (aq 2 u) (t.set j nx)] w':=by
 obtain rfl:=eJ hN;have hp:=O.st _ (List.mem_of_getElem? hj);have hlt:=(List.getElem?_eq_some_iff.1 hj).1;have hlt2:=O.n
 let q:=JY w vs vb vr t h O j a b nx 0 ⟨by omega,hp.1,hn,by have:=hp.2;simp only at this;omega⟩
 have hl:q.j<q.st.length:=by show j<(cU t).length;rw[dg];exact hlt
 obtain⟨e1,e2⟩:=Gn (nx:=nx) hj;have e3:=Gp (t:=t) (j:=j) (nx:=nx);refine bx (N:=46) (tm:=[(0,.agg #[vs,vb,vr]),(1,iN j),(2,iN nx)]) (by kernel_rfl) hN (by simp) (by simp) (λA hA=>?_);refine Oe q (jT hj) hl hm A w _ hA ?_;intro κ A1 w1 g1;dsimp only at g1;have wh:=bV (g1.hold.sel [3]);have lub:=bV (g1.hold.sel [4]);have wi:=bV (g1.hold.sel [5]);obtain⟨c1,h1⟩:=d7 (g1.hold.sel [3]);obtain⟨c2,h2⟩:=d7 (g1.hold.sel [4]);obtain⟨c3,h3⟩:=d7 (g1.hold.sel [5]);generalize aq 0 (Ev.dv κ 411)=us at g1 wh h1;generalize aq 1 (Ev.dv κ 411)=ub at g1 lub h2;generalize aq 2 (Ev.dv κ 411)=ur at g1 wi h3
 by_cases h0:nx=0
 ·refine Oh q hl us ub ur wh lub wi _ _ h0 A1 w1 _ (g1.to (λq hq=>hq) (λhh=>hh.sel [1,2,3,4,5])) ?_
  intro κ2 w2 g2;refine⟨_,_,iM (fb c1 (fb c2 ((κ2 411).getD 0))),?_,?_⟩
  ·rw[gI,gJ,kA,h1,h2]
  ·rw[gI,gJ,kA,h1,h2]
   rw[if_pos h0]at e3;refine(g2.sel [2,3,5]).jn (λG hG=>⟨.inl ?_,.inl ?_,.inl ?_,⟨_,h1⟩,⟨_,h2⟩,⟨_,rfl⟩⟩)
   ·have:=cv (i:=0) hG rfl
    rw[e1,List.length_set];simpa[aB,List.map_set,q] using this
   ·have:=cv (i:=1) hG rfl
    rw[e2];exact this
   ·have:=cv (i:=2) hG rfl
    rw[e3,List.length_cons,Nat.add_comm];exact this
 ·refine Og q hl us ub ur wh lub wi _ _ h0 A1 w1 _ (g1.to (λq hq=>hq) (λhh=>hh.sel [1,2,3,4,5])) ?_
  intro κ2 w2 g2;refine⟨_,_,iM (fb c1 (fb c2 c3)),?_,?_⟩
  ·rw[gI,gJ,kA,h1,h2,h3]
  ·rw[gI,gJ,kA,h1,h2,h3]
   rw[if_neg h0]at e3;refine(g2.sel [2,3,4]).jn (λG hG=>⟨.inl ?_,.inl ?_,.inl ?_,⟨_,h1⟩,⟨_,h2⟩,⟨_,h3⟩⟩)
   ·have:=cv (i:=0) hG rfl
    rw[e1,List.length_set];simpa[aB,List.map_set,q] using this
   ·have:=cv (i:=1) hG rfl
    rw[e2];exact this
   ·have:=cv (i:=2) hG rfl
    rw[e3];exact this
theorem rr(h:zt w vs vb vr t)(O:t.Ok){x:Int}(hn:nx<5)(hx:x<0\/(t.gs.length:Int)<=x) :
  Calls prog 23 #[.agg #[vs,vb,vr],iz x,iN nx] w λe w'=>e=.returned (.tuple #[.agg #[vs,vb,vr],iz 5])/\Below w.heap.size w w':=by
 let q:=JY w vs vb vr t h O 0 0 0 nx x ⟨by omega,by omega,hn,by omega⟩
 by_cases h0:x<0
 ·exact ao (Ob q h0) (by kernel_rfl) (aX w) (by simp) (by simp[q]) (λκ w1 hh=>⟨rfl,bm hh⟩)
 ·exact ao (Oc q (by show 0<=x;omega) (by show((cU t).length:Int)<=x;rw[dg];omega)) (by kernel_rfl) (aX w) (by simp) (by simp[q]) (λκ w1 hh=>⟨rfl,bm hh⟩)
theorem DY(h:zt w vs vb vr t)(O:t.Ok)(hn:nx<5)(hj:t.gs[j]? = some (a,b))(hm:hO a nx=false) :
  Calls prog 23 #[.agg #[vs,vb,vr],iN j,iN nx] w λe w'=>e=.returned (.tuple #[.agg #[vs,vb,vr],iz 4])/\Below w.heap.size w w':=by
 have hp:=O.st _ (List.mem_of_getElem? hj);have hlt:=(List.getElem?_eq_some_iff.1 hj).1;have hlt2:=O.n
 let q:=JY w vs vb vr t h O j a b nx 0 ⟨by omega,hp.1,hn,by have:=hp.2;simp only at this;omega⟩
 exact ao (Od q (jT hj) (by show j<(cU t).length;rw[dg];exact hlt) hm) (by kernel_rfl) (aX w) (by simp) (by simp[q]) (λκ w1 hh=>⟨rfl,bm hh⟩)
theorem AW(h:zt w vs vb vr t)(O:t.Ok)(hz:t.fr=[]) :
  Calls prog 22 #[.agg #[vs,vb,vr]] w λe w'=>e=.returned (.tuple #[.agg #[vs,vb,vr],iz (-1),iz 130])/\Below w.heap.size w w':=by
 let q:=JY w vs vb vr t h O 0 0 0 0 0 ⟨by omega,by omega,by omega,by omega⟩
 exact ao (Oi q (by show(iH t).length=0;rw[mJ,hz];rfl)) (by kernel_rfl) (aX w) (by simp) (by simp[q]) (λκ w1 hh=>⟨rfl,bm hh⟩)
theorem pY(h:zt w vs vb vr t)(O:t.Ok)(hf:t.fr[t.fr.length-1]? = some j)(hj:t.gs[j]? = some (a,b))(W:World)(B:Nat->Prop)(hN:bu [] F w) :
  Calls prog 22 #[.agg #[vs,vb,vr]] w λe w'=>∃ u cd,Ev.dec cd=u/\e=.returned (.tuple #[.agg #[aq 0 u,aq 1 u,aq 2 u],iN j,iz 0])/\ay ⟨w,F⟩ [iI W B (aq 0 u) (aq 1 u) (aq 2 u) (t.make j)] w':=by
 obtain rfl:=eJ hN;have hp:=O.st _ (List.mem_of_getElem? hj);have hlt:=(List.getElem?_eq_some_iff.1 hj).1;have hlt2:=O.n;have hfl:=(List.getElem?_eq_some_iff.1 hf).1
 let q:=JY w vs vb vr t h O j a b 0 0 ⟨by omega,hp.1,by decide,by have:=hp.2;simp only at this;omega⟩
 have hl:q.j<q.st.length:=by show j<(cU t).length;rw[dg];exact hlt
 have hl2:q.j<q.bn.length:=by show j<(pV t).length;rw[oL];exact hlt
 have hp0:0<q.rw.length:=by show 0<(iH t).length;rw[mJ];omega
 have ef:iH t=(j:Int)::iH (t.make j):=by
  have hs:=pX hf;show(t.fr.reverse.map _)=_
  conv=>lhs;rw[hs]
  simp[iH,Tab.make]
 have hr0:q.rw[0]? = some (q.j:Int):=by show(iH t)[0]? = _;rw[ef];rfl
 have e1:cU (t.make j)=(cU t).set j 1:=by
  unfold cU Tab.make;rw[hj];simp[List.map_set]
 have e2:pV (t.make j)=(pV t).set j ((b:Int)+1):=by
  unfold pV Tab.make;rw[hj];simp[List.map_set]
 refine bx (N:=35) (tm:=[(0,.agg #[vs,vb,vr])]) (by kernel_rfl) hN (by simp) (by simp) (λA hA=>?_);refine Oj q hp0 A w _ hA ?_;intro κ A1 w1 g1;dsimp only at g1;have wh:=bV (g1.hold.sel [3]);have lub:=bV (g1.hold.sel [4]);have wi:=bV (g1.hold.sel [5]);obtain⟨c1,h1⟩:=d7 (g1.hold.sel [3]);obtain⟨c2,h2⟩:=d7 (g1.hold.sel [4]);generalize aq 0 (Ev.dv κ 411)=us at g1 wh h1;generalize aq 1 (Ev.dv κ 411)=ub at g1 lub h2;generalize aq 2 (Ev.dv κ 411)=ur at g1 wi;refine Ol q hp0 hr0 hl hl2 (DX hj) us ub ur wh lub wi _ _ A1 w1 _ (g1.to (λq hq=>hq) (λhh=>hh.sel [1,2,3,4,5])) ?_;intro κ2 w2 g2;have gr:∃ G,bu [aO 3 1 ur q.rw.length (aB q.rw)] G w2:=by
  obtain⟨G,k1,_⟩:=(g2.sel [4]).ex;exact⟨G,k1⟩
 obtain⟨G0,hG0⟩:=gr;obtain⟨c3,h3⟩:=DJ (lo:=1) (cv (i:=0) hG0 rfl).1 (by omega) hp0;refine⟨_,_,iM (fb c1 (fb c2 c3)),?_,?_⟩
 ·rw[gI,gJ,kA,h1,h2,h3]
 ·rw[gI,gJ,kA,h1,h2,h3]
  refine(g2.sel [2,3,4]).jn (λG hG=>⟨.inl ?_,.inl ?_,.inl ?_,⟨_,h1⟩,⟨_,h2⟩,⟨_,h3⟩⟩)
  ·have:=cv (i:=0) hG rfl
   rw[e1,List.length_set];simpa[aB,List.map_set,q] using this
  ·have:=cv (i:=1) hG rfl
   rw[e2,List.length_set];simpa[aB,List.map_set,q] using this
  ·have:=(cv (i:=2) hG rfl).cut (lo:=1) (hi:=q.rw.length) (by omega) (Nat.le_refl _)
   have e5:q.rw=(j:Int)::iH (t.make j):=ef;have e6:((aB q.rw).drop (1*1)).take ((q.rw.length-1)*1)=aB (iH (t.make j)):=by
    rw[e5];simp[aB];exact List.take_of_length_le (by simp)
   rw[e6]at this
   rwa [show q.rw.length-1=(iH (t.make j)).length by rw[e5];simp]at this
end
end Go.Proofs.Ytankbefdlbcdnaa
