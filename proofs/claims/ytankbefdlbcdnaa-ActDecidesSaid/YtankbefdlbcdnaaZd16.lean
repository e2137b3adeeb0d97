/- Part of a proof: see the last text. -/
import Derived.Test.YtankbefdlbcdnaaZd15
set_option linter.unusedSimpArgs false
set_option linter.unusedVariables false
namespace Go.Proofs.Ytankbefdlbcdnaa
open Go.Ev Go.Proofs.Try
open Go.RowKit
open Go.Ev (sy iz uz wz iN uN wN pz dv fc fn ak vk vd kn pc cc cr cm cd fr)
set_option maxRecDepth 8000
attribute [local irreducible] dF
abbrev mD(q:FP):aK:=aO 79 1 (ap q.bs 66) 66 (q.xs)
abbrev fB(q:FP):aK:=aO 3 1 (q.lv) (1) ([.int .i64 q.x])
abbrev q8(q:FP):List aK:=[mD q,fB q]
abbrev jO(q:FP):List (Nat×Value):=[(0,(au (ap q.bs 66) (q.m))),(1,(q.lv))]
abbrev eZ(q:FP):List aK:=[mD q,bX q.bl (q.n) (q.f),fB q]
abbrev xB(q:FP):aK:=aO 79 1 (ap q.bs 66) (66) ((q.xs).set (q.m+1) (iz q.x))
abbrev CU(q:FP):List aK:=[aO 79 1 (ap q.bs 66) (66) (((q.xs).set (q.m+1) (iz q.x)).set (q.m+2) (iz q.x)),bX q.bl (q.n+1) (bQ (q.f) ((q.x)) (some (⟨0,0,false,false⟩:Lk))),fB q]
abbrev CV(q:FP):aK:=bX q.bl (q.n+1) (bQ (bQ (q.f) ((q.tl)) (some (⟨q.ka,q.x,false,true⟩:Lk))) ((q.x)) (some (⟨q.tl,0,true,false⟩:Lk)))
abbrev CW(q:FP):List aK:=[aO 79 1 (ap q.bs 66) (66) ((q.xs).set (q.m+2) (iz q.x)),CV q,fB q]
abbrev CX(q:FP):aK:=bX q.bl (q.n+1) (bQ (bQ (q.f) ((q.tl)) (some (⟨q.ka,q.x,true,true⟩:Lk))) ((q.x)) (some (⟨q.tl,0,true,false⟩:Lk)))
abbrev CY(q:FP):List aK:=[aO 79 1 (ap q.bs 66) (66) ((q.xs).set (q.m+2) (iz q.x)),CX q,fB q]
theorem La(q:FP)(h0:q.xs[q.m]? = some (.map none)):dH prog 67 [] 0 2 83 ⟨q.W0,q.F0⟩ (jO q) (q8 q) .normal (λκ:ag=>(jO q)) (λκ:ag=>(q8 q)):=(tr (c:=⟨q.W0,q.F0⟩) (kn [au (ap q.bs 66) (q.m),q.lv,ap q.bs 66] (fc (ae _ _) (fc q.lD fr)) [] [] [] fn fn fn q.W0 q.F0 [q8 q,q8 q] [⟨[20,113],[sy 0,.pointer none],none,0,none,.bool false,none⟩] [⟨76,[sy 0,sy 1],0,none,.bool true,some 1⟩]) (fc (b5 rfl (by kernel_rfl)) fn) (fc (cc rfl [aO 79 1 (ap q.bs 66) 66 (q.xs),aO 3 1 (q.lv) (1) ([.int .i64 q.x])] [0,1] [] (λw F ho hn hF=>Ib q.z.1 q.z.2.2 h0 hn)) fn) rfl [] [] [] 1 rfl rfl [(0,sy 0),(1,sy 1)] [(0,sy 0),(1,sy 1)] .normal)
theorem Lb(q:FP)(h0:q.xs[q.m]? = some (.map none)):dH prog 67 [] 2 2 83 ⟨q.W0,q.F0⟩ (jO q) (q8 q) .normal (λκ:ag=>(jO q)) (λκ:ag=>[aO 79 1 (ap q.bs 66) 66 ((q.xs).set (q.m+0) (dv κ 403)),fB q,tg (dv κ 403) 0 (λ_=>none)]):=by have z:=q.z;exact(tr (c:=⟨q.W0,q.F0⟩) (kn [au (ap q.bs 66) (q.m),q.lv,au (ap q.bs 66) (q.m+0),ap q.bs 66] (fc (ae _ _) (fc q.lD (fc (ae _ _) fr))) [] [] [] fn fn fn q.W0 q.F0 [q8 q,[mD q,fB q,ce 403 (λv=>tg v 0 (λ_=>none))],[ce 403 (λv=>aO 79 1 (ap q.bs 66) 66 ((q.xs).set (q.m+0) v)),fB q,ce 403 (λv=>tg v 0 (λ_=>none))]] [⟨[9],[sy 0],none,0,none,sy 0,none⟩,⟨[7,74,0],[sy 0],none,0,none,sy 2,none⟩,⟨[1,72],[sy 2],none,0,none,.map none,none⟩,⟨[18,72],[],none,0,some 403,.complex .f32 403 0,some 1⟩,⟨[9],[sy 0],none,1,none,sy 0,none⟩,⟨[7,74,0],[sy 0],none,1,none,sy 2,none⟩,⟨[2,72],[sy 2,.complex .f32 403 0],none,1,none,undef,some 2⟩] []) (fc (ai rfl) (fc (by exact af (ci:=1) (fo:=0) rfl rfl (by omega) aj rfl rfl) (fc (by exact ah (ci:=1) (m:=q.m+0) (x:=(.map none)) rfl rfl am h0 (by simp;omega) rfl (λι=>(vk (by kernel_rfl) (by kernel_rfl)))) (fc (tf rfl rfl) (fc (ai rfl) (fc (by exact af (ci:=1) (fo:=0) rfl rfl (by omega) aj rfl rfl) (fc (by exact AH (ci:=1) rfl rfl rfl AI (by simp;omega) rfl) fn))))))) fn rfl [] [] [] 2 rfl rfl [(0,sy 0),(1,sy 1)] [(0,sy 0),(1,sy 1)] .normal).conv (λκ w=>⟨(λ_ h=>bN (a:=λv=>aO 79 1 (ap q.bs 66) 66 ((q.xs).set (q.m+0) v)) (λ_ _ _ _ _ h=>h) h),(λ_ h=>h),(λ_ h=>bN (a:=λv=>tg v 0 (λ_=>none)) (λ_ _ _ _ _ h=>h) h),trivial⟩)
theorem Lc(q:FP)(h0:q.xs[q.m]? = some (.map (some q.bl)))(hx:q.f q.x=none):dH prog 67 [] 0 2 83 ⟨q.W0,q.F0⟩ (jO q) (eZ q) .normal (λκ:ag=>(jO q)) (λκ:ag=>(eZ q)):=(tr (c:=⟨q.W0,q.F0⟩) (kn [au (ap q.bs 66) (q.m),q.lv,ap q.bs 66] (fc (ae _ _) (fc q.lD fr)) [] [] [] fn fn fn q.W0 q.F0 [eZ q,eZ q] [⟨[20,113],[sy 0,.pointer none],none,0,none,.bool false,none⟩] [⟨76,[sy 0,sy 1],0,none,.bool true,some 1⟩]) (fc (b5 rfl (by kernel_rfl)) fn) (fc (cc rfl [aO 79 1 (ap q.bs 66) 66 (q.xs),bX q.bl (q.n) (q.f),aO 3 1 (q.lv) (1) ([.int .i64 q.x])] [0,1,2] [] (λw F ho hn hF=>Ic q.bl q.z.1 q.z.2.1 q.z.2.2 h0 hx hn)) fn) rfl [] [] [] 1 rfl rfl [(0,sy 0),(1,sy 1)] [(0,sy 0),(1,sy 1)] .normal)
theorem Ld(q:FP)(h0:q.xs[q.m]? = some (.map (some q.bl))):dH prog 67 [] 2 2 83 ⟨q.W0,q.F0⟩ (jO q) (eZ q) .normal (λκ:ag=>(jO q)) (λκ:ag=>(eZ q)):=by have z:=q.z;exact(tr (c:=⟨q.W0,q.F0⟩) (kn [au (ap q.bs 66) (q.m),q.lv,au (ap q.bs 66) (q.m+0),ap q.bs 66,.map (some q.bl)] (fc (ae _ _) (fc q.lD (fc (ae _ _) fr))) [] [] [] fn fn fn q.W0 q.F0 [eZ q] [⟨[9],[sy 0],none,0,none,sy 0,none⟩,⟨[7,74,0],[sy 0],none,0,none,sy 2,none⟩,⟨[1,72],[sy 2],none,0,none,sy 4,none⟩,⟨[20,72],[sy 4,.map none],none,0,none,.bool false,none⟩] []) (fc (ai rfl) (fc (by exact af (ci:=1) (fo:=0) rfl rfl (by omega) aj rfl rfl) (fc (by exact ah (ci:=1) (m:=q.m+0) (x:=(.map (some q.bl))) rfl rfl am h0 (by simp;omega) rfl (λι=>(vk (by kernel_rfl) (by kernel_rfl)))) (fc (FV rfl underlying72) fn)))) fn rfl [] [] [] 0 rfl rfl [(0,sy 0),(1,sy 1)] [(0,sy 0),(1,sy 1)] .normal)
theorem Nu(q:FP)(h0:q.xs[q.m]? = some (.map (some q.bl)))(hx:q.f q.x=none)(hz:q.n=0):aI prog 67 [] 4 83 ⟨q.W0,q.F0⟩ (jO q) (eZ q) (λκ:ag=>(iz 0)) (λκ:ag=>(CU q)):=by have z:=q.z;obtain⟨i,i1,i2,i3,i4⟩:=aT;exact(br (c:=⟨q.W0,q.F0⟩) 20 (kn [au (ap q.bs 66) (q.m),q.lv,au (q.lv) (0*1),au (ap q.bs 66) (q.m+0),au (ap q.bs 66) (q.m+1),au (ap q.bs 66) (q.m+2),ap q.bs 66,iN (1),iz (q.x),.map (some q.bl),iN (q.n)] (fc (ae _ _) (fc q.lD (fc (ae _ _) (fc (ae _ _) (fc (ae _ _) (fc (ae _ _) fr)))))) [(.lss,iz 0,sy 7,.bool true),(.gtr,sy 10,iz 0,.bool false),(.lss,iz 1,sy 7,.bool false)] [] [] (fc (λ_ _ _=>ax (by first|(simp;done)|(simp;omega))) (fc (λ_ _ _=>bJ (by first|(simp;done)|(simp;omega))) (fc (λ_ _ _=>ax (by first|(simp;done)|(simp;omega))) fn))) fn fn q.W0 q.F0 [eZ q,[xB q,bX q.bl (q.n) (q.f),fB q],[xB q,ce 411 (λv=>JA prog 3 Lk.d H8 wd 72 q.bl (q.n) (q.f) ((q.x)) v),fB q],[xB q,bX q.bl (q.n+1) (bQ (q.f) ((q.x)) (some (⟨0,0,false,false⟩:Lk))),fB q],CU q] [⟨[10,37],[sy 1],none,0,none,sy 7,none⟩,⟨[3,37],[sy 1,iz 0],none,0,none,sy 2,none⟩,⟨[1,3],[sy 2],none,0,none,sy 8,none⟩,⟨[9],[sy 0],none,0,none,sy 0,none⟩,⟨[7,74,0],[sy 0],none,0,none,sy 3,none⟩,⟨[1,72],[sy 3],none,0,none,sy 9,none⟩,⟨[10,72],[sy 9],none,0,none,sy 10,none⟩,⟨[7,74,1],[sy 0],none,0,none,sy 4,none⟩,⟨[2,3],[sy 4,sy 8],none,0,none,undef,some 1⟩,⟨[9],[sy 0],none,1,none,sy 0,none⟩,⟨[7,74,0],[sy 0],none,1,none,sy 3,none⟩,⟨[1,72],[sy 3],none,1,none,sy 9,none⟩,⟨[22,72],[sy 9,sy 8],none,1,some 411,.tuple #[.agg #[iz 0,iz 0,.bool false,.bool false],.complex .f32 411 0],some 2⟩,⟨[23,72],[sy 9,.complex .f32 411 0,.agg #[iz 0,iz 0,.bool false,.bool false]],none,2,none,undef,some 3⟩,⟨[9],[sy 0],none,3,none,sy 0,none⟩,⟨[7,74,2],[sy 0],none,3,none,sy 5,none⟩,⟨[2,3],[sy 5,sy 8],none,3,none,undef,some 4⟩] []) (fc (by exact de (ci:=3) rfl rfl underlying37 i2 rfl rfl) (fc (by exact eX (ci:=3) (j:=0) rfl rfl underlying37 i1 i2 rfl dM (by omega) rfl) (fc (by exact ah (ci:=3) (m:=0*1) (x:=(iz q.x)) rfl rfl aG rfl (by decide) rfl (λι=>(vk (by kernel_rfl) (by kernel_rfl)))) (fc (ai rfl) (fc (by exact af (ci:=1) (fo:=0) rfl rfl (by omega) aj rfl rfl) (fc (by exact ah (ci:=1) (m:=q.m+0) (x:=(.map (some q.bl))) rfl rfl am h0 (by simp;omega) rfl (λι=>(vk (by kernel_rfl) (by kernel_rfl)))) (fc (vF bR (ci:=2) rfl rfl rfl rfl) (fc (by exact af (ci:=1) (fo:=1) rfl rfl (by omega) eE rfl rfl) (fc (by exact bD (ci:=1) (m:=q.m+1) (x:=(iz q.x)) rfl rfl rfl bE (by simp;omega) rfl (cu rfl) rfl) (fc (ai rfl) (fc (by exact af (ci:=1) (fo:=0) rfl rfl (by omega) aj rfl rfl) (fc (by exact ah (ci:=1) (m:=q.m+0) (x:=(.map (some q.bl))) rfl rfl am (ja (by omega) h0) (by simp;omega) rfl (λι=>(vk (by kernel_rfl) (by kernel_rfl)))) (fc (by exact s7 bR (ci:=2) rfl rfl rfl rfl rfl (by first | assumption | exact aV (by omega) (by omega)) (by unfold maxLen;omega) hx (λι=>(vk (by kernel_rfl) (by kernel_rfl)))) (fc (s9 bR (ci:=2) (x:=(⟨0,0,false,false⟩:Lk)) rfl rfl rfl rfl (Ev.isAgg (cN dM (cN dM (cN Ev.isBool (cN Ev.isBool pF)))))) (fc (ai rfl) (fc (by exact af (ci:=1) (fo:=2) rfl rfl (by omega) fA rfl rfl) (fc (by exact bD (ci:=1) (m:=q.m+2) (x:=(iz q.x)) rfl rfl rfl bE (by simp;omega) rfl (cu rfl) rfl) fn))))))))))))))))) fn rfl [] [] [] 4 rfl rfl [(0,sy 0),(1,sy 1)] (iz 0))
theorem JE(q:FP)(h0:q.xs[q.m]? = some (.map (some q.bl)))(hx:q.f q.x=none)(hz:0<q.n)(h2:q.xs[q.m+2]? = some (.int .i64 q.tl))(htl:0<=q.tl/\q.tl<4096)(hne:q.x≠q.tl)(ht:q.f q.tl=some ⟨q.ka,q.kb,false,false⟩):aI prog 67 [] 4 83 ⟨q.W0,q.F0⟩ (jO q) (eZ q) (λκ:ag=>(iz 0)) (λκ:ag=>(CW q)):=by have z:=q.z;obtain⟨i,i1,i2,i3,i4⟩:=aT;exact(br (c:=⟨q.W0,q.F0⟩) 20 (kn [au (ap q.bs 66) (q.m),q.lv,au (q.lv) (0*1),au (ap q.bs 66) (q.m+0),au (ap q.bs 66) (q.m+2),ap q.bs 66,iN (1),iz (q.x),.map (some q.bl),iN (q.n),iz (q.tl),iz (q.ka),iz (q.kb)] (fc (ae _ _) (fc q.lD (fc (ae _ _) (fc (ae _ _) (fc (ae _ _) fr))))) [(.lss,iz 0,sy 6,.bool true),(.gtr,sy 9,iz 0,.bool true),(.lss,iz 1,sy 6,.bool false)] [] [] (fc (λ_ _ _=>ax (by first|(simp;done)|(simp;omega))) (fc (λ_ _ _=>bJ (by first|(simp;done)|(simp;omega))) (fc (λ_ _ _=>ax (by first|(simp;done)|(simp;omega))) fn))) fn fn q.W0 q.F0 [eZ q,[mD q,bX q.bl (q.n) (bQ (q.f) ((q.tl)) (some (⟨q.ka,q.x,false,true⟩:Lk))),fB q],[mD q,ce 415 (λv=>JA prog 3 Lk.d H8 wd 72 q.bl (q.n) (bQ (q.f) ((q.tl)) (some (⟨q.ka,q.x,false,true⟩:Lk))) ((q.x)) v),fB q],[mD q,CV q,fB q],CW q] [⟨[10,37],[sy 1],none,0,none,sy 6,none⟩,⟨[3,37],[sy 1,iz 0],none,0,none,sy 2,none⟩,⟨[1,3],[sy 2],none,0,none,sy 7,none⟩,⟨[9],[sy 0],none,0,none,sy 0,none⟩,⟨[7,74,0],[sy 0],none,0,none,sy 3,none⟩,⟨[1,72],[sy 3],none,0,none,sy 8,none⟩,⟨[10,72],[sy 8],none,0,none,sy 9,none⟩,⟨[7,74,2],[sy 0],none,0,none,sy 4,none⟩,⟨[1,3],[sy 4],none,0,none,sy 10,none⟩,⟨[5,72,0],[sy 8,sy 10],none,0,none,.agg #[sy 11,sy 12,.bool false,.bool false],none⟩,⟨[6,72],[sy 8,sy 10,.agg #[sy 11,sy 7,.bool false,.bool true]],none,0,none,undef,some 1⟩,⟨[9],[sy 0],none,1,none,sy 0,none⟩,⟨[7,74,2],[sy 0],none,1,none,sy 4,none⟩,⟨[1,3],[sy 4],none,1,none,sy 10,none⟩,⟨[7,74,0],[sy 0],none,1,none,sy 3,none⟩,⟨[1,72],[sy 3],none,1,none,sy 8,none⟩,⟨[22,72],[sy 8,sy 7],none,1,some 415,.tuple #[.agg #[iz 0,iz 0,.bool false,.bool false],.complex .f32 415 0],some 2⟩,⟨[23,72],[sy 8,.complex .f32 415 0,.agg #[sy 10,iz 0,.bool true,.bool false]],none,2,none,undef,some 3⟩,⟨[9],[sy 0],none,3,none,sy 0,none⟩,⟨[7,74,2],[sy 0],none,3,none,sy 4,none⟩,⟨[2,3],[sy 4,sy 7],none,3,none,undef,some 4⟩] []) (fc (by exact de (ci:=3) rfl rfl underlying37 i2 rfl rfl) (fc (by exact eX (ci:=3) (j:=0) rfl rfl underlying37 i1 i2 rfl dM (by omega) rfl) (fc (by exact ah (ci:=3) (m:=0*1) (x:=(iz q.x)) rfl rfl aG rfl (by decide) rfl (λι=>(vk (by kernel_rfl) (by kernel_rfl)))) (fc (ai rfl) (fc (by exact af (ci:=1) (fo:=0) rfl rfl (by omega) aj rfl rfl) (fc (by exact ah (ci:=1) (m:=q.m+0) (x:=(.map (some q.bl))) rfl rfl am h0 (by simp;omega) rfl (λι=>(vk (by kernel_rfl) (by kernel_rfl)))) (fc (vF bR (ci:=2) rfl rfl rfl rfl) (fc (by exact af (ci:=1) (fo:=2) rfl rfl (by omega) fA rfl rfl) (fc (by exact ah (ci:=1) (m:=q.m+2) (x:=(iz q.tl)) rfl rfl aG h2 (by simp;omega) rfl (λι=>(vk (by kernel_rfl) (by kernel_rfl)))) (fc (by exact aJ bR (ci:=2) (x:=⟨q.ka,q.kb,false,false⟩) rfl rfl rfl rfl (by first | assumption | exact aV (by omega) (by omega)) (by rw[ht];rfl) (λι=>(vk (by kernel_rfl) (by kernel_rfl)))) (fc (by exact kP bR (ci:=2) (x:=(⟨q.ka,q.x,false,true⟩:Lk)) rfl rfl (by rw[ht];rfl) rfl rfl rfl (by first | assumption | exact aV (by omega) (by omega)) (by unfold maxLen;omega) (Ev.isAgg (ak (by kernel_rfl) (by kernel_rfl)))) (fc (ai rfl) (fc (by exact af (ci:=1) (fo:=2) rfl rfl (by omega) fA rfl rfl) (fc (by exact ah (ci:=1) (m:=q.m+2) (x:=(iz q.tl)) rfl rfl aG h2 (by simp;omega) rfl (λι=>(vk (by kernel_rfl) (by kernel_rfl)))) (fc (by exact af (ci:=1) (fo:=0) rfl rfl (by omega) aj rfl rfl) (fc (by exact ah (ci:=1) (m:=q.m+0) (x:=(.map (some q.bl))) rfl rfl am h0 (by simp;omega) rfl (λι=>(vk (by kernel_rfl) (by kernel_rfl)))) (fc (by exact s7 bR (ci:=2) rfl rfl rfl rfl rfl (by first | assumption | exact aV (by omega) (by omega)) (by unfold maxLen;omega) (by unfold bQ;rw[if_neg hne];exact hx) (λι=>(vk (by kernel_rfl) (by kernel_rfl)))) (fc (s9 bR (ci:=2) (x:=(⟨q.tl,0,true,false⟩:Lk)) rfl rfl rfl rfl (Ev.isAgg (ak (by kernel_rfl) (by kernel_rfl)))) (fc (ai rfl) (fc (by exact af (ci:=1) (fo:=2) rfl rfl (by omega) fA rfl rfl) (fc (by exact bD (ci:=1) (m:=q.m+2) (x:=(iz q.x)) rfl rfl rfl bE (by simp;omega) rfl (cu rfl) rfl) fn))))))))))))))))))))) fn rfl [] [] [] 4 rfl rfl [(0,sy 0),(1,sy 1)] (iz 0))
theorem JF(q:FP)(h0:q.xs[q.m]? = some (.map (some q.bl)))(hx:q.f q.x=none)(hz:0<q.n)(h2:q.xs[q.m+2]? = some (.int .i64 q.tl))(htl:0<=q.tl/\q.tl<4096)(hne:q.x≠q.tl)(ht:q.f q.tl=some ⟨q.ka,q.kb,true,false⟩):aI prog 67 [] 4 83 ⟨q.W0,q.F0⟩ (jO q) (eZ q) (λκ:ag=>(iz 0)) (λκ:ag=>(CY q)):=by have z:=q.z;obtain⟨i,i1,i2,i3,i4⟩:=aT;exact(br (c:=⟨q.W0,q.F0⟩) 20 (kn [au (ap q.bs 66) (q.m),q.lv,au (q.lv) (0*1),au (ap q.bs 66) (q.m+0),au (ap q.bs 66) (q.m+2),ap q.bs 66,iN (1),iz (q.x),.map (some q.bl),iN (q.n),iz (q.tl),iz (q.ka),iz (q.kb)] (fc (ae _ _) (fc q.lD (fc (ae _ _) (fc (ae _ _) (fc (ae _ _) fr))))) [(.lss,iz 0,sy 6,.bool true),(.gtr,sy 9,iz 0,.bool true),(.lss,iz 1,sy 6,.bool false)] [] [] (fc (λ_ _ _=>ax (by first|(simp;done)|(simp;omega))) (fc (λ_ _ _=>bJ (by first|(simp;done)|(simp;omega))) (fc (λ_ _ _=>ax (by first|(simp;done)|(simp;omega))) fn))) fn fn q.W0 q.F0 [eZ q,[mD q,bX q.bl (q.n) (bQ (q.f) ((q.tl)) (some (⟨q.ka,q.x,true,true⟩:Lk))),fB q],[mD q,ce 415 (λv=>JA prog 3 Lk.d H8 wd 72 q.bl (q.n) (bQ (q.f) ((q.tl)) (some (⟨q.ka,q.x,true,true⟩:Lk))) ((q.x)) v),fB q],[mD q,CX q,fB q],CY q] [⟨[10,37],[sy 1],none,0,none,sy 6,none⟩,⟨[3,37],[sy 1,iz 0],none,0,none,sy 2,none⟩,⟨[1,3],[sy 2],none,0,none,sy 7,none⟩,⟨[9],[sy 0],none,0,none,sy 0,none⟩,⟨[7,74,0],[sy 0],none,0,none,sy 3,none⟩,⟨[1,72],[sy 3],none,0,none,sy 8,none⟩,⟨[10,72],[sy 8],none,0,none,sy 9,none⟩,⟨[7,74,2],[sy 0],none,0,none,sy 4,none⟩,⟨[1,3],[sy 4],none,0,none,sy 10,none⟩,⟨[5,72,0],[sy 8,sy 10],none,0,none,.agg #[sy 11,sy 12,.bool true,.bool false],none⟩,⟨[6,72],[sy 8,sy 10,.agg #[sy 11,sy 7,.bool true,.bool true]],none,0,none,undef,some 1⟩,⟨[9],[sy 0],none,1,none,sy 0,none⟩,⟨[7,74,2],[sy 0],none,1,none,sy 4,none⟩,⟨[1,3],[sy 4],none,1,none,sy 10,none⟩,⟨[7,74,0],[sy 0],none,1,none,sy 3,none⟩,⟨[1,72],[sy 3],none,1,none,sy 8,none⟩,⟨[22,72],[sy 8,sy 7],none,1,some 415,.tuple #[.agg #[iz 0,iz 0,.bool false,.bool false],.complex .f32 415 0],some 2⟩,⟨[23,72],[sy 8,.complex .f32 415 0,.agg #[sy 10,iz 0,.bool true,.bool false]],none,2,none,undef,some 3⟩,⟨[9],[sy 0],none,3,none,sy 0,none⟩,⟨[7,74,2],[sy 0],none,3,none,sy 4,none⟩,⟨[2,3],[sy 4,sy 7],none,3,none,undef,some 4⟩] []) (fc (by exact de (ci:=3) rfl rfl underlying37 i2 rfl rfl) (fc (by exact eX (ci:=3) (j:=0) rfl rfl underlying37 i1 i2 rfl dM (by omega) rfl) (fc (by exact ah (ci:=3) (m:=0*1) (x:=(iz q.x)) rfl rfl aG rfl (by decide) rfl (λι=>(vk (by kernel_rfl) (by kernel_rfl)))) (fc (ai rfl) (fc (by exact af (ci:=1) (fo:=0) rfl rfl (by omega) aj rfl rfl) (fc (by exact ah (ci:=1) (m:=q.m+0) (x:=(.map (some q.bl))) rfl rfl am h0 (by simp;omega) rfl (λι=>(vk (by kernel_rfl) (by kernel_rfl)))) (fc (vF bR (ci:=2) rfl rfl rfl rfl) (fc (by exact af (ci:=1) (fo:=2) rfl rfl (by omega) fA rfl rfl) (fc (by exact ah (ci:=1) (m:=q.m+2) (x:=(iz q.tl)) rfl rfl aG h2 (by simp;omega) rfl (λι=>(vk (by kernel_rfl) (by kernel_rfl)))) (fc (by exact aJ bR (ci:=2) (x:=⟨q.ka,q.kb,true,false⟩) rfl rfl rfl rfl (by first | assumption | exact aV (by omega) (by omega)) (by rw[ht];rfl) (λι=>(vk (by kernel_rfl) (by kernel_rfl)))) (fc (by exact kP bR (ci:=2) (x:=(⟨q.ka,q.x,true,true⟩:Lk)) rfl rfl (by rw[ht];rfl) rfl rfl rfl (by first | assumption | exact aV (by omega) (by omega)) (by unfold maxLen;omega) (Ev.isAgg (ak (by kernel_rfl) (by kernel_rfl)))) (fc (ai rfl) (fc (by exact af (ci:=1) (fo:=2) rfl rfl (by omega) fA rfl rfl) (fc (by exact ah (ci:=1) (m:=q.m+2) (x:=(iz q.tl)) rfl rfl aG h2 (by simp;omega) rfl (λι=>(vk (by kernel_rfl) (by kernel_rfl)))) (fc (by exact af (ci:=1) (fo:=0) rfl rfl (by omega) aj rfl rfl) (fc (by exact ah (ci:=1) (m:=q.m+0) (x:=(.map (some q.bl))) rfl rfl am h0 (by simp;omega) rfl (λι=>(vk (by kernel_rfl) (by kernel_rfl)))) (fc (by exact s7 bR (ci:=2) rfl rfl rfl rfl rfl (by first | assumption | exact aV (by omega) (by omega)) (by unfold maxLen;omega) (by unfold bQ;rw[if_neg hne];exact hx) (λι=>(vk (by kernel_rfl) (by kernel_rfl)))) (fc (s9 bR (ci:=2) (x:=(⟨q.tl,0,true,false⟩:Lk)) rfl rfl rfl rfl (Ev.isAgg (ak (by kernel_rfl) (by kernel_rfl)))) (fc (ai rfl) (fc (by exact af (ci:=1) (fo:=2) rfl rfl (by omega) fA rfl rfl) (fc (by exact bD (ci:=1) (m:=q.m+2) (x:=(iz q.x)) rfl rfl rfl bE (by simp;omega) rfl (cu rfl) rfl) fn))))))))))))))))))))) fn rfl [] [] [] 4 rfl rfl [(0,sy 0),(1,sy 1)] (iz 0))
end Go.Proofs.Ytankbefdlbcdnaa
namespace Go.Proofs.Ytankbefdlbcdnaa
open Go.Ev Go.Proofs.Try
open Go.RowKit
structure bY(l:List Int)(hd tl:Int)(f:Int->Option Lk):Prop where
 nd:l.Nodup
 rng:∀ x ∈ l,0<=x/\x<4096
 no:∀ x,x ∉ l->f x=none
 hd:∀ x,l[0]? = some x->hd=x
 tl:∀ x,l[l.length-1]? = some x->tl=x
 at':∀ i x,l[i]? = some x->∃ a b,f x=some ⟨a,b,decide (0<i),decide (i+1<l.length)⟩/\(0<=a/\a<4096)/\(0<=b/\b<4096)/\∀ y,l[i+1]? = some y->b=y
theorem bY.nil(hd tl:Int):bY [] hd tl (λ_=>none):=⟨List.nodup_nil,by simp,λ_ _=>rfl,by simp,by simp,by simp⟩
theorem bY.one{hd tl x:Int}{f:Int->Option Lk}(h:bY [] hd tl f)(hx:0<=x/\x<4096):bY [x] x x (bQ f x (some ⟨0,0,false,false⟩)) where
 nd:=by simp
 rng:=by simpa using hx
 no:=λy hy=>by
  have hne:y≠x:=by simpa using hy
  unfold bQ;rw[if_neg hne];exact h.no y (by simp)
 hd:=by simp
 tl:=by simp
 at':=λi y hy=>by
  match i,hy with
  | 0,hy =>
   obtain rfl:x=y:=by simpa using hy
   exact⟨0,0,if_pos rfl,by decide,by decide,by simp⟩
  | i+1,hy=>simp at hy
theorem bY.last{l:List Int}{hd tl:Int}{f:Int->Option Lk}(h:bY l hd tl f)(hl:0<l.length):tl ∈ l/\l[l.length-1]? = some tl/\∃ a b,f tl=some ⟨a,b,decide (1<l.length),false⟩/\(0<=a/\a<4096):=by
 have e:l[l.length-1]? = some l[l.length-1]:=List.getElem?_eq_getElem (by omega);have e2:=h.tl _ e;rw[← e2]at e;obtain⟨a,b,h1,h2,_⟩:=h.at' _ _ e;refine⟨List.mem_of_getElem? e,e,a,b,?_,h2⟩;rw[h1];simp only[Option.some.injEq,Lk.mk.injEq,true_and,decide_eq_decide,decide_eq_false_iff_not];omega
theorem bY.push{l:List Int}{hd tl x ka kb:Int}{kx:Bool}{f:Int->Option Lk}(h:bY l hd tl f)(hl:0<l.length)(hx:0<=x/\x<4096)(hn:x ∉ l)(ht:f tl=some ⟨ka,kb,kx,false⟩)(hk:0<=ka/\ka<4096) :
  bY (l++[x]) hd x (bQ (bQ f tl (some ⟨ka,x,kx,true⟩)) x (some ⟨tl,0,true,false⟩)):=by
 obtain⟨hm,he,a,b,h1,h2⟩:=h.last hl;rw[ht]at h1;simp only[Option.some.injEq,Lk.mk.injEq]at h1;obtain⟨rfl,rfl,rfl,_⟩:=h1;have hne:tl≠x:=λe=>hn (e▸hm)
 refine⟨?_,?_,?_,?_,?_,?_⟩
 ·refine List.nodup_append.2 ⟨h.nd,by simp,λy hy z hz=>?_⟩
  obtain rfl:=List.mem_singleton.1 hz;exact λe=>hn (e▸hy)
 ·intro y hy
  rcases List.mem_append.1 hy with hy | hy
  ·exact h.rng y hy
  ·obtain rfl:=List.mem_singleton.1 hy
   exact hx
 ·intro y hy
  have h3:y ∉ l/\y≠x:=by simpa using hy
  unfold bQ;have h5:¬ y=tl:=λe=>h3.1 (by rw[e];exact hm)
  rw[if_neg h3.2,if_neg h5];exact h.no y h3.1
 ·intro y hy
  rw[List.getElem?_append_left hl]at hy;exact h.hd y hy
 ·intro y hy
  simpa using hy
 ·intro i y hy
  rcases Nat.lt_trichotomy i l.length with hi | rfl | hi
  ·rw[List.getElem?_append_left hi]at hy
   obtain⟨a,b,h3,h4,h5,h6⟩:=h.at' i y hy;have hyx:y≠x:=λe=>hn (e▸List.mem_of_getElem? hy)
   by_cases hit:i=l.length-1
   ·subst hit
    rw[he]at hy;cases hy;rw[ht]at h3;simp only[Option.some.injEq,Lk.mk.injEq]at h3;refine⟨ka,x,?_,hk,hx,?_⟩
    ·unfold bQ
     rw[if_neg hne,if_pos rfl];simp only[Option.some.injEq,Lk.mk.injEq,true_and,List.length_append,List.length_singleton];exact⟨h3.2.2.1,by simp;omega⟩
    ·intro y hy
     rw[show l.length-1+1=l.length by omega]at hy;simpa using hy
   ·have Nv:y≠tl:=λe=>by
     subst e;have:=(List.getElem?_inj hi h.nd).1 (hy.trans he.symm);exact hit this
    refine⟨a,b,?_,h4,h5,?_⟩
    ·unfold bQ
     rw[if_neg hyx,if_neg Nv,h3];simp only[Option.some.injEq,Lk.mk.injEq,true_and,List.length_append,List.length_singleton,decide_eq_decide];omega
    ·intro z hz
     rw[List.getElem?_append_left (by omega)]at hz;exact h6 z hz
  ·have e:y=x:=by simpa using hy.symm
   subst e;refine⟨tl,0,?_,h.rng tl hm,by decide,by simp⟩;unfold bQ;rw[if_pos rfl];simp only[Option.some.injEq,Lk.mk.injEq,true_and,List.length_append,List.length_singleton];exact⟨by simp;omega,by simp⟩
  ·rw[List.getElem?_eq_none (by simp;omega)]at hy
   cases hy
theorem bY.drop{x y:Int}{r:List Int}{hd tl ka yb:Int}{kb:Int}{ya:Int}{yB:Bool}{f:Int->Option Lk}(h:bY (x::y::r) hd tl f)(hx:f x=some ⟨ka,kb,false,true⟩)(hk:0<=ka/\ka<4096)(hy:f y=some ⟨ya,yb,true,yB⟩) :
  bY (y::r) y tl (bQ (bQ f x none) y (some ⟨ka,yb,false,yB⟩)):=by
 have hnd:=h.nd;have hxy:x≠y:=by
  intro e;subst e;simp at hnd
 have H5:x ∉ y::r:=(List.nodup_cons.1 hnd).1;have EZ:=(List.nodup_cons.1 (List.nodup_cons.1 hnd).2);refine⟨(List.nodup_cons.1 hnd).2,λz hz=>h.rng z (List.mem_cons_of_mem _ hz),?_,by simp,?_,?_⟩
 ·intro z hz
  unfold bQ;have h5:¬ z=y:=λe=>hz (by rw[e];exact List.mem_cons_self)
  rw[if_neg h5]
  split
  ·rfl
  ·rename_i hzx
   exact h.no z (λhm=>(List.mem_cons.1 hm).elim hzx hz)
 ·intro z hz
  refine h.tl z ?_;rw[← hz];simp
 ·intro i z hz
  obtain⟨a,b,h1,h2,h3,h4⟩:=h.at' (i+1) z (by simpa using hz);have hzx:z≠x:=λe=>H5 (e▸List.mem_of_getElem? hz)
  match i,hz with
  | 0,hz =>
   obtain rfl:y=z:=by simpa using hz
   rw[hy]at h1;simp only[Option.some.injEq,Lk.mk.injEq]at h1;obtain⟨rfl,rfl,_,e⟩:=h1;refine⟨ka,yb,?_,hk,h3,λz hz=>h4 z (by simpa using hz)⟩;unfold bQ;rw[if_pos rfl,e];simp
  | i+1,hz =>
   have hzy:z≠y:=λe=>EZ.1 (e▸List.mem_of_getElem? (by simpa using hz))
   refine⟨a,b,?_,h2,h3,λz hz=>h4 z (by simpa using hz)⟩;unfold bQ;rw[if_neg hzy,if_neg hzx,h1];simp
theorem bY.gone{x:Int}{hd tl:Int}{f:Int->Option Lk}(h:bY [x] hd tl f)(a b:Int):bY [] a b (bQ f x none)/\∀ j,j≠x->f j=none :=
 ⟨⟨List.nodup_nil,by simp,λz _=>by
  unfold bQ
  split
  ·rfl
  ·rename_i hz
   exact h.no z (by simpa using hz),by simp,by simp,by simp⟩,λj hj=>h.no j (by simpa using hj)⟩
end Go.Proofs.Ytankbefdlbcdnaa
namespace Go.Proofs.Ytankbefdlbcdnaa
open Go.Ev Go.Proofs.Try
open Go.RowKit
open Go.Ev (iz iN pz)
attribute [local irreducible] dF
structure fM(xs:List Value)(m:Nat)(o:Option Nat)(l:List Int)(hd tl:Int)(f:Int->Option Lk):Prop where
 v:xs[m]? = some (oV o)
 h:xs[m+1]? = some (.int .i64 hd)
 t:xs[m+2]? = some (.int .i64 tl)
 rep:bY l hd tl f
 no:o=none->l=[]
def d6(xs:List Value)(m:Nat)(l:List Int)(x:Int):List Value:=if l=[] then (xs.set (m+1) (iz x)).set (m+2) (iz x) else xs.set (m+2) (iz x)
def eF(l:List Int)(tl:Int)(f:Int->Option Lk)(x:Int):Int->Option Lk :=
 if l=[] then bQ f x (some ⟨0,0,false,false⟩) else bQ (bQ f tl (some ⟨((f tl).getD wd).a,x,((f tl).getD wd).x,true⟩)) x (some ⟨tl,0,true,false⟩)
theorem pushed{xs:List Value}{m:Nat}{l:List Int}{hd tl x:Int}{f:Int->Option Lk}{b:Nat}(L:fM xs m (some b) l hd tl f)(hx:0<=x/\x<4096)(hn:x ∉ l)(hm:m+3<=xs.length) :
  ∃ hd' tl',fM (d6 xs m l x) m (some b) (l++[x]) hd' tl' (eF l tl f x):=by
 unfold d6 eF
 by_cases hl:l=[]
 ·subst hl
  simp only[if_true];refine⟨x,x,⟨?_,?_,?_,L.rep.one hx,by simp⟩⟩
  ·rw[List.getElem?_set_ne (by omega),List.getElem?_set_ne (by omega)]
   exact L.v
  ·rw[List.getElem?_set_ne (by omega),List.getElem?_set_self (by omega)]
  ·rw[List.getElem?_set_self (by simp;omega)]
 ·simp only[if_neg hl]
  have hl2:0<l.length:=List.length_pos_iff.2 hl;obtain⟨_,_,a,b',h1,h2⟩:=L.rep.last hl2;refine⟨hd,x,⟨?_,?_,?_,?_,by simp⟩⟩
  ·rw[List.getElem?_set_ne (by omega)]
   exact L.v
  ·rw[List.getElem?_set_ne (by omega)]
   exact L.h
  ·rw[List.getElem?_set_self (by omega)]
  ·rw[h1]
   exact L.rep.push hl2 hx hn h1 h2
section
variable{w:World}{F:Nat->Prop}{bs m:Nat}{xs:List Value}{f:Int->Option Lk}{x hd tl:Int}{lv:Value}{l:List Int}
theorem vG(b:Nat)(hm:m+4<=66)(hx:0<=x/\x<4096)(hn:x ∉ l)(hlen:l.length<=4000)(L:fM xs m (some b) l hd tl f)(lD:aR lv=true){c:eO}{R:Ending->World->Prop}{A:Act}(hA:Ev.At c 83 [(0,sP bs m),(1,lv)] [sA bs xs,bX b l.length f,lE lv x] A w)
  (hR:∀ w',ay c [sA bs (d6 xs m l x),bX b (l.length+1) (eF l tl f x),lE lv x] w'->R (.returned (.int .i64 0)) w') :
  dF prog (ia prog 67 [] 4) (bodyPostM Fence.wide 0 prog (gH prog 67) R) A w:=by
 have hf:f x=none:=L.rep.no x hn;unfold d6 eF at hR
 by_cases hl:l=[]
 ·subst hl
  simp only[if_true]at hR;exact Nu (fp c.W c.X bs m xs b 0 f x lv lD 0 0 0 0 ⟨hm,by decide,hx⟩) L.v hf rfl A w R hA (λκ w' h=>hR w' h)
 ·simp only[if_neg hl]at hR
  have hl2:0<l.length:=List.length_pos_iff.2 hl;obtain⟨h0,_,a,b',h1,h2⟩:=L.rep.last hl2;have htl:=L.rep.rng tl h0;have hne:x≠tl:=λe=>hn (e▸h0)
  rw[h1]at hR
  by_cases h3:1<l.length
  ·rw[decide_eq_true h3]at h1 hR
   exact JF (fp c.W c.X bs m xs b l.length f x lv lD 0 a b' tl ⟨hm,by omega,hx⟩) L.v hf hl2 L.t htl hne h1 A w R hA (λκ w' h=>hR w' h)
  ·rw[decide_eq_false h3]at h1 hR
   exact JE (fp c.W c.X bs m xs b l.length f x lv lD 0 a b' tl ⟨hm,by omega,hx⟩) L.v hf hl2 L.t htl hne h1 A w R hA (λκ w' h=>hR w' h)
theorem Id(b:Nat)(hm:m+4<=66)(hx:0<=x/\x<4096)(hn:x ∉ l)(hlen:l.length<=4000)(L:fM xs m (some b) l hd tl f)(h:bu [sA bs xs,bX b l.length f,lE lv x] F w) :
  Calls prog 67 #[sP bs m,lv] w λe w'=>e=.returned (.int .i64 0)/\ay ⟨w,F⟩ [sA bs (d6 xs m l x),bX b (l.length+1) (eF l tl f x),lE lv x] w':=by
 have lD:aR lv=true:=bV ((ay.start h).sel [2]);refine bx (N:=83) (tm:=[(0,sP bs m),(1,lv)]) (by kernel_rfl) h (by simp) (by simp) (λA hA=>?_);refine Lc (fp w F bs m xs b l.length f x lv lD 0 0 0 0 ⟨hm,by omega,hx⟩) L.v (L.rep.no x hn) A w _ hA ?_;intro κ A1 w1 h1;refine Ld (fp w F bs m xs b l.length f x lv lD 0 0 0 0 ⟨hm,by omega,hx⟩) L.v A1 w1 _ h1 ?_;intro κ2 A2 w2 h2;exact vG b hm hx hn hlen L lD h2 (λw' hh=>⟨rfl,hh⟩)
theorem Ie(hm:m+4<=66)(hx:0<=x/\x<4096)(hmx:m+3<=xs.length)(L:fM xs m none l hd tl f)(h:bu [sA bs xs,lE lv x] F w) :
  Calls prog 67 #[sP bs m,lv] w λe w'=>∃ b,e=.returned (.int .i64 0)/\ay ⟨w,F⟩ [sA bs (d6 (xs.set m (.map (some b))) m [] x),bX b 1 (eF [] tl (λ_=>none) x),lE lv x] w':=by
 have lD:aR lv=true:=bV ((ay.start h).sel [1]);refine bx (N:=83) (tm:=[(0,sP bs m),(1,lv)]) (by kernel_rfl) h (by simp) (by simp) (λA hA=>?_);refine La (fp w F bs m xs 0 0 f x lv lD 0 0 0 0 ⟨hm,by omega,hx⟩) L.v A w _ hA ?_;intro κ A1 w1 h1;refine Lb (fp w F bs m xs 0 0 f x lv lD 0 0 0 0 ⟨hm,by omega,hx⟩) L.v A1 w1 _ h1 ?_;intro κ2 A2 w2 h2;dsimp only at h2;have ht:=h2.tm;obtain⟨b,e2,hh⟩:=mC (h2.hold.sel [2,0,1]);rw[e2]at hh;have L2:fM (xs.set m (.map (some b))) m (some b) [] 0 tl (λ_=>none)->True:=λ_=>trivial
 obtain⟨hl,e⟩:l=[]/\True:=⟨L.no rfl,trivial⟩;subst hl;have L3:fM (xs.set m (.map (some b))) m (some b) [] hd tl (λ_=>none):=⟨by rw[List.getElem?_set_self (by omega)];rfl,by rw[List.getElem?_set_ne (by omega)];exact L.h,by rw[List.getElem?_set_ne (by omega)];exact L.t,bY.nil _ _,by simp⟩;exact vG b hm hx (by simp) (by simp) L3 lD ⟨h2.sz,h2.df,ht,hh.sel [1,0,2]⟩ (λw' hh=>⟨b,rfl,hh⟩)
end
end Go.Proofs.Ytankbefdlbcdnaa
