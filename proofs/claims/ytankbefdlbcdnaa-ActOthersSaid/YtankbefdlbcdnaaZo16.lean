/- Part of a proof: see the last text. -/
import Derived.Test.YtankbefdlbcdnaaZo15
namespace Go.Proofs.Ytankbefdlbcdnaa
open Go.RowKit
open Go.Ev (sy iz uz wz iN uN wN pz dv fc fn ak vk vd kn pc cc cr cm cd fr)
set_option linter.unusedVariables false
set_option linter.unusedSimpArgs false
set_option maxRecDepth 8000
attribute [local irreducible] Ev.wpL
abbrev ff5a0 (q:FP) : Ev.Asr:=Ev.slA 79 1 (Ev.arrV q.bs 66) 66 (q.xs)
abbrev ff5a1 (q:FP) : Ev.Asr:=Ev.slA 3 1 (q.lv) (1) ([.int .i64 q.x])
abbrev ff5a2 (q:FP) : List Ev.Asr:=[(ff5a0 q),(ff5a1 q)]
abbrev ff5a5 (q:FP) : List (Nat×Value):=[(0,(Ev.ptrR (Ev.arrV q.bs 66) (q.m))),(1,(q.lv))]
abbrev ff5a13 (q:FP) : List Ev.Asr:=[(ff5a0 q),lkA q.bl (q.n) (q.f),(ff5a1 q)]
abbrev ff5a19 (q:FP) : Ev.Asr:=Ev.slA 79 1 (Ev.arrV q.bs 66) (66) ((q.xs).set (q.m+1) (iz (q.x)))
abbrev ff5a26 (q:FP) : List Ev.Asr:=[Ev.slA 79 1 (Ev.arrV q.bs 66) (66) (((q.xs).set (q.m+1) (iz (q.x))).set (q.m+2) (iz (q.x))),lkA q.bl (q.n+1) (Ev.updE (q.f) ((q.x)) (some (⟨0,0,false,false⟩ : Lk))),(ff5a1 q)]
abbrev ff5a31 (q:FP) : Ev.Asr:=lkA q.bl (q.n+1) (Ev.updE (Ev.updE (q.f) ((q.tl)) (some (⟨(q.ka),(q.x),false,true⟩ : Lk))) ((q.x)) (some (⟨(q.tl),0,true,false⟩ : Lk)))
abbrev ff5a34 (q:FP) : List Ev.Asr:=[Ev.slA 79 1 (Ev.arrV q.bs 66) (66) ((q.xs).set (q.m+2) (iz (q.x))),(ff5a31 q),(ff5a1 q)]
abbrev ff5a39 (q:FP) : Ev.Asr:=lkA q.bl (q.n+1) (Ev.updE (Ev.updE (q.f) ((q.tl)) (some (⟨(q.ka),(q.x),true,true⟩ : Lk))) ((q.x)) (some (⟨(q.tl),0,true,false⟩ : Lk)))
abbrev ff5a41 (q:FP) : List Ev.Asr:=[Ev.slA 79 1 (Ev.arrV q.bs 66) (66) ((q.xs).set (q.m+2) (iz (q.x))),(ff5a39 q),(ff5a1 q)]
theorem fpAN (q:FP) (h0:q.xs[q.m]? = some (.map none)) : Ev.Pie Try.prog 67 [] 0 2 83 ⟨q.W0,q.F0⟩ (ff5a5 q) (ff5a2 q) .normal (fun κ:Ev.Ren=>(ff5a5 q)) (fun κ:Ev.Ren=>(ff5a2 q)):=(tr (c:=⟨q.W0,q.F0⟩) (kn [Ev.ptrR (Ev.arrV q.bs 66) (q.m),q.lv,Ev.arrV q.bs 66] (fc (Ev.ptrR_leaf _ _) (fc q.llv fr)) [] [] [] fn fn fn q.W0 q.F0 [(ff5a2 q),(ff5a2 q)] [⟨[20,113],[sy 0,.pointer none],none,0,none,.bool false,none⟩] [⟨76,[sy 0,sy 1],0,none,.bool true,some 1⟩]) (fc (Ev.ptr_eql rfl (by kernel_rfl)) fn) (fc (cc rfl [Ev.slA 79 1 (Ev.arrV q.bs 66) 66 (q.xs),Ev.slA 3 1 (q.lv) (1) ([.int .i64 q.x])] [0,1] [] (fun w F ho hn hF=>fits_n q.z.1 q.z.2.2 h0 hn)) fn) rfl [] [] [] 1 rfl rfl [(0,sy 0),(1,sy 1)] [(0,sy 0),(1,sy 1)] .normal)
theorem fpBN (q:FP) (h0:q.xs[q.m]? = some (.map none)) : Ev.Pie Try.prog 67 [] 2 2 83 ⟨q.W0,q.F0⟩ (ff5a5 q) (ff5a2 q) .normal (fun κ:Ev.Ren=>(ff5a5 q)) (fun κ:Ev.Ren=>[Ev.slA 79 1 (Ev.arrV q.bs 66) 66 ((q.xs).set (q.m+0) (dv κ 403)),(ff5a1 q),lkV (dv κ 403) 0 (fun _=>none)]):=(tr (c:=⟨q.W0,q.F0⟩) (kn [Ev.ptrR (Ev.arrV q.bs 66) (q.m),q.lv,Ev.ptrR (Ev.arrV q.bs 66) (q.m+0),Ev.arrV q.bs 66] (fc (Ev.ptrR_leaf _ _) (fc q.llv (fc (Ev.ptrR_leaf _ _) fr))) [] [] [] fn fn fn q.W0 q.F0 [(ff5a2 q),[(ff5a0 q),(ff5a1 q),Ev.atD 403 (fun v=>lkV v 0 (fun _=>none))],[Ev.atD 403 (fun v=>Ev.slA 79 1 (Ev.arrV q.bs 66) 66 ((q.xs).set (q.m+0) v)),(ff5a1 q),Ev.atD 403 (fun v=>lkV v 0 (fun _=>none))]] [⟨[9],[sy 0],none,0,none,sy 0,none⟩,⟨[7,74,0],[sy 0],none,0,none,sy 2,none⟩,⟨[1,72],[sy 2],none,0,none,.map none,none⟩,⟨[18,72],[],none,0,some 403,.complex .f32 403 0,some 1⟩,⟨[9],[sy 0],none,1,none,sy 0,none⟩,⟨[7,74,0],[sy 0],none,1,none,sy 2,none⟩,⟨[2,72],[sy 2,.complex .f32 403 0],none,1,none,undef,some 2⟩] []) (fc (Ev.blk_nil rfl) (fc (by have z:=q.z; exact Ev.sl_field (ci:=1) (fo:=0) rfl rfl (by omega) fldLine0 rfl rfl) (fc (by have z:=q.z; exact Ev.sl_load (ci:=1) (m:=q.m+0) (x:=(.map none)) rfl rfl loadMapL h0 (by simp; omega) rfl (fun ι=>(vk (by kernel_rfl) (by kernel_rfl)))) (fc (Ev.mk_mapE rfl rfl) (fc (Ev.blk_nil rfl) (fc (by have z:=q.z; exact Ev.sl_field (ci:=1) (fo:=0) rfl rfl (by omega) fldLine0 rfl rfl) (fc (by have z:=q.z; exact Ev.sl_storeD (ci:=1) rfl rfl rfl storeMapL (by simp; omega) rfl) fn))))))) fn rfl [] [] [] 2 rfl rfl [(0,sy 0),(1,sy 1)] [(0,sy 0),(1,sy 1)] .normal).conv (fun κ w=>⟨(fun _ h=>Ev.undy (a:=fun v=>Ev.slA 79 1 (Ev.arrV q.bs 66) 66 ((q.xs).set (q.m+0) v)) (fun _ _ _ _ _ h=>h) h),(fun _ h=>h),(fun _ h=>Ev.undy (a:=fun v=>lkV v 0 (fun _=>none)) (fun _ _ _ _ _ h=>h) h),trivial⟩)
theorem fpAM (q:FP) (h0:q.xs[q.m]? = some (.map (some q.bl))) (hx:q.f q.x=none) : Ev.Pie Try.prog 67 [] 0 2 83 ⟨q.W0,q.F0⟩ (ff5a5 q) (ff5a13 q) .normal (fun κ:Ev.Ren=>(ff5a5 q)) (fun κ:Ev.Ren=>(ff5a13 q)):=(tr (c:=⟨q.W0,q.F0⟩) (kn [Ev.ptrR (Ev.arrV q.bs 66) (q.m),q.lv,Ev.arrV q.bs 66] (fc (Ev.ptrR_leaf _ _) (fc q.llv fr)) [] [] [] fn fn fn q.W0 q.F0 [(ff5a13 q),(ff5a13 q)] [⟨[20,113],[sy 0,.pointer none],none,0,none,.bool false,none⟩] [⟨76,[sy 0,sy 1],0,none,.bool true,some 1⟩]) (fc (Ev.ptr_eql rfl (by kernel_rfl)) fn) (fc (cc rfl [Ev.slA 79 1 (Ev.arrV q.bs 66) 66 (q.xs),lkA q.bl (q.n) (q.f),Ev.slA 3 1 (q.lv) (1) ([.int .i64 q.x])] [0,1,2] [] (fun w F ho hn hF=>fits_m q.bl q.z.1 q.z.2.1 q.z.2.2 h0 hx hn)) fn) rfl [] [] [] 1 rfl rfl [(0,sy 0),(1,sy 1)] [(0,sy 0),(1,sy 1)] .normal)
theorem fpBM (q:FP) (h0:q.xs[q.m]? = some (.map (some q.bl))) : Ev.Pie Try.prog 67 [] 2 2 83 ⟨q.W0,q.F0⟩ (ff5a5 q) (ff5a13 q) .normal (fun κ:Ev.Ren=>(ff5a5 q)) (fun κ:Ev.Ren=>(ff5a13 q)):=(tr (c:=⟨q.W0,q.F0⟩) (kn [Ev.ptrR (Ev.arrV q.bs 66) (q.m),q.lv,Ev.ptrR (Ev.arrV q.bs 66) (q.m+0),Ev.arrV q.bs 66,.map (some q.bl)] (fc (Ev.ptrR_leaf _ _) (fc q.llv (fc (Ev.ptrR_leaf _ _) fr))) [] [] [] fn fn fn q.W0 q.F0 [(ff5a13 q)] [⟨[9],[sy 0],none,0,none,sy 0,none⟩,⟨[7,74,0],[sy 0],none,0,none,sy 2,none⟩,⟨[1,72],[sy 2],none,0,none,sy 4,none⟩,⟨[20,72],[sy 4,.map none],none,0,none,.bool false,none⟩] []) (fc (Ev.blk_nil rfl) (fc (by have z:=q.z; exact Ev.sl_field (ci:=1) (fo:=0) rfl rfl (by omega) fldLine0 rfl rfl) (fc (by have z:=q.z; exact Ev.sl_load (ci:=1) (m:=q.m+0) (x:=(.map (some q.bl))) rfl rfl loadMapL h0 (by simp; omega) rfl (fun ι=>(vk (by kernel_rfl) (by kernel_rfl)))) (fc (Ev.map_eql rfl Try.underlying72) fn)))) fn rfl [] [] [] 0 rfl rfl [(0,sy 0),(1,sy 1)] [(0,sy 0),(1,sy 1)] .normal)
theorem fpC (q:FP) (h0:q.xs[q.m]? = some (.map (some q.bl))) (hx:q.f q.x=none) (hz:q.n=0) : Ev.PieE Try.prog 67 [] 4 83 ⟨q.W0,q.F0⟩ (ff5a5 q) (ff5a13 q) (fun κ:Ev.Ren=>(.int .i64 0)) (fun κ:Ev.Ren=>(ff5a26 q)):=(trE (c:=⟨q.W0,q.F0⟩) 20 (kn [Ev.ptrR (Ev.arrV q.bs 66) (q.m),q.lv,Ev.ptrR (q.lv) (0 * 1),Ev.ptrR (Ev.arrV q.bs 66) (q.m+0),Ev.ptrR (Ev.arrV q.bs 66) (q.m+1),Ev.ptrR (Ev.arrV q.bs 66) (q.m+2),Ev.arrV q.bs 66,iN (1),iz (q.x),.map (some q.bl),iN (q.n)] (fc (Ev.ptrR_leaf _ _) (fc q.llv (fc (Ev.ptrR_leaf _ _) (fc (Ev.ptrR_leaf _ _) (fc (Ev.ptrR_leaf _ _) (fc (Ev.ptrR_leaf _ _) fr)))))) [(.lss,.int .i64 0,sy 7,.bool true),(.gtr,sy 10,.int .i64 0,.bool false),(.lss,.int .i64 1,sy 7,.bool false)] [] [] (fc (fun _ _ _=>Ev.bt_lss (by have z:=q.z; first | (simp; done) | (simp; omega))) (fc (fun _ _ _=>Ev.bt_gtr (by have z:=q.z; first | (simp; done) | (simp; omega))) (fc (fun _ _ _=>Ev.bt_lss (by have z:=q.z; first | (simp; done) | (simp; omega))) fn))) fn fn q.W0 q.F0 [(ff5a13 q),[(ff5a19 q),lkA q.bl (q.n) (q.f),(ff5a1 q)],[(ff5a19 q),Ev.atD 411 (fun v=>Ev.enA Try.prog 3 Lk.d lkR lk0 72 q.bl (q.n) (q.f) ((q.x)) v),(ff5a1 q)],[(ff5a19 q),lkA q.bl (q.n+1) (Ev.updE (q.f) ((q.x)) (some (⟨0,0,false,false⟩ : Lk))),(ff5a1 q)],(ff5a26 q)] [⟨[10,37],[sy 1],none,0,none,sy 7,none⟩,⟨[3,37],[sy 1,.int .i64 0],none,0,none,sy 2,none⟩,⟨[1,3],[sy 2],none,0,none,sy 8,none⟩,⟨[9],[sy 0],none,0,none,sy 0,none⟩,⟨[7,74,0],[sy 0],none,0,none,sy 3,none⟩,⟨[1,72],[sy 3],none,0,none,sy 9,none⟩,⟨[10,72],[sy 9],none,0,none,sy 10,none⟩,⟨[7,74,1],[sy 0],none,0,none,sy 4,none⟩,⟨[2,3],[sy 4,sy 8],none,0,none,undef,some 1⟩,⟨[9],[sy 0],none,1,none,sy 0,none⟩,⟨[7,74,0],[sy 0],none,1,none,sy 3,none⟩,⟨[1,72],[sy 3],none,1,none,sy 9,none⟩,⟨[22,72],[sy 9,sy 8],none,1,some 411,.tuple #[.agg #[.int .i64 0,.int .i64 0,.bool false,.bool false],.complex .f32 411 0],some 2⟩,⟨[23,72],[sy 9,.complex .f32 411 0,.agg #[.int .i64 0,.int .i64 0,.bool false,.bool false]],none,2,none,undef,some 3⟩,⟨[9],[sy 0],none,3,none,sy 0,none⟩,⟨[7,74,2],[sy 0],none,3,none,sy 5,none⟩,⟨[2,3],[sy 5,sy 8],none,3,none,undef,some 4⟩] []) (fc (by obtain ⟨i,i1,i2,i3,i4⟩:=infInt; exact Ev.sl_len (ci:=3) rfl rfl Try.underlying37 i2 rfl rfl) (fc (by obtain ⟨i,i1,i2,i3,i4⟩:=infInt; have z:=q.z; exact Ev.sl_indexL (ci:=3) (j:=0) rfl rfl Try.underlying37 i1 i2 rfl Ev.isInt (by omega) rfl) (fc (by have z:=q.z; exact Ev.sl_load (ci:=3) (m:=0 * 1) (x:=(iz (q.x))) rfl rfl loadInt rfl (by decide) rfl (fun ι=>(vk (by kernel_rfl) (by kernel_rfl)))) (fc (Ev.blk_nil rfl) (fc (by have z:=q.z; exact Ev.sl_field (ci:=1) (fo:=0) rfl rfl (by omega) fldLine0 rfl rfl) (fc (by have z:=q.z; exact Ev.sl_load (ci:=1) (m:=q.m+0) (x:=(.map (some q.bl))) rfl rfl loadMapL h0 (by simp; omega) rfl (fun ι=>(vk (by kernel_rfl) (by kernel_rfl)))) (fc (Ev.e_len lkM (ci:=2) rfl rfl rfl rfl) (fc (by have z:=q.z; exact Ev.sl_field (ci:=1) (fo:=1) rfl rfl (by omega) fldLine1 rfl rfl) (fc (by have z:=q.z; exact Ev.sl_store (ci:=1) (m:=q.m+1) (x:=(iz (q.x))) rfl rfl rfl storeInt (by simp; omega) rfl (Ev.isSym rfl) rfl) (fc (Ev.blk_nil rfl) (fc (by have z:=q.z; exact Ev.sl_field (ci:=1) (fo:=0) rfl rfl (by omega) fldLine0 rfl rfl) (fc (by have z:=q.z; exact Ev.sl_load (ci:=1) (m:=q.m+0) (x:=(.map (some q.bl))) rfl rfl loadMapL (get_ne (by omega) h0) (by simp; omega) rfl (fun ι=>(vk (by kernel_rfl) (by kernel_rfl)))) (fc (by have z:=q.z; exact Ev.e_entry lkM (ci:=2) rfl rfl rfl rfl rfl (by first | assumption | exact wfI_of (by omega) (by omega)) (by unfold maxLen; omega) hx (fun ι=>(vk (by kernel_rfl) (by kernel_rfl)))) (fc (Ev.e_stamp lkM (ci:=2) (x:=(⟨0,0,false,false⟩ : Lk)) rfl rfl rfl rfl (Ev.isAgg (Ev.args_cons Ev.isInt (Ev.args_cons Ev.isInt (Ev.args_cons Ev.isBool (Ev.args_cons Ev.isBool Ev.args_nil)))))) (fc (Ev.blk_nil rfl) (fc (by have z:=q.z; exact Ev.sl_field (ci:=1) (fo:=2) rfl rfl (by omega) fldLine2 rfl rfl) (fc (by have z:=q.z; exact Ev.sl_store (ci:=1) (m:=q.m+2) (x:=(iz (q.x))) rfl rfl rfl storeInt (by simp; omega) rfl (Ev.isSym rfl) rfl) fn))))))))))))))))) fn rfl [] [] [] 4 rfl rfl [(0,sy 0),(1,sy 1)] (.int .i64 0))
theorem fpDbf (q:FP) (h0:q.xs[q.m]? = some (.map (some q.bl))) (hx:q.f q.x=none) (hz:0 < q.n) (h2:q.xs[q.m+2]? = some (.int .i64 q.tl)) (htl:0≤q.tl∧q.tl < 4096) (hne:q.x ≠ q.tl) (ht:q.f q.tl=some ⟨q.ka,q.kb,false,false⟩) : Ev.PieE Try.prog 67 [] 4 83 ⟨q.W0,q.F0⟩ (ff5a5 q) (ff5a13 q) (fun κ:Ev.Ren=>(.int .i64 0)) (fun κ:Ev.Ren=>(ff5a34 q)):=(trE (c:=⟨q.W0,q.F0⟩) 20 (kn [Ev.ptrR (Ev.arrV q.bs 66) (q.m),q.lv,Ev.ptrR (q.lv) (0 * 1),Ev.ptrR (Ev.arrV q.bs 66) (q.m+0),Ev.ptrR (Ev.arrV q.bs 66) (q.m+2),Ev.arrV q.bs 66,iN (1),iz (q.x),.map (some q.bl),iN (q.n),iz (q.tl),iz (q.ka),iz (q.kb)] (fc (Ev.ptrR_leaf _ _) (fc q.llv (fc (Ev.ptrR_leaf _ _) (fc (Ev.ptrR_leaf _ _) (fc (Ev.ptrR_leaf _ _) fr))))) [(.lss,.int .i64 0,sy 6,.bool true),(.gtr,sy 9,.int .i64 0,.bool true),(.lss,.int .i64 1,sy 6,.bool false)] [] [] (fc (fun _ _ _=>Ev.bt_lss (by have z:=q.z; first | (simp; done) | (simp; omega))) (fc (fun _ _ _=>Ev.bt_gtr (by have z:=q.z; first | (simp; done) | (simp; omega))) (fc (fun _ _ _=>Ev.bt_lss (by have z:=q.z; first | (simp; done) | (simp; omega))) fn))) fn fn q.W0 q.F0 [(ff5a13 q),[(ff5a0 q),lkA q.bl (q.n) (Ev.updE (q.f) ((q.tl)) (some (⟨(q.ka),(q.x),false,true⟩ : Lk))),(ff5a1 q)],[(ff5a0 q),Ev.atD 415 (fun v=>Ev.enA Try.prog 3 Lk.d lkR lk0 72 q.bl (q.n) (Ev.updE (q.f) ((q.tl)) (some (⟨(q.ka),(q.x),false,true⟩ : Lk))) ((q.x)) v),(ff5a1 q)],[(ff5a0 q),(ff5a31 q),(ff5a1 q)],(ff5a34 q)] [⟨[10,37],[sy 1],none,0,none,sy 6,none⟩,⟨[3,37],[sy 1,.int .i64 0],none,0,none,sy 2,none⟩,⟨[1,3],[sy 2],none,0,none,sy 7,none⟩,⟨[9],[sy 0],none,0,none,sy 0,none⟩,⟨[7,74,0],[sy 0],none,0,none,sy 3,none⟩,⟨[1,72],[sy 3],none,0,none,sy 8,none⟩,⟨[10,72],[sy 8],none,0,none,sy 9,none⟩,⟨[7,74,2],[sy 0],none,0,none,sy 4,none⟩,⟨[1,3],[sy 4],none,0,none,sy 10,none⟩,⟨[5,72,0],[sy 8,sy 10],none,0,none,.agg #[sy 11,sy 12,.bool false,.bool false],none⟩,⟨[6,72],[sy 8,sy 10,.agg #[sy 11,sy 7,.bool false,.bool true]],none,0,none,undef,some 1⟩,⟨[9],[sy 0],none,1,none,sy 0,none⟩,⟨[7,74,2],[sy 0],none,1,none,sy 4,none⟩,⟨[1,3],[sy 4],none,1,none,sy 10,none⟩,⟨[7,74,0],[sy 0],none,1,none,sy 3,none⟩,⟨[1,72],[sy 3],none,1,none,sy 8,none⟩,⟨[22,72],[sy 8,sy 7],none,1,some 415,.tuple #[.agg #[.int .i64 0,.int .i64 0,.bool false,.bool false],.complex .f32 415 0],some 2⟩,⟨[23,72],[sy 8,.complex .f32 415 0,.agg #[sy 10,.int .i64 0,.bool true,.bool false]],none,2,none,undef,some 3⟩,⟨[9],[sy 0],none,3,none,sy 0,none⟩,⟨[7,74,2],[sy 0],none,3,none,sy 4,none⟩,⟨[2,3],[sy 4,sy 7],none,3,none,undef,some 4⟩] []) (fc (by obtain ⟨i,i1,i2,i3,i4⟩:=infInt; exact Ev.sl_len (ci:=3) rfl rfl Try.underlying37 i2 rfl rfl) (fc (by obtain ⟨i,i1,i2,i3,i4⟩:=infInt; have z:=q.z; exact Ev.sl_indexL (ci:=3) (j:=0) rfl rfl Try.underlying37 i1 i2 rfl Ev.isInt (by omega) rfl) (fc (by have z:=q.z; exact Ev.sl_load (ci:=3) (m:=0 * 1) (x:=(iz (q.x))) rfl rfl loadInt rfl (by decide) rfl (fun ι=>(vk (by kernel_rfl) (by kernel_rfl)))) (fc (Ev.blk_nil rfl) (fc (by have z:=q.z; exact Ev.sl_field (ci:=1) (fo:=0) rfl rfl (by omega) fldLine0 rfl rfl) (fc (by have z:=q.z; exact Ev.sl_load (ci:=1) (m:=q.m+0) (x:=(.map (some q.bl))) rfl rfl loadMapL h0 (by simp; omega) rfl (fun ι=>(vk (by kernel_rfl) (by kernel_rfl)))) (fc (Ev.e_len lkM (ci:=2) rfl rfl rfl rfl) (fc (by have z:=q.z; exact Ev.sl_field (ci:=1) (fo:=2) rfl rfl (by omega) fldLine2 rfl rfl) (fc (by have z:=q.z; exact Ev.sl_load (ci:=1) (m:=q.m+2) (x:=(iz (q.tl))) rfl rfl loadInt h2 (by simp; omega) rfl (fun ι=>(vk (by kernel_rfl) (by kernel_rfl)))) (fc (by have z:=q.z; exact Ev.e_look lkM (ci:=2) (x:=⟨q.ka,q.kb,false,false⟩) rfl rfl rfl rfl (by first | assumption | exact wfI_of (by omega) (by omega)) (by rw [ht]; rfl) (fun ι=>(vk (by kernel_rfl) (by kernel_rfl)))) (fc (by have z:=q.z; exact Ev.e_put lkM (ci:=2) (x:=(⟨(q.ka),(q.x),false,true⟩ : Lk)) rfl rfl (by rw [ht]; rfl) rfl rfl rfl (by first | assumption | exact wfI_of (by omega) (by omega)) (by unfold maxLen; omega) (Ev.isAgg (ak (by kernel_rfl) (by kernel_rfl)))) (fc (Ev.blk_nil rfl) (fc (by have z:=q.z; exact Ev.sl_field (ci:=1) (fo:=2) rfl rfl (by omega) fldLine2 rfl rfl) (fc (by have z:=q.z; exact Ev.sl_load (ci:=1) (m:=q.m+2) (x:=(iz (q.tl))) rfl rfl loadInt h2 (by simp; omega) rfl (fun ι=>(vk (by kernel_rfl) (by kernel_rfl)))) (fc (by have z:=q.z; exact Ev.sl_field (ci:=1) (fo:=0) rfl rfl (by omega) fldLine0 rfl rfl) (fc (by have z:=q.z; exact Ev.sl_load (ci:=1) (m:=q.m+0) (x:=(.map (some q.bl))) rfl rfl loadMapL h0 (by simp; omega) rfl (fun ι=>(vk (by kernel_rfl) (by kernel_rfl)))) (fc (by have z:=q.z; exact Ev.e_entry lkM (ci:=2) rfl rfl rfl rfl rfl (by first | assumption | exact wfI_of (by omega) (by omega)) (by unfold maxLen; omega) (by unfold Ev.updE; rw [if_neg hne]; exact hx) (fun ι=>(vk (by kernel_rfl) (by kernel_rfl)))) (fc (Ev.e_stamp lkM (ci:=2) (x:=(⟨(q.tl),0,true,false⟩ : Lk)) rfl rfl rfl rfl (Ev.isAgg (ak (by kernel_rfl) (by kernel_rfl)))) (fc (Ev.blk_nil rfl) (fc (by have z:=q.z; exact Ev.sl_field (ci:=1) (fo:=2) rfl rfl (by omega) fldLine2 rfl rfl) (fc (by have z:=q.z; exact Ev.sl_store (ci:=1) (m:=q.m+2) (x:=(iz (q.x))) rfl rfl rfl storeInt (by simp; omega) rfl (Ev.isSym rfl) rfl) fn))))))))))))))))))))) fn rfl [] [] [] 4 rfl rfl [(0,sy 0),(1,sy 1)] (.int .i64 0))
theorem fpDbt (q:FP) (h0:q.xs[q.m]? = some (.map (some q.bl))) (hx:q.f q.x=none) (hz:0 < q.n) (h2:q.xs[q.m+2]? = some (.int .i64 q.tl)) (htl:0≤q.tl∧q.tl < 4096) (hne:q.x ≠ q.tl) (ht:q.f q.tl=some ⟨q.ka,q.kb,true,false⟩) : Ev.PieE Try.prog 67 [] 4 83 ⟨q.W0,q.F0⟩ (ff5a5 q) (ff5a13 q) (fun κ:Ev.Ren=>(.int .i64 0)) (fun κ:Ev.Ren=>(ff5a41 q)):=(trE (c:=⟨q.W0,q.F0⟩) 20 (kn [Ev.ptrR (Ev.arrV q.bs 66) (q.m),q.lv,Ev.ptrR (q.lv) (0 * 1),Ev.ptrR (Ev.arrV q.bs 66) (q.m+0),Ev.ptrR (Ev.arrV q.bs 66) (q.m+2),Ev.arrV q.bs 66,iN (1),iz (q.x),.map (some q.bl),iN (q.n),iz (q.tl),iz (q.ka),iz (q.kb)] (fc (Ev.ptrR_leaf _ _) (fc q.llv (fc (Ev.ptrR_leaf _ _) (fc (Ev.ptrR_leaf _ _) (fc (Ev.ptrR_leaf _ _) fr))))) [(.lss,.int .i64 0,sy 6,.bool true),(.gtr,sy 9,.int .i64 0,.bool true),(.lss,.int .i64 1,sy 6,.bool false)] [] [] (fc (fun _ _ _=>Ev.bt_lss (by have z:=q.z; first | (simp; done) | (simp; omega))) (fc (fun _ _ _=>Ev.bt_gtr (by have z:=q.z; first | (simp; done) | (simp; omega))) (fc (fun _ _ _=>Ev.bt_lss (by have z:=q.z; first | (simp; done) | (simp; omega))) fn))) fn fn q.W0 q.F0 [(ff5a13 q),[(ff5a0 q),lkA q.bl (q.n) (Ev.updE (q.f) ((q.tl)) (some (⟨(q.ka),(q.x),true,true⟩ : Lk))),(ff5a1 q)],[(ff5a0 q),Ev.atD 415 (fun v=>Ev.enA Try.prog 3 Lk.d lkR lk0 72 q.bl (q.n) (Ev.updE (q.f) ((q.tl)) (some (⟨(q.ka),(q.x),true,true⟩ : Lk))) ((q.x)) v),(ff5a1 q)],[(ff5a0 q),(ff5a39 q),(ff5a1 q)],(ff5a41 q)] [⟨[10,37],[sy 1],none,0,none,sy 6,none⟩,⟨[3,37],[sy 1,.int .i64 0],none,0,none,sy 2,none⟩,⟨[1,3],[sy 2],none,0,none,sy 7,none⟩,⟨[9],[sy 0],none,0,none,sy 0,none⟩,⟨[7,74,0],[sy 0],none,0,none,sy 3,none⟩,⟨[1,72],[sy 3],none,0,none,sy 8,none⟩,⟨[10,72],[sy 8],none,0,none,sy 9,none⟩,⟨[7,74,2],[sy 0],none,0,none,sy 4,none⟩,⟨[1,3],[sy 4],none,0,none,sy 10,none⟩,⟨[5,72,0],[sy 8,sy 10],none,0,none,.agg #[sy 11,sy 12,.bool true,.bool false],none⟩,⟨[6,72],[sy 8,sy 10,.agg #[sy 11,sy 7,.bool true,.bool true]],none,0,none,undef,some 1⟩,⟨[9],[sy 0],none,1,none,sy 0,none⟩,⟨[7,74,2],[sy 0],none,1,none,sy 4,none⟩,⟨[1,3],[sy 4],none,1,none,sy 10,none⟩,⟨[7,74,0],[sy 0],none,1,none,sy 3,none⟩,⟨[1,72],[sy 3],none,1,none,sy 8,none⟩,⟨[22,72],[sy 8,sy 7],none,1,some 415,.tuple #[.agg #[.int .i64 0,.int .i64 0,.bool false,.bool false],.complex .f32 415 0],some 2⟩,⟨[23,72],[sy 8,.complex .f32 415 0,.agg #[sy 10,.int .i64 0,.bool true,.bool false]],none,2,none,undef,some 3⟩,⟨[9],[sy 0],none,3,none,sy 0,none⟩,⟨[7,74,2],[sy 0],none,3,none,sy 4,none⟩,⟨[2,3],[sy 4,sy 7],none,3,none,undef,some 4⟩] []) (fc (by obtain ⟨i,i1,i2,i3,i4⟩:=infInt; exact Ev.sl_len (ci:=3) rfl rfl Try.underlying37 i2 rfl rfl) (fc (by obtain ⟨i,i1,i2,i3,i4⟩:=infInt; have z:=q.z; exact Ev.sl_indexL (ci:=3) (j:=0) rfl rfl Try.underlying37 i1 i2 rfl Ev.isInt (by omega) rfl) (fc (by have z:=q.z; exact Ev.sl_load (ci:=3) (m:=0 * 1) (x:=(iz (q.x))) rfl rfl loadInt rfl (by decide) rfl (fun ι=>(vk (by kernel_rfl) (by kernel_rfl)))) (fc (Ev.blk_nil rfl) (fc (by have z:=q.z; exact Ev.sl_field (ci:=1) (fo:=0) rfl rfl (by omega) fldLine0 rfl rfl) (fc (by have z:=q.z; exact Ev.sl_load (ci:=1) (m:=q.m+0) (x:=(.map (some q.bl))) rfl rfl loadMapL h0 (by simp; omega) rfl (fun ι=>(vk (by kernel_rfl) (by kernel_rfl)))) (fc (Ev.e_len lkM (ci:=2) rfl rfl rfl rfl) (fc (by have z:=q.z; exact Ev.sl_field (ci:=1) (fo:=2) rfl rfl (by omega) fldLine2 rfl rfl) (fc (by have z:=q.z; exact Ev.sl_load (ci:=1) (m:=q.m+2) (x:=(iz (q.tl))) rfl rfl loadInt h2 (by simp; omega) rfl (fun ι=>(vk (by kernel_rfl) (by kernel_rfl)))) (fc (by have z:=q.z; exact Ev.e_look lkM (ci:=2) (x:=⟨q.ka,q.kb,true,false⟩) rfl rfl rfl rfl (by first | assumption | exact wfI_of (by omega) (by omega)) (by rw [ht]; rfl) (fun ι=>(vk (by kernel_rfl) (by kernel_rfl)))) (fc (by have z:=q.z; exact Ev.e_put lkM (ci:=2) (x:=(⟨(q.ka),(q.x),true,true⟩ : Lk)) rfl rfl (by rw [ht]; rfl) rfl rfl rfl (by first | assumption | exact wfI_of (by omega) (by omega)) (by unfold maxLen; omega) (Ev.isAgg (ak (by kernel_rfl) (by kernel_rfl)))) (fc (Ev.blk_nil rfl) (fc (by have z:=q.z; exact Ev.sl_field (ci:=1) (fo:=2) rfl rfl (by omega) fldLine2 rfl rfl) (fc (by have z:=q.z; exact Ev.sl_load (ci:=1) (m:=q.m+2) (x:=(iz (q.tl))) rfl rfl loadInt h2 (by simp; omega) rfl (fun ι=>(vk (by kernel_rfl) (by kernel_rfl)))) (fc (by have z:=q.z; exact Ev.sl_field (ci:=1) (fo:=0) rfl rfl (by omega) fldLine0 rfl rfl) (fc (by have z:=q.z; exact Ev.sl_load (ci:=1) (m:=q.m+0) (x:=(.map (some q.bl))) rfl rfl loadMapL h0 (by simp; omega) rfl (fun ι=>(vk (by kernel_rfl) (by kernel_rfl)))) (fc (by have z:=q.z; exact Ev.e_entry lkM (ci:=2) rfl rfl rfl rfl rfl (by first | assumption | exact wfI_of (by omega) (by omega)) (by unfold maxLen; omega) (by unfold Ev.updE; rw [if_neg hne]; exact hx) (fun ι=>(vk (by kernel_rfl) (by kernel_rfl)))) (fc (Ev.e_stamp lkM (ci:=2) (x:=(⟨(q.tl),0,true,false⟩ : Lk)) rfl rfl rfl rfl (Ev.isAgg (ak (by kernel_rfl) (by kernel_rfl)))) (fc (Ev.blk_nil rfl) (fc (by have z:=q.z; exact Ev.sl_field (ci:=1) (fo:=2) rfl rfl (by omega) fldLine2 rfl rfl) (fc (by have z:=q.z; exact Ev.sl_store (ci:=1) (m:=q.m+2) (x:=(iz (q.x))) rfl rfl rfl storeInt (by simp; omega) rfl (Ev.isSym rfl) rfl) fn))))))))))))))))))))) fn rfl [] [] [] 4 rfl rfl [(0,sy 0),(1,sy 1)] (.int .i64 0))
end Go.Proofs.Ytankbefdlbcdnaa
namespace Go.Proofs.Ytankbefdlbcdnaa
open Go.RowKit
set_option linter.unusedVariables false
set_option linter.unusedSimpArgs false
structure Rep (l:List Int) (hd tl:Int) (f:Int→Option Lk) : Prop where
 nd:l.Nodup
 rng:∀ x ∈ l,0≤x∧x < 4096
 no:∀ x,x ∉ l→f x=none
 hd:∀ x,l[0]? = some x→hd=x
 tl:∀ x,l[l.length - 1]? = some x→tl=x
 at':∀ i x,l[i]? = some x→∃ a b,f x=some ⟨a,b,decide (0 < i),decide (i+1 < l.length)⟩∧(0≤a∧a < 4096)∧(0≤b∧b < 4096)∧∀ y,l[i+1]? = some y→b=y
theorem Rep.nil (hd tl:Int) : Rep [] hd tl (fun _=>none):=⟨List.nodup_nil,by simp,fun _ _=>rfl,by simp,by simp,by simp⟩
theorem Rep.one {hd tl x:Int} {f:Int→Option Lk} (h:Rep [] hd tl f) (hx:0≤x∧x < 4096) : Rep [x] x x (Ev.updE f x (some ⟨0,0,false,false⟩)) where
 nd:=by simp
 rng:=by simpa using hx
 no:=fun y hy=>by
  have hne:y ≠ x:=by simpa using hy
  unfold Ev.updE
  rw [if_neg hne]
  exact h.no y (by simp)
 hd:=by simp
 tl:=by simp
 at':=fun i y hy=>by
  match i,hy with
  | 0,hy =>
   obtain rfl:x=y:=by simpa using hy
   exact ⟨0,0,if_pos rfl,by decide,by decide,by simp⟩
  | i+1,hy=>simp at hy
theorem Rep.last {l:List Int} {hd tl:Int} {f:Int→Option Lk} (h:Rep l hd tl f) (hl:0 < l.length) : tl ∈ l∧l[l.length - 1]? = some tl∧∃ a b,f tl=some ⟨a,b,decide (1 < l.length),false⟩∧(0≤a∧a < 4096):=by
 have e:l[l.length - 1]? = some l[l.length - 1]:=List.getElem?_eq_getElem (by omega)
 have e2:=h.tl _ e
 rw [← e2] at e
 obtain ⟨a,b,h1,h2,_⟩:=h.at' _ _ e
 refine ⟨List.mem_of_getElem? e,e,a,b,?_,h2⟩
 rw [h1]
 simp only [Option.some.injEq,Lk.mk.injEq,true_and,decide_eq_decide,decide_eq_false_iff_not]
 omega
theorem Rep.push {l:List Int} {hd tl x ka kb:Int} {kx:Bool} {f:Int→Option Lk} (h:Rep l hd tl f) (hl:0 < l.length) (hx:0≤x∧x < 4096) (hn:x ∉ l) (ht:f tl=some ⟨ka,kb,kx,false⟩) (hk:0≤ka∧ka < 4096) :
  Rep (l++[x]) hd x (Ev.updE (Ev.updE f tl (some ⟨ka,x,kx,true⟩)) x (some ⟨tl,0,true,false⟩)):=by
 obtain ⟨hm,he,a,b,h1,h2⟩:=h.last hl
 rw [ht] at h1
 simp only [Option.some.injEq,Lk.mk.injEq] at h1
 obtain ⟨rfl,rfl,rfl,_⟩:=h1
 have hne:tl ≠ x:=fun e=>hn (e ▸ hm)
 refine ⟨?_,?_,?_,?_,?_,?_⟩
 ·refine List.nodup_append.2 ⟨h.nd,by simp,fun y hy z hz=>?_⟩
  obtain rfl:=List.mem_singleton.1 hz
  exact fun e=>hn (e ▸ hy)
 ·intro y hy
  rcases List.mem_append.1 hy with hy | hy
  ·exact h.rng y hy
  ·obtain rfl:=List.mem_singleton.1 hy
   exact hx
 ·intro y hy
  have h3:y ∉ l∧y ≠ x:=by simpa using hy
  unfold Ev.updE
  have h5:¬ y=tl:=fun e=>h3.1 (by rw [e]; exact hm)
  rw [if_neg h3.2,if_neg h5]
  exact h.no y h3.1
 ·intro y hy
  rw [List.getElem?_append_left hl] at hy
  exact h.hd y hy
 ·intro y hy
  simpa using hy
 ·intro i y hy
  rcases Nat.lt_trichotomy i l.length with hi | rfl | hi
  ·rw [List.getElem?_append_left hi] at hy
   obtain ⟨a,b,h3,h4,h5,h6⟩:=h.at' i y hy
   have hyx:y ≠ x:=fun e=>hn (e ▸ List.mem_of_getElem? hy)
   by_cases hit:i=l.length - 1
   ·subst hit
    rw [he] at hy
    cases hy
    rw [ht] at h3
    simp only [Option.some.injEq,Lk.mk.injEq] at h3
    refine ⟨ka,x,?_,hk,hx,?_⟩
    ·unfold Ev.updE
     rw [if_neg hne,if_pos rfl]
     simp only [Option.some.injEq,Lk.mk.injEq,true_and,List.length_append,List.length_singleton]
     exact ⟨h3.2.2.1,by simp; omega⟩
    ·intro y hy
     rw [show l.length - 1+1=l.length by omega] at hy
     simpa using hy
   ·have hyt:y ≠ tl:=fun e=>by
     subst e
     have:=(List.getElem?_inj hi h.nd).1 (hy.trans he.symm)
     exact hit this
    refine ⟨a,b,?_,h4,h5,?_⟩
    ·unfold Ev.updE
     rw [if_neg hyx,if_neg hyt,h3]
     simp only [Option.some.injEq,Lk.mk.injEq,true_and,List.length_append,List.length_singleton,decide_eq_decide]
     omega
    ·intro z hz
     rw [List.getElem?_append_left (by omega)] at hz
     exact h6 z hz
  ·have e:y=x:=by simpa using hy.symm
   subst e
   refine ⟨tl,0,?_,h.rng tl hm,by decide,by simp⟩
   unfold Ev.updE
   rw [if_pos rfl]
   simp only [Option.some.injEq,Lk.mk.injEq,true_and,List.length_append,List.length_singleton]
   exact ⟨by simp; omega,by simp⟩
  ·rw [List.getElem?_eq_none (by simp; omega)] at hy
   cases hy
theorem Rep.drop {x y:Int} {r:List Int} {hd tl ka yb:Int} {kb:Int} {ya:Int} {yB:Bool} {f:Int→Option Lk} (h:Rep (x::y::r) hd tl f) (hx:f x=some ⟨ka,kb,false,true⟩) (hk:0≤ka∧ka < 4096) (hy:f y=some ⟨ya,yb,true,yB⟩) :
  Rep (y::r) y tl (Ev.updE (Ev.updE f x none) y (some ⟨ka,yb,false,yB⟩)):=by
 have hnd:=h.nd
 have hxy:x ≠ y:=by
  intro e
  subst e
  simp at hnd
 have hxr:x ∉ y::r:=(List.nodup_cons.1 hnd).1
 have hyr:=(List.nodup_cons.1 (List.nodup_cons.1 hnd).2)
 refine ⟨(List.nodup_cons.1 hnd).2,fun z hz=>h.rng z (List.mem_cons_of_mem _ hz),?_,by simp,?_,?_⟩
 ·intro z hz
  unfold Ev.updE
  have h5:¬ z=y:=fun e=>hz (by rw [e]; exact List.mem_cons_self)
  rw [if_neg h5]
  split
  ·rfl
  ·rename_i hzx
   exact h.no z (fun hm=>(List.mem_cons.1 hm).elim hzx hz)
 ·intro z hz
  refine h.tl z ?_
  rw [← hz]
  simp
 ·intro i z hz
  obtain ⟨a,b,h1,h2,h3,h4⟩:=h.at' (i+1) z (by simpa using hz)
  have hzx:z ≠ x:=fun e=>hxr (e ▸ List.mem_of_getElem? hz)
  match i,hz with
  | 0,hz =>
   obtain rfl:y=z:=by simpa using hz
   rw [hy] at h1
   simp only [Option.some.injEq,Lk.mk.injEq] at h1
   obtain ⟨rfl,rfl,_,e⟩:=h1
   refine ⟨ka,yb,?_,hk,h3,fun z hz=>h4 z (by simpa using hz)⟩
   unfold Ev.updE
   rw [if_pos rfl,e]
   simp
  | i+1,hz =>
   have hzy:z ≠ y:=fun e=>hyr.1 (e ▸ List.mem_of_getElem? (by simpa using hz))
   refine ⟨a,b,?_,h2,h3,fun z hz=>h4 z (by simpa using hz)⟩
   unfold Ev.updE
   rw [if_neg hzy,if_neg hzx,h1]
   simp
theorem Rep.gone {x:Int} {hd tl:Int} {f:Int→Option Lk} (h:Rep [x] hd tl f) (a b:Int) : Rep [] a b (Ev.updE f x none)∧∀ j,j ≠ x→f j=none :=
 ⟨⟨List.nodup_nil,by simp,fun z _=>by
  unfold Ev.updE
  split
  ·rfl
  ·rename_i hz
   exact h.no z (by simpa using hz),by simp,by simp,by simp⟩,fun j hj=>h.no j (by simpa using hj)⟩
end Go.Proofs.Ytankbefdlbcdnaa
namespace Go.Proofs.Ytankbefdlbcdnaa
open Go.RowKit
open Go.Ev (iz iN pz)
set_option linter.unusedVariables false
set_option linter.unusedSimpArgs false
attribute [local irreducible] Ev.wpL
structure LnIs (xs:List Value) (m:Nat) (o:Option Nat) (l:List Int) (hd tl:Int) (f:Int→Option Lk) : Prop where
 v:xs[m]? = some (oV o)
 h:xs[m+1]? = some (.int .i64 hd)
 t:xs[m+2]? = some (.int .i64 tl)
 rep:Rep l hd tl f
 no:o=none→l=[]
def pushX (xs:List Value) (m:Nat) (l:List Int) (x:Int) : List Value:=if l=[] then (xs.set (m+1) (iz x)).set (m+2) (iz x) else xs.set (m+2) (iz x)
def pushF (l:List Int) (tl:Int) (f:Int→Option Lk) (x:Int) : Int→Option Lk :=
 if l=[] then Ev.updE f x (some ⟨0,0,false,false⟩) else Ev.updE (Ev.updE f tl (some ⟨((f tl).getD lk0).a,x,((f tl).getD lk0).x,true⟩)) x (some ⟨tl,0,true,false⟩)
theorem pushed {xs:List Value} {m:Nat} {l:List Int} {hd tl x:Int} {f:Int→Option Lk} {b:Nat} (L:LnIs xs m (some b) l hd tl f) (hx:0≤x∧x < 4096) (hn:x ∉ l) (hm:m+3≤xs.length) :
  ∃ hd' tl',LnIs (pushX xs m l x) m (some b) (l++[x]) hd' tl' (pushF l tl f x):=by
 unfold pushX pushF
 by_cases hl:l=[]
 ·subst hl
  simp only [if_true]
  refine ⟨x,x,⟨?_,?_,?_,L.rep.one hx,by simp⟩⟩
  ·rw [List.getElem?_set_ne (by omega),List.getElem?_set_ne (by omega)]
   exact L.v
  ·rw [List.getElem?_set_ne (by omega),List.getElem?_set_self (by omega)]
  ·rw [List.getElem?_set_self (by simp; omega)]
 ·simp only [if_neg hl]
  have hl2:0 < l.length:=List.length_pos_iff.2 hl
  obtain ⟨_,_,a,b',h1,h2⟩:=L.rep.last hl2
  refine ⟨hd,x,⟨?_,?_,?_,?_,by simp⟩⟩
  ·rw [List.getElem?_set_ne (by omega)]
   exact L.v
  ·rw [List.getElem?_set_ne (by omega)]
   exact L.h
  ·rw [List.getElem?_set_self (by omega)]
  ·rw [h1]
   exact L.rep.push hl2 hx hn h1 h2
section
variable {w:World} {F:Nat→Prop} {bs m:Nat} {xs:List Value} {f:Int→Option Lk} {x hd tl:Int} {lv:Value} {l:List Int}
theorem push_end (b:Nat) (hm:m+4≤66) (hx:0≤x∧x < 4096) (hn:x ∉ l) (hlen:l.length≤4000) (L:LnIs xs m (some b) l hd tl f) (llv:Ev.leafV lv=true) {c:Ev.Ctx} {R:Ending→World→Prop} {A:Act} (hA:Ev.At c 83 [(0,sP bs m),(1,lv)] [sA bs xs,lkA b l.length f,oneA lv x] A w)
  (hR:∀ w',Ev.Hold c [sA bs (pushX xs m l x),lkA b (l.length+1) (pushF l tl f x),oneA lv x] w'→R (.returned (.int .i64 0)) w') :
  Ev.wpL Try.prog (Ev.stm Try.prog 67 [] 4) (bodyPostM Fence.wide 0 Try.prog (Ev.fnOf Try.prog 67) R) A w:=by
 have hf:f x=none:=L.rep.no x hn
 unfold pushX pushF at hR
 by_cases hl:l=[]
 ·subst hl
  simp only [if_true] at hR
  exact fpC (fp c.W c.X bs m xs b 0 f x lv llv 0 0 0 0 ⟨hm,by decide,hx⟩) L.v hf rfl A w R hA (fun κ w' h=>hR w' h)
 ·simp only [if_neg hl] at hR
  have hl2:0 < l.length:=List.length_pos_iff.2 hl
  obtain ⟨h0,_,a,b',h1,h2⟩:=L.rep.last hl2
  have htl:=L.rep.rng tl h0
  have hne:x ≠ tl:=fun e=>hn (e ▸ h0)
  rw [h1] at hR
  by_cases h3:1 < l.length
  ·rw [decide_eq_true h3] at h1 hR
   exact fpDbt (fp c.W c.X bs m xs b l.length f x lv llv 0 a b' tl ⟨hm,by omega,hx⟩) L.v hf hl2 L.t htl hne h1 A w R hA (fun κ w' h=>hR w' h)
  ·rw [decide_eq_false h3] at h1 hR
   exact fpDbf (fp c.W c.X bs m xs b l.length f x lv llv 0 a b' tl ⟨hm,by omega,hx⟩) L.v hf hl2 L.t htl hne h1 A w R hA (fun κ w' h=>hR w' h)
theorem push_m (b:Nat) (hm:m+4≤66) (hx:0≤x∧x < 4096) (hn:x ∉ l) (hlen:l.length≤4000) (L:LnIs xs m (some b) l hd tl f) (h:Ev.Now [sA bs xs,lkA b l.length f,oneA lv x] F w) :
  Calls Try.prog 67 #[sP bs m,lv] w fun e w'=>e=.returned (.int .i64 0)∧Ev.Hold ⟨w,F⟩ [sA bs (pushX xs m l x),lkA b (l.length+1) (pushF l tl f x),oneA lv x] w':=by
 have llv:Ev.leafV lv=true:=hold_leaf ((Ev.Hold.start h).sel [2] (by kernel_rfl))
 refine Ev.con_start (N:=83) (tm:=[(0,sP bs m),(1,lv)]) (by kernel_rfl) h (by simp) (by simp) (fun A hA=>?_)
 refine fpAM (fp w F bs m xs b l.length f x lv llv 0 0 0 0 ⟨hm,by omega,hx⟩) L.v (L.rep.no x hn) A w _ hA ?_
 intro κ A1 w1 h1
 refine fpBM (fp w F bs m xs b l.length f x lv llv 0 0 0 0 ⟨hm,by omega,hx⟩) L.v A1 w1 _ h1 ?_
 intro κ2 A2 w2 h2
 exact push_end b hm hx hn hlen L llv h2 (fun w' hh=>⟨rfl,hh⟩)
theorem push_n (hm:m+4≤66) (hx:0≤x∧x < 4096) (hmx:m+3≤xs.length) (L:LnIs xs m none l hd tl f) (h:Ev.Now [sA bs xs,oneA lv x] F w) :
  Calls Try.prog 67 #[sP bs m,lv] w fun e w'=>∃ b,e=.returned (.int .i64 0)∧Ev.Hold ⟨w,F⟩ [sA bs (pushX (xs.set m (.map (some b))) m [] x),lkA b 1 (pushF [] tl (fun _=>none) x),oneA lv x] w':=by
 have llv:Ev.leafV lv=true:=hold_leaf ((Ev.Hold.start h).sel [1] (by kernel_rfl))
 refine Ev.con_start (N:=83) (tm:=[(0,sP bs m),(1,lv)]) (by kernel_rfl) h (by simp) (by simp) (fun A hA=>?_)
 refine fpAN (fp w F bs m xs 0 0 f x lv llv 0 0 0 0 ⟨hm,by omega,hx⟩) L.v A w _ hA ?_
 intro κ A1 w1 h1
 refine fpBN (fp w F bs m xs 0 0 f x lv llv 0 0 0 0 ⟨hm,by omega,hx⟩) L.v A1 w1 _ h1 ?_
 intro κ2 A2 w2 h2
 dsimp only at h2
 have ht:=h2.tm
 obtain ⟨b,e2,hh⟩:=hold_map (h2.hold.sel [2,0,1] (by kernel_rfl))
 rw [e2] at hh
 have L2:LnIs (xs.set m (.map (some b))) m (some b) [] 0 tl (fun _=>none)→True:=fun _=>trivial
 obtain ⟨hl,e⟩ : l=[]∧True:=⟨L.no rfl,trivial⟩
 subst hl
 have L3:LnIs (xs.set m (.map (some b))) m (some b) [] hd tl (fun _=>none):=⟨by rw [List.getElem?_set_self (by omega)]; rfl,by rw [List.getElem?_set_ne (by omega)]; exact L.h,by rw [List.getElem?_set_ne (by omega)]; exact L.t,Rep.nil _ _,by simp⟩
 exact push_end b hm hx (by simp) (by simp) L3 llv ⟨h2.sz,h2.df,ht,hh.sel [1,0,2] (by kernel_rfl)⟩ (fun w' hh=>⟨b,rfl,hh⟩)
end
end Go.Proofs.Ytankbefdlbcdnaa
