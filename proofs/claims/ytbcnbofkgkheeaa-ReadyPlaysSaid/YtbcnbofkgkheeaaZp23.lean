/- Part of a proof: see the last text. -/
import Derived.Test.YtbcnbofkgkheeaaZp17
import Derived.Test.YtbcnbofkgkheeaaZp18
import Derived.Test.YtbcnbofkgkheeaaZp19
namespace Go.Proofs.Ytbcnbofkgkheeaa
open Go.RowKit
open Go.Ev (sy iz uz wz iN uN wN pz dv fc fn ak vk vd kn pc cc cr cm cd fr)
set_option linter.unusedVariables false
set_option linter.unusedSimpArgs false
set_option maxRecDepth 8000
attribute [local irreducible] Ev.wpL
theorem bt_or {t:TypeId} {ox oy:Operand} {k:IntKind} {x y z:Int} (h:bits .or k x y=z) : (do eqGuard .or t ox oy (.int k x) (.int k y); binOp .or t (.int k x) (.int k y) : Sem Value)=pure (.int k z):=by
  rw [Ev.guard_int]
  show binOp .or t (.int k x) (.int k y)=_
  subst h
  simp only [binOp]
  rw [if_neg (fun h=>h rfl)]
  rfl
theorem bt_shl32 {t:TypeId} {ox oy:Operand} {x:Int} (h:0≤x∧x < 4294967296) : (do eqGuard .shl t ox oy (.int .u64 x) (.int .u64 32); binOp .shl t (.int .u64 x) (.int .u64 32) : Sem Value)=pure (.int .u64 (x * 4294967296)):=by
  rw [Ev.guard_int]
  show binOp .shl t (.int .u64 x) (.int .u64 32)=_
  have e:IntKind.u64.wrap (x * 4294967296)=x * 4294967296:=wrapU (by omega) (by omega)
  simp only [binOp]
  have e2:Op.shift .shl .u64 x .u64 32=pure (.int .u64 (IntKind.u64.wrap (x * 2 ^ 32))):=rfl
  rw [e2,show x * 2 ^ 32=x * 4294967296 by rfl,e]
theorem byte_at {w:World} {bv:Value} {bs:List Int} (hs:Ev.SlR 1 bv bs.length (u8s bs) w) (hb:bs.length≤1000) (hz:∀ i,0≤bs.getD i 0∧bs.getD i 0 < 256) (ix:Nat) (hi:ix≤1000000) : Calls Try.prog 33 #[bv,.int .i64 (ix:Int)] w fun e w2=>e=.returned (.int .i64 (bs.getD ix 0))∧Below w.heap.size w w2:=by
 rcases Nat.lt_or_ge ix bs.length with h | h
 ·exact start0 (r:=.int .i64 (bs.getD ix 0)) (by kernel_rfl) (by simp) (by simp) (bAtY w bv hs.leaf bs hs (by omega) ix hi h (hz ix))
 ·rw [show bs.getD ix 0=0 by simp [List.getD_eq_getElem?_getD,List.getElem?_eq_none h]]
  exact start0 (r:=.int .i64 0) (by kernel_rfl) (by simp) (by simp) (bAtN w bv hs.leaf bs hs (by omega) ix hi h)
structure FilP where
 W0:World
 F0:Nat→Prop
 c:Cfg
 bv:Value
 bs:List Int
 hs:Ev.SlR 1 bv bs.length (u8s bs) W0
 hoff:Ev.OffX F0 bv
 hb:bs.length≤1000
 hz:∀ i,0≤bs.getD i 0∧bs.getD i 0 < 256
theorem FilP.z (s:FilP) : (1≤s.c.n∧s.c.n≤8)∧(2≤s.c.q∧s.c.q≤64)∧s.c.off s.c.n≤560∧s.bs.length≤1000:=⟨s.c.nb,s.c.qb,s.c.off_max,s.hb⟩
structure FinP where
 W0:World
 F0:Nat→Prop
 c:Cf
 hc:c.ok=false
 bv:Value
 bs:List Int
 hs:Ev.SlR 1 bv bs.length (u8s bs) W0
 hoff:Ev.OffX F0 bv
abbrev fi1a0 (s:FilP) : Value:=(.agg #[(iN (s.c.n)),(iN (s.c.q)),(iz (s.c.g)),(iz (s.c.m)),(iz (s.c.t)),(iz (s.c.s))])
abbrev fi1a7:List (Nat×Value):=[(1,sy 0),(2,.pointer (some ⟨400,0,none⟩)),(4,.slice none 0 0),(5,.complex .f32 407 0),(6,.int .i64 0)]
abbrev fi1a13:List Ev.Blk:=[(4,[sy 2,sy 3,sy 4,sy 5,sy 6,sy 7],23)]
abbrev fi1a14:List (Nat×Value):=[(1,sy 0),(2,.pointer (some ⟨4,0,none⟩)),(4,.slice none 0 0),(5,sy 1),(6,.int .i64 0)]
abbrev fi1a19 (s:FinP) (ov:Value) (b2:Nat) : List Ev.Asr:=[Ev.blkA b2 [(iz (s.c.n)),(iz (s.c.q)),(iz (s.c.g)),(iz (s.c.m)),(iz (s.c.t)),(iz (s.c.s))] 23,Ev.slA 30 1 (ov) (0) (u64s [])]
abbrev fi1a24 (ov:Value) (us:List Int) : List Ev.Asr:=[Ev.slA 30 1 (ov) (us.length) (u64s us)]
abbrev fi1a25:List Ev.Blk:=[(4,[sy 3,sy 4,sy 5,sy 6,sy 7,sy 8],23)]
abbrev fi1a26:List (Nat×Value):=[(1,sy 0),(2,.pointer (some ⟨4,0,none⟩)),(4,.slice none 0 0),(5,sy 1),(6,sy 2)]
abbrev fi1a27 (s:FilP) (ov:Value) (b2:Nat) (p:Nat) : List (Nat×Value):=[(1,(s.bv)),(2,(pz b2)),(4,(.slice none 0 0)),(5,(ov)),(6,(iN (p)))]
abbrev fi1a28 (s:FilP) (b2:Nat) : Ev.Asr:=Ev.blkA b2 [(iN (s.c.n)),(iN (s.c.q)),(iz (s.c.g)),(iz (s.c.m)),(iz (s.c.t)),(iz (s.c.s))] 23
abbrev fi1a29 (s:FilP) (ov:Value) (us:List Int) (b2:Nat) : List Ev.Asr:=[(fi1a28 s b2),Ev.slA 30 1 (ov) (us.length) (u64s us)]
abbrev fi1a34:List Ev.Blk:=[(4,[sy 6,sy 7,sy 8,sy 9,sy 10,sy 11],23)]
abbrev fi1a44 (s:FilP) (ov:Value) (us:List Int) (p:Nat) (h:Int) (ix:Nat) : Ev.Asr:=Ev.slA 30 1 (ov) (us.length) ((u64s us).set ((s.c.slot p (IntKind.u32.wrap (h+(ix:Int)))) * 1) (uz (IntKind.u64.wrap ((((p) * 100:Nat) : Int)+((ix:Nat) : Int)))))
abbrev fi1a53:List (Nat×Value):=[(1,sy 0),(2,.pointer (some ⟨4,0,none⟩)),(4,.slice none 0 0),(5,sy 1),(6,sy 10)]
abbrev fi1a65:List (Nat×Value):=[(1,sy 0),(2,.pointer (some ⟨4,0,none⟩)),(4,.slice none 0 0),(5,sy 1),(6,sy 9)]
theorem fiA (s:FilP) : Ev.Pie Try.prog 10 [] 0 3 148 ⟨s.W0,s.F0⟩ [(0,(fi1a0 s)),(1,(s.bv))] [] .normal (fun κ:Ev.Ren=>[(1,(s.bv)),(2,(pz ((κ 400).getD 0))),(4,(.slice none 0 0)),(5,(dv κ 407)),(6,(.int .i64 0))]) (fun κ:Ev.Ren=>[Ev.blkA ((κ 400).getD 0) [(iN (s.c.n)),(iN (s.c.q)),(iz (s.c.g)),(iz (s.c.m)),(iz (s.c.t)),(iz (s.c.s))] 23,Ev.slA 30 1 (dv κ 407) (4+s.c.off s.c.n) (List.replicate (4+s.c.off s.c.n) (.int .u64 0))]):=(tr (c:=⟨s.W0,s.F0⟩) (kn [s.bv,iN (s.c.n),iN (s.c.q),iz (s.c.g),iz (s.c.m),iz (s.c.t),iz (s.c.s),iN (4+s.c.off s.c.n)] (fc s.hs.leaf fr) [] [] [] fn fn fn s.W0 s.F0 [[],[Ev.atD 407 (fun v=>Ev.slA 30 1 v (4+s.c.off s.c.n) (List.replicate (4+s.c.off s.c.n) (.int .u64 0)))]] [⟨[19,29],[sy 7,sy 7],none,0,some 407,.complex .f32 407 0,some 1⟩] [⟨24,[.agg #[sy 1,sy 2,sy 3,sy 4,sy 5,sy 6]],0,none,sy 7,none⟩]) (fc (by obtain ⟨i,i1,i2,i3,i4⟩:=infU64; have z:=s.z; exact Ev.mk_slice rfl rfl (Ev.isSym rfl) (Ev.isSym rfl) Try.underlying29 i1 i2 i3 rfl (by rw [i4]; omega) (by unfold maxLen; omega)) fn) (fc (pc rfl (fun w hb=>cells_ok s.c w)) fn) rfl [] [] [(400,[sy 1,sy 2,sy 3,sy 4,sy 5,sy 6],23)] 1 rfl rfl [(0,.agg #[sy 1,sy 2,sy 3,sy 4,sy 5,sy 6]),(1,sy 0)] fi1a7 .normal).conv (fun κ w=>⟨(fun _ h=>h),(fun _ h=>Ev.undy (a:=fun v=>Ev.slA 30 1 v (4+s.c.off s.c.n) (List.replicate (4+s.c.off s.c.n) (.int .u64 0))) (fun _ _ _ _ _ h=>h) h),trivial⟩)
theorem fiN (s:FinP) : Ev.Pie Try.prog 10 [] 0 3 148 ⟨s.W0,s.F0⟩ [(0,(.agg #[(iz (s.c.n)),(iz (s.c.q)),(iz (s.c.g)),(iz (s.c.m)),(iz (s.c.t)),(iz (s.c.s))])),(1,(s.bv))] [] .normal (fun κ:Ev.Ren=>[(1,(s.bv)),(2,(pz ((κ 400).getD 0))),(4,(.slice none 0 0)),(5,(dv κ 407)),(6,(.int .i64 0))]) (fun κ:Ev.Ren=>[Ev.blkA ((κ 400).getD 0) [(iz (s.c.n)),(iz (s.c.q)),(iz (s.c.g)),(iz (s.c.m)),(iz (s.c.t)),(iz (s.c.s))] 23,Ev.slA 30 1 (dv κ 407) (0) (List.replicate (0) (.int .u64 0))]):=(tr (c:=⟨s.W0,s.F0⟩) (kn [s.bv,iz (s.c.n),iz (s.c.q),iz (s.c.g),iz (s.c.m),iz (s.c.t),iz (s.c.s),iN (0)] (fc s.hs.leaf fr) [] [] [] fn fn fn s.W0 s.F0 [[],[Ev.atD 407 (fun v=>Ev.slA 30 1 v (0) (List.replicate (0) (.int .u64 0)))]] [⟨[19,29],[sy 7,sy 7],none,0,some 407,.complex .f32 407 0,some 1⟩] [⟨24,[.agg #[sy 1,sy 2,sy 3,sy 4,sy 5,sy 6]],0,none,sy 7,none⟩]) (fc (by obtain ⟨i,i1,i2,i3,i4⟩:=infU64; exact Ev.mk_slice rfl rfl (Ev.isSym rfl) (Ev.isSym rfl) Try.underlying29 i1 i2 i3 rfl (by rw [i4]; omega) (by unfold maxLen; omega)) fn) (fc (pc rfl (fun w hb=>cells_no s.c s.hc w)) fn) rfl [] [] [(400,[sy 1,sy 2,sy 3,sy 4,sy 5,sy 6],23)] 1 rfl rfl [(0,.agg #[sy 1,sy 2,sy 3,sy 4,sy 5,sy 6]),(1,sy 0)] fi1a7 .normal).conv (fun κ w=>⟨(fun _ h=>h),(fun _ h=>Ev.undy (a:=fun v=>Ev.slA 30 1 v (0) (List.replicate (0) (.int .u64 0))) (fun _ _ _ _ _ h=>h) h),trivial⟩)
theorem fiNa (s:FinP) (ov:Value) (lov:Ev.leafV ov=true) (b2:Nat) (h:s.c.n > 0) : Ev.Pie Try.prog 10 [6,0] 0 2 148 ⟨s.W0,s.F0⟩ [(1,(s.bv)),(2,(pz b2)),(4,(.slice none 0 0)),(5,(ov)),(6,(.int .i64 0))] (fi1a19 s ov b2) (.exit 0) (fun κ:Ev.Ren=>[(4,(.slice none 0 0)),(5,(ov))]) (fun κ:Ev.Ren=>(fi1a19 s ov b2)):=(tr (c:=⟨s.W0,s.F0⟩) (kn [s.bv,ov,iz (s.c.n),iz (s.c.q),iz (s.c.g),iz (s.c.m),iz (s.c.t),iz (s.c.s)] (fc s.hs.leaf (fc (by assumption) fr)) [(.lss,.int .i64 0,sy 2,.bool true)] [] [] (fc (fun _ _ _=>Ev.bt_lss (by first | (simp; done) | (simp; omega))) fn) fn fn s.W0 s.F0 [[Ev.slA 30 1 (ov) (0) (u64s [])]] [] [⟨32,[.agg #[sy 2,sy 3,sy 4,sy 5,sy 6,sy 7]],0,none,.bool false,none⟩]) fn (fc (pc rfl (fun w hb=>Cf.wrong s.hc w)) fn) rfl [(4,b2)] fi1a13 fi1a13 0 rfl rfl fi1a14 [(4,.slice none 0 0),(5,sy 1)] (.exit 0))
theorem fiNb (s:FinP) (ov:Value) (lov:Ev.leafV ov=true) (b2:Nat) (h:¬ s.c.n > 0) : Ev.Pie Try.prog 10 [6,0] 0 2 148 ⟨s.W0,s.F0⟩ [(1,(s.bv)),(2,(pz b2)),(4,(.slice none 0 0)),(5,(ov)),(6,(.int .i64 0))] (fi1a19 s ov b2) (.exit 0) (fun κ:Ev.Ren=>[(4,(.slice none 0 0)),(5,(ov))]) (fun κ:Ev.Ren=>(fi1a19 s ov b2)):=(tr (c:=⟨s.W0,s.F0⟩) (kn [s.bv,ov,iz (s.c.n),iz (s.c.q),iz (s.c.g),iz (s.c.m),iz (s.c.t),iz (s.c.s)] (fc s.hs.leaf (fc (by assumption) fr)) [(.lss,.int .i64 0,sy 2,.bool false)] [] [] (fc (fun _ _ _=>Ev.bt_lss (by first | (simp; done) | (simp; omega))) fn) fn fn s.W0 s.F0 [[Ev.slA 30 1 (ov) (0) (u64s [])]] [] []) fn fn rfl [(4,b2)] fi1a13 fi1a13 0 rfl rfl fi1a14 [(4,.slice none 0 0),(5,sy 1)] (.exit 0))
theorem fiNe (s:FinP) (ov:Value) (lov:Ev.leafV ov=true) (n:Nat) (us:List Int) : Ev.PieE Try.prog 10 [] 4 148 ⟨s.W0,s.F0⟩ [(4,(.slice none 0 0)),(5,(ov))] (fi1a24 ov us) (fun κ:Ev.Ren=>(ov)) (fun κ:Ev.Ren=>(fi1a24 ov us)):=(trE (c:=⟨s.W0,s.F0⟩) 2 (kn [ov] (fc (by assumption) fn) [] [] [] fn fn fn s.W0 s.F0 [(fi1a24 ov us)] [] []) fn fn rfl [] [] [] 0 rfl rfl [(4,.slice none 0 0),(5,sy 0)] (sy 0))
theorem fiC (s:FilP) (ov:Value) (lov:Ev.leafV ov=true) (us:List Int) (hu:us.length=4+s.c.off s.c.n) (b2 p:Nat) (hp:p < s.c.n) : Ev.Pie Try.prog 10 [6,0] 0 2 148 ⟨s.W0,s.F0⟩ (fi1a27 s ov b2 p) (fi1a29 s ov us b2) .normal (fun κ:Ev.Ren=>(fi1a27 s ov b2 p)) (fun κ:Ev.Ren=>(fi1a29 s ov us b2)):=(tr (c:=⟨s.W0,s.F0⟩) (kn [s.bv,ov,iN (p),iN (s.c.n),iN (s.c.q),iz (s.c.g),iz (s.c.m),iz (s.c.t),iz (s.c.s)] (fc s.hs.leaf (fc (by assumption) fr)) [(.lss,sy 2,sy 3,.bool true)] [] [] (fc (fun _ _ _=>Ev.bt_lss (by have z:=s.z; first | (simp; done) | (simp; omega))) fn) fn fn s.W0 s.F0 [(fi1a24 ov us)] [] [⟨32,[.agg #[sy 3,sy 4,sy 5,sy 6,sy 7,sy 8]],0,none,.bool true,none⟩]) fn (fc (pc rfl (fun w hb=>s.c.right w)) fn) rfl [(4,b2)] fi1a25 fi1a25 0 rfl rfl fi1a26 fi1a26 .normal)
theorem fiE (s:FilP) (ov:Value) (lov:Ev.leafV ov=true) (us:List Int) (hu:us.length=4+s.c.off s.c.n) (b2 p:Nat) (hp:¬ p < s.c.n) : Ev.Pie Try.prog 10 [6,0] 0 2 148 ⟨s.W0,s.F0⟩ (fi1a27 s ov b2 p) (fi1a29 s ov us b2) (.exit 0) (fun κ:Ev.Ren=>(fi1a27 s ov b2 p)) (fun κ:Ev.Ren=>(fi1a29 s ov us b2)):=(tr (c:=⟨s.W0,s.F0⟩) (kn [s.bv,ov,iN (p),iN (s.c.n),iN (s.c.q),iz (s.c.g),iz (s.c.m),iz (s.c.t),iz (s.c.s)] (fc s.hs.leaf (fc (by assumption) fr)) [(.lss,sy 2,sy 3,.bool false)] [] [] (fc (fun _ _ _=>Ev.bt_lss (by have z:=s.z; first | (simp; done) | (simp; omega))) fn) fn fn s.W0 s.F0 [(fi1a24 ov us)] [] []) fn fn rfl [(4,b2)] fi1a25 fi1a25 0 rfl rfl fi1a26 fi1a26 (.exit 0))
theorem fiHy (s:FilP) (ov:Value) (lov:Ev.leafV ov=true) (us:List Int) (hu:us.length=4+s.c.off s.c.n) (b2 p:Nat) (hp:p < s.c.n) (h1:((s.bs.getD (4 * (p)) 0).tmod 5)=0) : Ev.Pie Try.prog 10 [6,0,4] 0 3 148 ⟨s.W0,s.F0⟩ (fi1a27 s ov b2 p) (fi1a29 s ov us b2) .normal (fun κ:Ev.Ren=>[(1,(s.bv)),(2,(pz b2)),(4,(.slice none 0 0)),(5,(ov)),(6,(iN (p))),(7,(wz (IntKind.u32.wrap ((IntKind.u32.wrap (0 - (IntKind.u32.wrap ((s.bs.getD (4 * (p)) 0).tmod 7)))) - 1))))]) (fun κ:Ev.Ren=>(fi1a29 s ov us b2)):=(tr (c:=⟨s.W0,s.F0⟩) (kn [s.bv,ov,iN (p),iN (s.c.n),iN (s.c.q),iz (s.c.g),iz (s.c.m),iz (s.c.t),iz (s.c.s),iN (4 * (p)),iz (s.bs.getD (4 * (p)) 0),iz ((s.bs.getD (4 * (p)) 0).tmod 7),wz (IntKind.u32.wrap ((s.bs.getD (4 * (p)) 0).tmod 7)),iz ((s.bs.getD (4 * (p)) 0).tmod 5),wz (IntKind.u32.wrap (0 - (IntKind.u32.wrap ((s.bs.getD (4 * (p)) 0).tmod 7)))),wz (IntKind.u32.wrap ((IntKind.u32.wrap (0 - (IntKind.u32.wrap ((s.bs.getD (4 * (p)) 0).tmod 7)))) - 1))] (fc s.hs.leaf (fc (by assumption) fr)) [(.mul,.int .i64 4,sy 2,sy 9),(.rem,sy 10,.int .i64 7,sy 11),(.rem,sy 10,.int .i64 5,sy 13),(.eql,sy 13,.int .i64 0,.bool true),(.sub,sy 14,.int .u32 1,sy 15)] [(.neg,sy 12,sy 14)] [(.u32,sy 11,sy 12)] (fc (fun _ _ _=>Ev.bt_mul (by have z:=s.z; have y:=s.c.z hp; have q7:=hu; rw [wrap_ok (by omega) (by omega)]; omega)) (fc (fun _ _ _=>Ev.bt_rem (by decide) rfl) (fc (fun _ _ _=>Ev.bt_rem (by decide) rfl) (fc (fun _ _ _=>Ev.bt_eql (by have z:=s.z; have y:=s.c.z hp; have q7:=hu; first | (simpa using h1) | (simp; omega))) (fc (fun _ _ _=>Ev.bt_sub rfl) fn))))) (fc (Ev.ut_neg rfl) fn) (fc ⟨.i64,_,rfl,rfl⟩ fn) s.W0 s.F0 [(fi1a24 ov us)] [] [⟨33,[sy 0,sy 9],0,none,sy 10,none⟩]) fn (fc (pc (args:=[(s.bv),(iN (4 * (p)))]) rfl (fun w hb=>byte_at (s.hs.old hb s.hoff) s.hb s.hz (4 * (p)) (by have z:=s.z; have y:=s.c.z hp; have q7:=hu; omega))) fn) rfl [(4,b2)] fi1a25 fi1a25 0 rfl rfl fi1a26 [(1,sy 0),(2,.pointer (some ⟨4,0,none⟩)),(4,.slice none 0 0),(5,sy 1),(6,sy 2),(7,sy 15)] .normal)
theorem fiHn (s:FilP) (ov:Value) (lov:Ev.leafV ov=true) (us:List Int) (hu:us.length=4+s.c.off s.c.n) (b2 p:Nat) (hp:p < s.c.n) (h1:¬ ((s.bs.getD (4 * (p)) 0).tmod 5)=0) : Ev.Pie Try.prog 10 [6,0,4] 0 3 148 ⟨s.W0,s.F0⟩ (fi1a27 s ov b2 p) (fi1a29 s ov us b2) .normal (fun κ:Ev.Ren=>[(1,(s.bv)),(2,(pz b2)),(4,(.slice none 0 0)),(5,(ov)),(6,(iN (p))),(7,(wz (IntKind.u32.wrap ((s.bs.getD (4 * (p)) 0).tmod 7))))]) (fun κ:Ev.Ren=>(fi1a29 s ov us b2)):=(tr (c:=⟨s.W0,s.F0⟩) (kn [s.bv,ov,iN (p),iN (s.c.n),iN (s.c.q),iz (s.c.g),iz (s.c.m),iz (s.c.t),iz (s.c.s),iN (4 * (p)),iz (s.bs.getD (4 * (p)) 0),iz ((s.bs.getD (4 * (p)) 0).tmod 7),wz (IntKind.u32.wrap ((s.bs.getD (4 * (p)) 0).tmod 7)),iz ((s.bs.getD (4 * (p)) 0).tmod 5)] (fc s.hs.leaf (fc (by assumption) fr)) [(.mul,.int .i64 4,sy 2,sy 9),(.rem,sy 10,.int .i64 7,sy 11),(.rem,sy 10,.int .i64 5,sy 13),(.eql,sy 13,.int .i64 0,.bool false)] [] [(.u32,sy 11,sy 12)] (fc (fun _ _ _=>Ev.bt_mul (by have z:=s.z; have y:=s.c.z hp; have q7:=hu; rw [wrap_ok (by omega) (by omega)]; omega)) (fc (fun _ _ _=>Ev.bt_rem (by decide) rfl) (fc (fun _ _ _=>Ev.bt_rem (by decide) rfl) (fc (fun _ _ _=>Ev.bt_eql (by have z:=s.z; have y:=s.c.z hp; have q7:=hu; first | (simpa using h1) | (simp; omega))) fn)))) fn (fc ⟨.i64,_,rfl,rfl⟩ fn) s.W0 s.F0 [(fi1a24 ov us)] [] [⟨33,[sy 0,sy 9],0,none,sy 10,none⟩]) fn (fc (pc (args:=[(s.bv),(iN (4 * (p)))]) rfl (fun w hb=>byte_at (s.hs.old hb s.hoff) s.hb s.hz (4 * (p)) (by have z:=s.z; have y:=s.c.z hp; have q7:=hu; omega))) fn) rfl [(4,b2)] fi1a25 fi1a25 0 rfl rfl fi1a26 [(1,sy 0),(2,.pointer (some ⟨4,0,none⟩)),(4,.slice none 0 0),(5,sy 1),(6,sy 2),(7,sy 12)] .normal)
theorem fiW (s:FilP) (ov:Value) (lov:Ev.leafV ov=true) (us:List Int) (hu:us.length=4+s.c.off s.c.n) (b2 p:Nat) (hp:p < s.c.n) (h:Int) (hh:0≤h∧h < 4294967296) (nn:Nat) (hnn:(s.bs.getD (4 * p+1) 0).tmod ((s.c.q+1:Nat) : Int)=(nn:Int)) (hnq:nn≤s.c.q) : Ev.Pie Try.prog 10 [6,0,4] 3 3 148 ⟨s.W0,s.F0⟩ [(1,(s.bv)),(2,(pz b2)),(4,(.slice none 0 0)),(5,(ov)),(6,(iN (p))),(7,(wz (h)))] (fi1a29 s ov us b2) .normal (fun κ:Ev.Ren=>[(1,(s.bv)),(2,(pz b2)),(4,(.slice none 0 0)),(5,(ov)),(6,(iN (p))),(7,(wz (h))),(8,(wN (nn))),(9,(.int .u32 0))]) (fun κ:Ev.Ren=>[(fi1a28 s b2),Ev.slA 30 1 (ov) (us.length) ((u64s us).set ((s.c.word p) * 1) (uz (packW h (IntKind.u32.wrap (h+((nn:Nat) : Int))))))]):=(tr (c:=⟨s.W0,s.F0⟩) (kn [s.bv,ov,Ev.ptrR (ov) ((s.c.word p) * 1),iz (s.bs.getD (4 * (p)+1) 0),wz (h),iN (p),iN (s.c.n),iN (s.c.q),iz (s.c.g),iz (s.c.m),iz (s.c.t),iz (s.c.s),uz (h),uz (h * 4294967296),iN (nn),wN (nn),wz (IntKind.u32.wrap (h+((nn:Nat) : Int))),uz (IntKind.u32.wrap (h+((nn:Nat) : Int))),uz (packW h (IntKind.u32.wrap (h+((nn:Nat) : Int)))),iN ((s.c.q)+1),iN (4 * (p)),iN ((4 * (p))+1),iz (s.bs.getD ((4 * (p))+1) 0),iN (s.c.word p)] (fc s.hs.leaf (fc (by assumption) (fc (Ev.ptrR_leaf _ _) fr))) [(.mul,.int .i64 4,sy 5,sy 20),(.add,sy 20,.int .i64 1,sy 21),(.add,sy 7,.int .i64 1,sy 19),(.rem,sy 22,sy 19,sy 14),(.shl,sy 12,.int .u64 32,sy 13),(.add,sy 4,sy 15,sy 16),(.or,sy 13,sy 17,sy 18)] [] [(.u32,sy 14,sy 15),(.u64,sy 4,sy 12),(.u64,sy 16,sy 17)] (fc (fun _ _ _=>Ev.bt_mul (by have z:=s.z; have y:=s.c.z hp; have q7:=hu; rw [wrap_ok (by omega) (by omega)]; omega)) (fc (fun _ _ _=>Ev.bt_add (by have z:=s.z; have y:=s.c.z hp; have q7:=hu; rw [wrap_ok (by omega) (by omega)]; omega)) (fc (fun _ _ _=>Ev.bt_add (by have z:=s.z; have y:=s.c.z hp; have q7:=hu; rw [wrap_ok (by omega) (by omega)]; omega)) (fc (fun _ _ _=>Ev.bt_rem (by omega) hnn) (fc (fun _ _ _=>bt_shl32 hh) (fc (fun _ _ _=>Ev.bt_add rfl) (fc (fun _ _ _=>bt_or (bits_or h _ hh (by have z:=s.z; rw [wrap32]; omega))) fn))))))) fn (fc (Ev.ct_in rfl rfl (by have z:=s.z; rw [wrap32]; omega)) (fc (Ev.ct_in rfl rfl (wrapU (by have z:=s.z; omega) (by have z:=s.z; omega))) (fc (Ev.ct_in rfl rfl (wrapU (wrap_nn _) (by have z:=s.z; rw [wrap32]; omega))) fn))) s.W0 s.F0 [(fi1a24 ov us),[Ev.slA 30 1 (ov) (us.length) ((u64s us).set ((s.c.word p) * 1) (uz (packW h (IntKind.u32.wrap (h+((nn:Nat) : Int))))))]] [⟨[3,29],[sy 1,sy 23],none,0,none,sy 2,none⟩,⟨[2,30],[sy 2,sy 18],none,0,none,undef,some 1⟩] [⟨33,[sy 0,sy 21],0,none,sy 22,none⟩,⟨26,[.agg #[sy 6,sy 7,sy 8,sy 9,sy 10,sy 11],sy 5],0,none,sy 23,none⟩]) (fc (by obtain ⟨i,i1,i2,i3,i4⟩:=infU64; have z:=s.z; have y:=s.c.z hp; have q7:=hu; exact Ev.sl_index (ci:=1) (j:=(s.c.word p)) rfl rfl Try.underlying29 i1 i2 rfl rfl (by omega) rfl) (fc (by have z:=s.z; have y:=s.c.z hp; have q7:=hu; exact Ev.sl_store (ci:=1) (m:=(s.c.word p) * 1) (x:=(uz (packW h (IntKind.u32.wrap (h+((nn:Nat) : Int)))))) rfl rfl rfl storeU64 (by simp; omega) rfl (Ev.isSym rfl) rfl) fn)) (fc (pc (args:=[(s.bv),(iN ((4 * (p))+1))]) rfl (fun w hb=>byte_at (s.hs.old hb s.hoff) s.hb s.hz ((4 * (p))+1) (by have z:=s.z; have y:=s.c.z hp; have q7:=hu; omega))) (fc (pc rfl (fun w hb=>word_ok s.c p hp w)) fn)) rfl [(4,b2)] fi1a34 fi1a34 1 rfl rfl [(1,sy 0),(2,.pointer (some ⟨4,0,none⟩)),(4,.slice none 0 0),(5,sy 1),(6,sy 5),(7,sy 4)] [(1,sy 0),(2,.pointer (some ⟨4,0,none⟩)),(4,.slice none 0 0),(5,sy 1),(6,sy 5),(7,sy 4),(8,sy 15),(9,.int .u32 0)] .normal)
theorem fiS (s:FilP) (ov:Value) (lov:Ev.leafV ov=true) (us:List Int) (hu:us.length=4+s.c.off s.c.n) (b2 p:Nat) (hp:p < s.c.n) (h:Int) (hh:0≤h∧h < 4294967296) (nn:Nat) (hnq:nn≤s.c.q) (ix:Nat) (hi:ix < nn) : Ev.Pie Try.prog 10 [6,0,4,12,0] 0 4 148 ⟨s.W0,s.F0⟩ [(1,(s.bv)),(2,(pz b2)),(4,(.slice none 0 0)),(5,(ov)),(6,(iN (p))),(7,(wz (h))),(8,(wN (nn))),(9,(wN (ix)))] (fi1a29 s ov us b2) .normal (fun κ:Ev.Ren=>[(1,(s.bv)),(2,(pz b2)),(4,(.slice none 0 0)),(5,(ov)),(6,(iN (p))),(7,(wz (h))),(8,(wN (nn))),(9,(wN ((ix)+1)))]) (fun κ:Ev.Ren=>[(fi1a28 s b2),(fi1a44 s ov us p h ix)]):=(tr (c:=⟨s.W0,s.F0⟩) (kn [s.bv,ov,Ev.ptrR (ov) ((s.c.slot p (IntKind.u32.wrap (h+(ix:Int)))) * 1),wN (ix),uN (ix),uN ((p) * 100),iN ((p) * 100),wN ((ix)+1),wz (h),wz (IntKind.u32.wrap (h+(ix:Int))),wN (nn),iN (p),iN (s.c.n),iN (s.c.q),iz (s.c.g),iz (s.c.m),iz (s.c.t),iz (s.c.s),iN (s.c.slot p (IntKind.u32.wrap (h+(ix:Int)))),uz (IntKind.u64.wrap ((((p) * 100:Nat) : Int)+((ix:Nat) : Int)))] (fc s.hs.leaf (fc (by assumption) (fc (Ev.ptrR_leaf _ _) fr))) [(.lss,sy 3,sy 10,.bool true),(.add,sy 8,sy 3,sy 9),(.mul,sy 11,.int .i64 100,sy 6),(.add,sy 5,sy 4,sy 19),(.add,sy 3,.int .u32 1,sy 7)] [] [(.u64,sy 6,sy 5),(.u64,sy 3,sy 4)] (fc (fun _ _ _=>Ev.bt_lss (by have z:=s.z; have y:=s.c.z hp; have q7:=hu; have q8:=s.c.slotI_lt (IntKind.u32.wrap (h+(ix:Int))); have q9:s.c.slot p (IntKind.u32.wrap (h+(ix:Int)))=4+s.c.off p+(6+s.c.slotI (IntKind.u32.wrap (h+(ix:Int)))):=rfl; first | (simp; done) | (simp; omega))) (fc (fun _ _ _=>Ev.bt_add rfl) (fc (fun _ _ _=>Ev.bt_mul (by have z:=s.z; have y:=s.c.z hp; have q7:=hu; have q8:=s.c.slotI_lt (IntKind.u32.wrap (h+(ix:Int))); have q9:s.c.slot p (IntKind.u32.wrap (h+(ix:Int)))=4+s.c.off p+(6+s.c.slotI (IntKind.u32.wrap (h+(ix:Int)))):=rfl; rw [wrap_ok (by omega) (by omega)]; omega)) (fc (fun _ _ _=>Ev.bt_add rfl) (fc (fun _ _ _=>Ev.bt_add (by have z:=s.z; rw [wrap32]; omega)) fn))))) fn (fc (Ev.ct_in rfl rfl (wrapU (by have z:=s.z; omega) (by have z:=s.z; omega))) (fc (Ev.ct_in rfl rfl (wrapU (by have z:=s.z; omega) (by have z:=s.z; omega))) fn)) s.W0 s.F0 [(fi1a24 ov us),[(fi1a44 s ov us p h ix)]] [⟨[3,29],[sy 1,sy 18],none,0,none,sy 2,none⟩,⟨[2,30],[sy 2,sy 19],none,0,none,undef,some 1⟩] [⟨27,[.agg #[sy 12,sy 13,sy 14,sy 15,sy 16,sy 17],sy 11,sy 9],0,none,sy 18,none⟩]) (fc (by obtain ⟨i,i1,i2,i3,i4⟩:=infU64; have z:=s.z; have y:=s.c.z hp; have q7:=hu; have q8:=s.c.slotI_lt (IntKind.u32.wrap (h+(ix:Int))); have q9:s.c.slot p (IntKind.u32.wrap (h+(ix:Int)))=4+s.c.off p+(6+s.c.slotI (IntKind.u32.wrap (h+(ix:Int)))):=rfl; exact Ev.sl_index (ci:=1) (j:=(s.c.slot p (IntKind.u32.wrap (h+(ix:Int))))) rfl rfl Try.underlying29 i1 i2 rfl rfl (by omega) rfl) (fc (by have z:=s.z; have y:=s.c.z hp; have q7:=hu; have q8:=s.c.slotI_lt (IntKind.u32.wrap (h+(ix:Int))); have q9:s.c.slot p (IntKind.u32.wrap (h+(ix:Int)))=4+s.c.off p+(6+s.c.slotI (IntKind.u32.wrap (h+(ix:Int)))):=rfl; exact Ev.sl_store (ci:=1) (m:=(s.c.slot p (IntKind.u32.wrap (h+(ix:Int)))) * 1) (x:=(uz (IntKind.u64.wrap ((((p) * 100:Nat) : Int)+((ix:Nat) : Int))))) rfl rfl rfl storeU64 (by simp; omega) rfl (Ev.isSym rfl) rfl) fn)) (fc (pc (args:=[(fi1a0 s),(iN (p)),(wz (IntKind.u32.wrap (h+(ix:Int))))]) rfl (fun w hb=>slot_ok s.c p hp (IntKind.u32.wrap (h+(ix:Int))) (wrap_nn _) w)) fn) rfl [(4,b2)] [(4,[sy 12,sy 13,sy 14,sy 15,sy 16,sy 17],23)] [(4,[sy 12,sy 13,sy 14,sy 15,sy 16,sy 17],23)] 1 rfl rfl [(1,sy 0),(2,.pointer (some ⟨4,0,none⟩)),(4,.slice none 0 0),(5,sy 1),(6,sy 11),(7,sy 8),(8,sy 10),(9,sy 3)] [(1,sy 0),(2,.pointer (some ⟨4,0,none⟩)),(4,.slice none 0 0),(5,sy 1),(6,sy 11),(7,sy 8),(8,sy 10),(9,sy 7)] .normal)
theorem fiT (s:FilP) (ov:Value) (lov:Ev.leafV ov=true) (us:List Int) (hu:us.length=4+s.c.off s.c.n) (b2 p:Nat) (hp:p < s.c.n) (h:Int) (hh:0≤h∧h < 4294967296) (nn:Nat) (hnq:nn≤s.c.q) (ix:Nat) (hi:¬ ix < nn) : Ev.Pie Try.prog 10 [6,0,4,12,0] 0 4 148 ⟨s.W0,s.F0⟩ [(1,(s.bv)),(2,(pz b2)),(4,(.slice none 0 0)),(5,(ov)),(6,(iN (p))),(7,(wz (h))),(8,(wN (nn))),(9,(wN (ix)))] (fi1a29 s ov us b2) (.exit 2) (fun κ:Ev.Ren=>(fi1a27 s ov b2 p)) (fun κ:Ev.Ren=>(fi1a29 s ov us b2)):=(tr (c:=⟨s.W0,s.F0⟩) (kn [s.bv,ov,wz (h),wN (nn),wN (ix),iN (p),iN (s.c.n),iN (s.c.q),iz (s.c.g),iz (s.c.m),iz (s.c.t),iz (s.c.s)] (fc s.hs.leaf (fc (by assumption) fr)) [(.lss,sy 4,sy 3,.bool false)] [] [] (fc (fun _ _ _=>Ev.bt_lss (by have z:=s.z; have y:=s.c.z hp; have q7:=hu; first | (simp; done) | (simp; omega))) fn) fn fn s.W0 s.F0 [(fi1a24 ov us)] [] []) fn fn rfl [(4,b2)] fi1a34 fi1a34 0 rfl rfl [(1,sy 0),(2,.pointer (some ⟨4,0,none⟩)),(4,.slice none 0 0),(5,sy 1),(6,sy 5),(7,sy 2),(8,sy 3),(9,sy 4)] [(1,sy 0),(2,.pointer (some ⟨4,0,none⟩)),(4,.slice none 0 0),(5,sy 1),(6,sy 5)] (.exit 2))
theorem fiRy (s:FilP) (ov:Value) (lov:Ev.leafV ov=true) (us:List Int) (hu:us.length=4+s.c.off s.c.n) (b2 p:Nat) (hp:p < s.c.n) (h1:((s.bs.getD ((4 * (p))+2) 0).tmod 3)=0) : Ev.Pie Try.prog 10 [6,0,4] 7 6 148 ⟨s.W0,s.F0⟩ (fi1a27 s ov b2 p) (fi1a29 s ov us b2) .normal (fun κ:Ev.Ren=>(fi1a27 s ov b2 p)) (fun κ:Ev.Ren=>[(fi1a28 s b2),Ev.slA 30 1 (ov) (us.length) ((((((u64s us).set ((s.c.word p+1) * 1) (uN ((p) * 100+91))).set ((s.c.word p+2) * 1) (uz (IntKind.u64.wrap ((IntKind.i64.wrap ((s.bs.getD ((4 * (p))+2) 0).tdiv 3)).tmod 3)))).set ((s.c.word p+3) * 1) (uz (IntKind.u64.wrap ((s.bs.getD ((4 * (p))+3) 0).tmod 9)))).set ((s.c.word p+4) * 1) (uz (IntKind.u64.wrap ((IntKind.i64.wrap ((s.bs.getD ((4 * (p))+3) 0).tdiv 9)).tmod 4)))).set ((s.c.word p+5) * 1) (uz (IntKind.u64.wrap ((IntKind.i64.wrap ((s.bs.getD ((4 * (p))+3) 0).tdiv 36)).tmod 2))))]):=(tr (c:=⟨s.W0,s.F0⟩) (kn [s.bv,ov,Ev.ptrR (ov) ((s.c.word p+1) * 1),Ev.ptrR (ov) ((s.c.word p+2) * 1),Ev.ptrR (ov) ((s.c.word p+3) * 1),Ev.ptrR (ov) ((s.c.word p+4) * 1),Ev.ptrR (ov) ((s.c.word p+5) * 1),iN ((p) * 100),uN ((p) * 100),uN ((p) * 100+91),iN (p),iN (s.c.n),iN (s.c.q),iz (s.c.g),iz (s.c.m),iz (s.c.t),iz (s.c.s),iN (4 * (p)),iN ((4 * (p))+2),iz (s.bs.getD ((4 * (p))+2) 0),iz ((s.bs.getD ((4 * (p))+2) 0).tmod 3),iN (s.c.word p+1),iN (s.c.word p+2),iz (IntKind.i64.wrap ((s.bs.getD ((4 * (p))+2) 0).tdiv 3)),iz ((IntKind.i64.wrap ((s.bs.getD ((4 * (p))+2) 0).tdiv 3)).tmod 3),uz (IntKind.u64.wrap ((IntKind.i64.wrap ((s.bs.getD ((4 * (p))+2) 0).tdiv 3)).tmod 3)),iN (s.c.word p+3),iN ((4 * (p))+3),iz (s.bs.getD ((4 * (p))+3) 0),iz ((s.bs.getD ((4 * (p))+3) 0).tmod 9),uz (IntKind.u64.wrap ((s.bs.getD ((4 * (p))+3) 0).tmod 9)),iN (s.c.word p+4),iz (IntKind.i64.wrap ((s.bs.getD ((4 * (p))+3) 0).tdiv 9)),iz ((IntKind.i64.wrap ((s.bs.getD ((4 * (p))+3) 0).tdiv 9)).tmod 4),uz (IntKind.u64.wrap ((IntKind.i64.wrap ((s.bs.getD ((4 * (p))+3) 0).tdiv 9)).tmod 4)),iN (s.c.word p+5),iz (IntKind.i64.wrap ((s.bs.getD ((4 * (p))+3) 0).tdiv 36)),iz ((IntKind.i64.wrap ((s.bs.getD ((4 * (p))+3) 0).tdiv 36)).tmod 2),uz (IntKind.u64.wrap ((IntKind.i64.wrap ((s.bs.getD ((4 * (p))+3) 0).tdiv 36)).tmod 2))] (fc s.hs.leaf (fc (by assumption) (fc (Ev.ptrR_leaf _ _) (fc (Ev.ptrR_leaf _ _) (fc (Ev.ptrR_leaf _ _) (fc (Ev.ptrR_leaf _ _) (fc (Ev.ptrR_leaf _ _) fr))))))) [(.mul,.int .i64 4,sy 10,sy 17),(.add,sy 17,.int .i64 2,sy 18),(.rem,sy 19,.int .i64 3,sy 20),(.eql,sy 20,.int .i64 0,.bool true),(.mul,sy 10,.int .i64 100,sy 7),(.add,sy 8,.int .u64 91,sy 9),(.quo,sy 19,.int .i64 3,sy 23),(.rem,sy 23,.int .i64 3,sy 24),(.add,sy 17,.int .i64 3,sy 27),(.rem,sy 28,.int .i64 9,sy 29),(.quo,sy 28,.int .i64 9,sy 32),(.rem,sy 32,.int .i64 4,sy 33),(.quo,sy 28,.int .i64 36,sy 36),(.rem,sy 36,.int .i64 2,sy 37)] [] [(.u64,sy 7,sy 8),(.u64,sy 24,sy 25),(.u64,sy 29,sy 30),(.u64,sy 33,sy 34),(.u64,sy 37,sy 38)] (fc (fun _ _ _=>Ev.bt_mul (by have z:=s.z; have y:=s.c.z hp; have q7:=hu; rw [wrap_ok (by omega) (by omega)]; omega)) (fc (fun _ _ _=>Ev.bt_add (by have z:=s.z; have y:=s.c.z hp; have q7:=hu; rw [wrap_ok (by omega) (by omega)]; omega)) (fc (fun _ _ _=>Ev.bt_rem (by decide) rfl) (fc (fun _ _ _=>Ev.bt_eql (by have z:=s.z; have y:=s.c.z hp; have q7:=hu; first | (simpa using h1) | (simp; omega))) (fc (fun _ _ _=>Ev.bt_mul (by have z:=s.z; have y:=s.c.z hp; have q7:=hu; rw [wrap_ok (by omega) (by omega)]; omega)) (fc (fun _ _ _=>Ev.bt_add (wrapU (by have z:=s.z; omega) (by have z:=s.z; omega))) (fc (fun _ _ _=>Ev.bt_quo (by decide) rfl) (fc (fun _ _ _=>Ev.bt_rem (by decide) rfl) (fc (fun _ _ _=>Ev.bt_add (by have z:=s.z; have y:=s.c.z hp; have q7:=hu; rw [wrap_ok (by omega) (by omega)]; omega)) (fc (fun _ _ _=>Ev.bt_rem (by decide) rfl) (fc (fun _ _ _=>Ev.bt_quo (by decide) rfl) (fc (fun _ _ _=>Ev.bt_rem (by decide) rfl) (fc (fun _ _ _=>Ev.bt_quo (by decide) rfl) (fc (fun _ _ _=>Ev.bt_rem (by decide) rfl) fn)))))))))))))) fn (fc (Ev.ct_in rfl rfl (wrapU (by have z:=s.z; omega) (by have z:=s.z; omega))) (fc ⟨.i64,_,rfl,rfl⟩ (fc ⟨.i64,_,rfl,rfl⟩ (fc ⟨.i64,_,rfl,rfl⟩ (fc ⟨.i64,_,rfl,rfl⟩ fn))))) s.W0 s.F0 [(fi1a24 ov us),[Ev.slA 30 1 (ov) (us.length) ((u64s us).set ((s.c.word p+1) * 1) (uN ((p) * 100+91)))],[Ev.slA 30 1 (ov) (us.length) (((u64s us).set ((s.c.word p+1) * 1) (uN ((p) * 100+91))).set ((s.c.word p+2) * 1) (uz (IntKind.u64.wrap ((IntKind.i64.wrap ((s.bs.getD ((4 * (p))+2) 0).tdiv 3)).tmod 3))))],[Ev.slA 30 1 (ov) (us.length) ((((u64s us).set ((s.c.word p+1) * 1) (uN ((p) * 100+91))).set ((s.c.word p+2) * 1) (uz (IntKind.u64.wrap ((IntKind.i64.wrap ((s.bs.getD ((4 * (p))+2) 0).tdiv 3)).tmod 3)))).set ((s.c.word p+3) * 1) (uz (IntKind.u64.wrap ((s.bs.getD ((4 * (p))+3) 0).tmod 9))))],[Ev.slA 30 1 (ov) (us.length) (((((u64s us).set ((s.c.word p+1) * 1) (uN ((p) * 100+91))).set ((s.c.word p+2) * 1) (uz (IntKind.u64.wrap ((IntKind.i64.wrap ((s.bs.getD ((4 * (p))+2) 0).tdiv 3)).tmod 3)))).set ((s.c.word p+3) * 1) (uz (IntKind.u64.wrap ((s.bs.getD ((4 * (p))+3) 0).tmod 9)))).set ((s.c.word p+4) * 1) (uz (IntKind.u64.wrap ((IntKind.i64.wrap ((s.bs.getD ((4 * (p))+3) 0).tdiv 9)).tmod 4))))],[Ev.slA 30 1 (ov) (us.length) ((((((u64s us).set ((s.c.word p+1) * 1) (uN ((p) * 100+91))).set ((s.c.word p+2) * 1) (uz (IntKind.u64.wrap ((IntKind.i64.wrap ((s.bs.getD ((4 * (p))+2) 0).tdiv 3)).tmod 3)))).set ((s.c.word p+3) * 1) (uz (IntKind.u64.wrap ((s.bs.getD ((4 * (p))+3) 0).tmod 9)))).set ((s.c.word p+4) * 1) (uz (IntKind.u64.wrap ((IntKind.i64.wrap ((s.bs.getD ((4 * (p))+3) 0).tdiv 9)).tmod 4)))).set ((s.c.word p+5) * 1) (uz (IntKind.u64.wrap ((IntKind.i64.wrap ((s.bs.getD ((4 * (p))+3) 0).tdiv 36)).tmod 2))))]] [⟨[3,29],[sy 1,sy 21],none,0,none,sy 2,none⟩,⟨[2,30],[sy 2,sy 9],none,0,none,undef,some 1⟩,⟨[3,29],[sy 1,sy 22],none,1,none,sy 3,none⟩,⟨[2,30],[sy 3,sy 25],none,1,none,undef,some 2⟩,⟨[3,29],[sy 1,sy 26],none,2,none,sy 4,none⟩,⟨[2,30],[sy 4,sy 30],none,2,none,undef,some 3⟩,⟨[3,29],[sy 1,sy 31],none,3,none,sy 5,none⟩,⟨[2,30],[sy 5,sy 34],none,3,none,undef,some 4⟩,⟨[3,29],[sy 1,sy 35],none,4,none,sy 6,none⟩,⟨[2,30],[sy 6,sy 38],none,4,none,undef,some 5⟩] [⟨33,[sy 0,sy 18],0,none,sy 19,none⟩,⟨13,[.agg #[sy 11,sy 12,sy 13,sy 14,sy 15,sy 16],sy 10],0,none,sy 21,none⟩,⟨34,[.agg #[sy 11,sy 12,sy 13,sy 14,sy 15,sy 16],sy 10],1,none,sy 22,none⟩,⟨33,[sy 0,sy 18],1,none,sy 19,none⟩,⟨35,[.agg #[sy 11,sy 12,sy 13,sy 14,sy 15,sy 16],sy 10],2,none,sy 26,none⟩,⟨33,[sy 0,sy 27],2,none,sy 28,none⟩,⟨36,[.agg #[sy 11,sy 12,sy 13,sy 14,sy 15,sy 16],sy 10],3,none,sy 31,none⟩,⟨33,[sy 0,sy 27],3,none,sy 28,none⟩,⟨37,[.agg #[sy 11,sy 12,sy 13,sy 14,sy 15,sy 16],sy 10],4,none,sy 35,none⟩,⟨33,[sy 0,sy 27],4,none,sy 28,none⟩]) (fc (by obtain ⟨i,i1,i2,i3,i4⟩:=infU64; have z:=s.z; have y:=s.c.z hp; have q7:=hu; exact Ev.sl_index (ci:=1) (j:=(s.c.word p+1)) rfl rfl Try.underlying29 i1 i2 rfl rfl (by omega) rfl) (fc (by have z:=s.z; have y:=s.c.z hp; have q7:=hu; exact Ev.sl_store (ci:=1) (m:=(s.c.word p+1) * 1) (x:=(uN ((p) * 100+91))) rfl rfl rfl storeU64 (by simp; omega) rfl (Ev.isSym rfl) rfl) (fc (by obtain ⟨i,i1,i2,i3,i4⟩:=infU64; have z:=s.z; have y:=s.c.z hp; have q7:=hu; exact Ev.sl_index (ci:=1) (j:=(s.c.word p+2)) rfl rfl Try.underlying29 i1 i2 rfl rfl (by omega) rfl) (fc (by have z:=s.z; have y:=s.c.z hp; have q7:=hu; exact Ev.sl_store (ci:=1) (m:=(s.c.word p+2) * 1) (x:=(uz (IntKind.u64.wrap ((IntKind.i64.wrap ((s.bs.getD ((4 * (p))+2) 0).tdiv 3)).tmod 3)))) rfl rfl rfl storeU64 (by simp; omega) rfl (Ev.isSym rfl) rfl) (fc (by obtain ⟨i,i1,i2,i3,i4⟩:=infU64; have z:=s.z; have y:=s.c.z hp; have q7:=hu; exact Ev.sl_index (ci:=1) (j:=(s.c.word p+3)) rfl rfl Try.underlying29 i1 i2 rfl rfl (by omega) rfl) (fc (by have z:=s.z; have y:=s.c.z hp; have q7:=hu; exact Ev.sl_store (ci:=1) (m:=(s.c.word p+3) * 1) (x:=(uz (IntKind.u64.wrap ((s.bs.getD ((4 * (p))+3) 0).tmod 9)))) rfl rfl rfl storeU64 (by simp; omega) rfl (Ev.isSym rfl) rfl) (fc (by obtain ⟨i,i1,i2,i3,i4⟩:=infU64; have z:=s.z; have y:=s.c.z hp; have q7:=hu; exact Ev.sl_index (ci:=1) (j:=(s.c.word p+4)) rfl rfl Try.underlying29 i1 i2 rfl rfl (by omega) rfl) (fc (by have z:=s.z; have y:=s.c.z hp; have q7:=hu; exact Ev.sl_store (ci:=1) (m:=(s.c.word p+4) * 1) (x:=(uz (IntKind.u64.wrap ((IntKind.i64.wrap ((s.bs.getD ((4 * (p))+3) 0).tdiv 9)).tmod 4)))) rfl rfl rfl storeU64 (by simp; omega) rfl (Ev.isSym rfl) rfl) (fc (by obtain ⟨i,i1,i2,i3,i4⟩:=infU64; have z:=s.z; have y:=s.c.z hp; have q7:=hu; exact Ev.sl_index (ci:=1) (j:=(s.c.word p+5)) rfl rfl Try.underlying29 i1 i2 rfl rfl (by omega) rfl) (fc (by have z:=s.z; have y:=s.c.z hp; have q7:=hu; exact Ev.sl_store (ci:=1) (m:=(s.c.word p+5) * 1) (x:=(uz (IntKind.u64.wrap ((IntKind.i64.wrap ((s.bs.getD ((4 * (p))+3) 0).tdiv 36)).tmod 2)))) rfl rfl rfl storeU64 (by simp; omega) rfl (Ev.isSym rfl) rfl) fn)))))))))) (fc (pc (args:=[(s.bv),(iN ((4 * (p))+2))]) rfl (fun w hb=>byte_at (s.hs.old hb s.hoff) s.hb s.hz ((4 * (p))+2) (by have z:=s.z; have y:=s.c.z hp; have q7:=hu; omega))) (fc (pc rfl (fun w hb=>next_ok s.c p hp w)) (fc (pc rfl (fun w hb=>stat_ok s.c p hp w)) (fc (pc (args:=[(s.bv),(iN ((4 * (p))+2))]) rfl (fun w hb=>byte_at (s.hs.old hb s.hoff) s.hb s.hz ((4 * (p))+2) (by have z:=s.z; have y:=s.c.z hp; have q7:=hu; omega))) (fc (pc rfl (fun w hb=>tick_ok s.c p hp w)) (fc (pc (args:=[(s.bv),(iN ((4 * (p))+3))]) rfl (fun w hb=>byte_at (s.hs.old hb s.hoff) s.hb s.hz ((4 * (p))+3) (by have z:=s.z; have y:=s.c.z hp; have q7:=hu; omega))) (fc (pc rfl (fun w hb=>sys_ok s.c p hp w)) (fc (pc (args:=[(s.bv),(iN ((4 * (p))+3))]) rfl (fun w hb=>byte_at (s.hs.old hb s.hoff) s.hb s.hz ((4 * (p))+3) (by have z:=s.z; have y:=s.c.z hp; have q7:=hu; omega))) (fc (pc rfl (fun w hb=>flag_ok s.c p hp w)) (fc (pc (args:=[(s.bv),(iN ((4 * (p))+3))]) rfl (fun w hb=>byte_at (s.hs.old hb s.hoff) s.hb s.hz ((4 * (p))+3) (by have z:=s.z; have y:=s.c.z hp; have q7:=hu; omega))) fn)))))))))) rfl [(4,b2)] [(4,[sy 11,sy 12,sy 13,sy 14,sy 15,sy 16],23)] [(4,[sy 11,sy 12,sy 13,sy 14,sy 15,sy 16],23)] 5 rfl rfl fi1a53 fi1a53 .normal)
theorem fiRn (s:FilP) (ov:Value) (lov:Ev.leafV ov=true) (us:List Int) (hu:us.length=4+s.c.off s.c.n) (b2 p:Nat) (hp:p < s.c.n) (h1:¬ ((s.bs.getD ((4 * (p))+2) 0).tmod 3)=0) : Ev.Pie Try.prog 10 [6,0,4] 7 6 148 ⟨s.W0,s.F0⟩ (fi1a27 s ov b2 p) (fi1a29 s ov us b2) .normal (fun κ:Ev.Ren=>(fi1a27 s ov b2 p)) (fun κ:Ev.Ren=>[(fi1a28 s b2),Ev.slA 30 1 (ov) (us.length) (((((u64s us).set ((s.c.word p+2) * 1) (uz (IntKind.u64.wrap ((IntKind.i64.wrap ((s.bs.getD ((4 * (p))+2) 0).tdiv 3)).tmod 3)))).set ((s.c.word p+3) * 1) (uz (IntKind.u64.wrap ((s.bs.getD ((4 * (p))+3) 0).tmod 9)))).set ((s.c.word p+4) * 1) (uz (IntKind.u64.wrap ((IntKind.i64.wrap ((s.bs.getD ((4 * (p))+3) 0).tdiv 9)).tmod 4)))).set ((s.c.word p+5) * 1) (uz (IntKind.u64.wrap ((IntKind.i64.wrap ((s.bs.getD ((4 * (p))+3) 0).tdiv 36)).tmod 2))))]):=(tr (c:=⟨s.W0,s.F0⟩) (kn [s.bv,ov,Ev.ptrR (ov) ((s.c.word p+2) * 1),Ev.ptrR (ov) ((s.c.word p+3) * 1),Ev.ptrR (ov) ((s.c.word p+4) * 1),Ev.ptrR (ov) ((s.c.word p+5) * 1),iN ((p) * 100),uN ((p) * 100),uN ((p) * 100+91),iN (p),iN (s.c.n),iN (s.c.q),iz (s.c.g),iz (s.c.m),iz (s.c.t),iz (s.c.s),iN (4 * (p)),iN ((4 * (p))+2),iz (s.bs.getD ((4 * (p))+2) 0),iz ((s.bs.getD ((4 * (p))+2) 0).tmod 3),iN (s.c.word p+2),iz (IntKind.i64.wrap ((s.bs.getD ((4 * (p))+2) 0).tdiv 3)),iz ((IntKind.i64.wrap ((s.bs.getD ((4 * (p))+2) 0).tdiv 3)).tmod 3),uz (IntKind.u64.wrap ((IntKind.i64.wrap ((s.bs.getD ((4 * (p))+2) 0).tdiv 3)).tmod 3)),iN (s.c.word p+3),iN ((4 * (p))+3),iz (s.bs.getD ((4 * (p))+3) 0),iz ((s.bs.getD ((4 * (p))+3) 0).tmod 9),uz (IntKind.u64.wrap ((s.bs.getD ((4 * (p))+3) 0).tmod 9)),iN (s.c.word p+4),iz (IntKind.i64.wrap ((s.bs.getD ((4 * (p))+3) 0).tdiv 9)),iz ((IntKind.i64.wrap ((s.bs.getD ((4 * (p))+3) 0).tdiv 9)).tmod 4),uz (IntKind.u64.wrap ((IntKind.i64.wrap ((s.bs.getD ((4 * (p))+3) 0).tdiv 9)).tmod 4)),iN (s.c.word p+5),iz (IntKind.i64.wrap ((s.bs.getD ((4 * (p))+3) 0).tdiv 36)),iz ((IntKind.i64.wrap ((s.bs.getD ((4 * (p))+3) 0).tdiv 36)).tmod 2),uz (IntKind.u64.wrap ((IntKind.i64.wrap ((s.bs.getD ((4 * (p))+3) 0).tdiv 36)).tmod 2))] (fc s.hs.leaf (fc (by assumption) (fc (Ev.ptrR_leaf _ _) (fc (Ev.ptrR_leaf _ _) (fc (Ev.ptrR_leaf _ _) (fc (Ev.ptrR_leaf _ _) fr)))))) [(.mul,.int .i64 4,sy 9,sy 16),(.add,sy 16,.int .i64 2,sy 17),(.rem,sy 18,.int .i64 3,sy 19),(.eql,sy 19,.int .i64 0,.bool false),(.quo,sy 18,.int .i64 3,sy 21),(.rem,sy 21,.int .i64 3,sy 22),(.add,sy 16,.int .i64 3,sy 25),(.rem,sy 26,.int .i64 9,sy 27),(.quo,sy 26,.int .i64 9,sy 30),(.rem,sy 30,.int .i64 4,sy 31),(.quo,sy 26,.int .i64 36,sy 34),(.rem,sy 34,.int .i64 2,sy 35)] [] [(.u64,sy 22,sy 23),(.u64,sy 27,sy 28),(.u64,sy 31,sy 32),(.u64,sy 35,sy 36)] (fc (fun _ _ _=>Ev.bt_mul (by have z:=s.z; have y:=s.c.z hp; have q7:=hu; rw [wrap_ok (by omega) (by omega)]; omega)) (fc (fun _ _ _=>Ev.bt_add (by have z:=s.z; have y:=s.c.z hp; have q7:=hu; rw [wrap_ok (by omega) (by omega)]; omega)) (fc (fun _ _ _=>Ev.bt_rem (by decide) rfl) (fc (fun _ _ _=>Ev.bt_eql (by have z:=s.z; have y:=s.c.z hp; have q7:=hu; first | (simpa using h1) | (simp; omega))) (fc (fun _ _ _=>Ev.bt_quo (by decide) rfl) (fc (fun _ _ _=>Ev.bt_rem (by decide) rfl) (fc (fun _ _ _=>Ev.bt_add (by have z:=s.z; have y:=s.c.z hp; have q7:=hu; rw [wrap_ok (by omega) (by omega)]; omega)) (fc (fun _ _ _=>Ev.bt_rem (by decide) rfl) (fc (fun _ _ _=>Ev.bt_quo (by decide) rfl) (fc (fun _ _ _=>Ev.bt_rem (by decide) rfl) (fc (fun _ _ _=>Ev.bt_quo (by decide) rfl) (fc (fun _ _ _=>Ev.bt_rem (by decide) rfl) fn)))))))))))) fn (fc ⟨.i64,_,rfl,rfl⟩ (fc ⟨.i64,_,rfl,rfl⟩ (fc ⟨.i64,_,rfl,rfl⟩ (fc ⟨.i64,_,rfl,rfl⟩ fn)))) s.W0 s.F0 [(fi1a24 ov us),[Ev.slA 30 1 (ov) (us.length) ((u64s us).set ((s.c.word p+2) * 1) (uz (IntKind.u64.wrap ((IntKind.i64.wrap ((s.bs.getD ((4 * (p))+2) 0).tdiv 3)).tmod 3))))],[Ev.slA 30 1 (ov) (us.length) (((u64s us).set ((s.c.word p+2) * 1) (uz (IntKind.u64.wrap ((IntKind.i64.wrap ((s.bs.getD ((4 * (p))+2) 0).tdiv 3)).tmod 3)))).set ((s.c.word p+3) * 1) (uz (IntKind.u64.wrap ((s.bs.getD ((4 * (p))+3) 0).tmod 9))))],[Ev.slA 30 1 (ov) (us.length) ((((u64s us).set ((s.c.word p+2) * 1) (uz (IntKind.u64.wrap ((IntKind.i64.wrap ((s.bs.getD ((4 * (p))+2) 0).tdiv 3)).tmod 3)))).set ((s.c.word p+3) * 1) (uz (IntKind.u64.wrap ((s.bs.getD ((4 * (p))+3) 0).tmod 9)))).set ((s.c.word p+4) * 1) (uz (IntKind.u64.wrap ((IntKind.i64.wrap ((s.bs.getD ((4 * (p))+3) 0).tdiv 9)).tmod 4))))],[Ev.slA 30 1 (ov) (us.length) (((((u64s us).set ((s.c.word p+2) * 1) (uz (IntKind.u64.wrap ((IntKind.i64.wrap ((s.bs.getD ((4 * (p))+2) 0).tdiv 3)).tmod 3)))).set ((s.c.word p+3) * 1) (uz (IntKind.u64.wrap ((s.bs.getD ((4 * (p))+3) 0).tmod 9)))).set ((s.c.word p+4) * 1) (uz (IntKind.u64.wrap ((IntKind.i64.wrap ((s.bs.getD ((4 * (p))+3) 0).tdiv 9)).tmod 4)))).set ((s.c.word p+5) * 1) (uz (IntKind.u64.wrap ((IntKind.i64.wrap ((s.bs.getD ((4 * (p))+3) 0).tdiv 36)).tmod 2))))]] [⟨[3,29],[sy 1,sy 20],none,0,none,sy 2,none⟩,⟨[2,30],[sy 2,sy 23],none,0,none,undef,some 1⟩,⟨[3,29],[sy 1,sy 24],none,1,none,sy 3,none⟩,⟨[2,30],[sy 3,sy 28],none,1,none,undef,some 2⟩,⟨[3,29],[sy 1,sy 29],none,2,none,sy 4,none⟩,⟨[2,30],[sy 4,sy 32],none,2,none,undef,some 3⟩,⟨[3,29],[sy 1,sy 33],none,3,none,sy 5,none⟩,⟨[2,30],[sy 5,sy 36],none,3,none,undef,some 4⟩] [⟨33,[sy 0,sy 17],0,none,sy 18,none⟩,⟨34,[.agg #[sy 10,sy 11,sy 12,sy 13,sy 14,sy 15],sy 9],0,none,sy 20,none⟩,⟨35,[.agg #[sy 10,sy 11,sy 12,sy 13,sy 14,sy 15],sy 9],1,none,sy 24,none⟩,⟨33,[sy 0,sy 25],1,none,sy 26,none⟩,⟨36,[.agg #[sy 10,sy 11,sy 12,sy 13,sy 14,sy 15],sy 9],2,none,sy 29,none⟩,⟨33,[sy 0,sy 25],2,none,sy 26,none⟩,⟨37,[.agg #[sy 10,sy 11,sy 12,sy 13,sy 14,sy 15],sy 9],3,none,sy 33,none⟩,⟨33,[sy 0,sy 25],3,none,sy 26,none⟩]) (fc (by obtain ⟨i,i1,i2,i3,i4⟩:=infU64; have z:=s.z; have y:=s.c.z hp; have q7:=hu; exact Ev.sl_index (ci:=1) (j:=(s.c.word p+2)) rfl rfl Try.underlying29 i1 i2 rfl rfl (by omega) rfl) (fc (by have z:=s.z; have y:=s.c.z hp; have q7:=hu; exact Ev.sl_store (ci:=1) (m:=(s.c.word p+2) * 1) (x:=(uz (IntKind.u64.wrap ((IntKind.i64.wrap ((s.bs.getD ((4 * (p))+2) 0).tdiv 3)).tmod 3)))) rfl rfl rfl storeU64 (by simp; omega) rfl (Ev.isSym rfl) rfl) (fc (by obtain ⟨i,i1,i2,i3,i4⟩:=infU64; have z:=s.z; have y:=s.c.z hp; have q7:=hu; exact Ev.sl_index (ci:=1) (j:=(s.c.word p+3)) rfl rfl Try.underlying29 i1 i2 rfl rfl (by omega) rfl) (fc (by have z:=s.z; have y:=s.c.z hp; have q7:=hu; exact Ev.sl_store (ci:=1) (m:=(s.c.word p+3) * 1) (x:=(uz (IntKind.u64.wrap ((s.bs.getD ((4 * (p))+3) 0).tmod 9)))) rfl rfl rfl storeU64 (by simp; omega) rfl (Ev.isSym rfl) rfl) (fc (by obtain ⟨i,i1,i2,i3,i4⟩:=infU64; have z:=s.z; have y:=s.c.z hp; have q7:=hu; exact Ev.sl_index (ci:=1) (j:=(s.c.word p+4)) rfl rfl Try.underlying29 i1 i2 rfl rfl (by omega) rfl) (fc (by have z:=s.z; have y:=s.c.z hp; have q7:=hu; exact Ev.sl_store (ci:=1) (m:=(s.c.word p+4) * 1) (x:=(uz (IntKind.u64.wrap ((IntKind.i64.wrap ((s.bs.getD ((4 * (p))+3) 0).tdiv 9)).tmod 4)))) rfl rfl rfl storeU64 (by simp; omega) rfl (Ev.isSym rfl) rfl) (fc (by obtain ⟨i,i1,i2,i3,i4⟩:=infU64; have z:=s.z; have y:=s.c.z hp; have q7:=hu; exact Ev.sl_index (ci:=1) (j:=(s.c.word p+5)) rfl rfl Try.underlying29 i1 i2 rfl rfl (by omega) rfl) (fc (by have z:=s.z; have y:=s.c.z hp; have q7:=hu; exact Ev.sl_store (ci:=1) (m:=(s.c.word p+5) * 1) (x:=(uz (IntKind.u64.wrap ((IntKind.i64.wrap ((s.bs.getD ((4 * (p))+3) 0).tdiv 36)).tmod 2)))) rfl rfl rfl storeU64 (by simp; omega) rfl (Ev.isSym rfl) rfl) fn)))))))) (fc (pc (args:=[(s.bv),(iN ((4 * (p))+2))]) rfl (fun w hb=>byte_at (s.hs.old hb s.hoff) s.hb s.hz ((4 * (p))+2) (by have z:=s.z; have y:=s.c.z hp; have q7:=hu; omega))) (fc (pc rfl (fun w hb=>stat_ok s.c p hp w)) (fc (pc rfl (fun w hb=>tick_ok s.c p hp w)) (fc (pc (args:=[(s.bv),(iN ((4 * (p))+3))]) rfl (fun w hb=>byte_at (s.hs.old hb s.hoff) s.hb s.hz ((4 * (p))+3) (by have z:=s.z; have y:=s.c.z hp; have q7:=hu; omega))) (fc (pc rfl (fun w hb=>sys_ok s.c p hp w)) (fc (pc (args:=[(s.bv),(iN ((4 * (p))+3))]) rfl (fun w hb=>byte_at (s.hs.old hb s.hoff) s.hb s.hz ((4 * (p))+3) (by have z:=s.z; have y:=s.c.z hp; have q7:=hu; omega))) (fc (pc rfl (fun w hb=>flag_ok s.c p hp w)) (fc (pc (args:=[(s.bv),(iN ((4 * (p))+3))]) rfl (fun w hb=>byte_at (s.hs.old hb s.hoff) s.hb s.hz ((4 * (p))+3) (by have z:=s.z; have y:=s.c.z hp; have q7:=hu; omega))) fn)))))))) rfl [(4,b2)] [(4,[sy 10,sy 11,sy 12,sy 13,sy 14,sy 15],23)] [(4,[sy 10,sy 11,sy 12,sy 13,sy 14,sy 15],23)] 4 rfl rfl fi1a65 fi1a65 .normal)
theorem fiP (s:FilP) (ov:Value) (lov:Ev.leafV ov=true) (us:List Int) (hu:us.length=4+s.c.off s.c.n) (b2 p:Nat) (hp:p < s.c.n) : Ev.Pie Try.prog 10 [6,0] 3 1 148 ⟨s.W0,s.F0⟩ (fi1a27 s ov b2 p) (fi1a29 s ov us b2) .normal (fun κ:Ev.Ren=>[(1,(s.bv)),(2,(pz b2)),(4,(.slice none 0 0)),(5,(ov)),(6,(iN ((p)+1)))]) (fun κ:Ev.Ren=>(fi1a29 s ov us b2)):=(tr (c:=⟨s.W0,s.F0⟩) (kn [s.bv,ov,iN (p),iN (s.c.n),iN (s.c.q),iz (s.c.g),iz (s.c.m),iz (s.c.t),iz (s.c.s),iN ((p)+1)] (fc s.hs.leaf (fc (by assumption) fr)) [(.add,sy 2,.int .i64 1,sy 9)] [] [] (fc (fun _ _ _=>Ev.bt_add (by have z:=s.z; have y:=s.c.z hp; have q7:=hu; rw [wrap_ok (by omega) (by omega)]; omega)) fn) fn fn s.W0 s.F0 [(fi1a24 ov us)] [] []) fn fn rfl [(4,b2)] fi1a25 fi1a25 0 rfl rfl fi1a26 fi1a65 .normal)
theorem fiZ (s:FilP) (ov:Value) (lov:Ev.leafV ov=true) (us:List Int) (hu:us.length=4+s.c.off s.c.n) (b2 p:Nat) : Ev.PieE Try.prog 10 [] 4 148 ⟨s.W0,s.F0⟩ [(4,(.slice none 0 0)),(5,(ov))] (fi1a29 s ov us b2) (fun κ:Ev.Ren=>(ov)) (fun κ:Ev.Ren=>(fi1a29 s ov us b2)):=(trE (c:=⟨s.W0,s.F0⟩) 2 (kn [s.bv,ov,iN (p),iN (s.c.n),iN (s.c.q),iz (s.c.g),iz (s.c.m),iz (s.c.t),iz (s.c.s)] (fc s.hs.leaf (fc (by assumption) fr)) [] [] [] fn fn fn s.W0 s.F0 [(fi1a24 ov us)] [] []) fn fn rfl [(4,b2)] fi1a25 fi1a25 0 rfl rfl [(4,.slice none 0 0),(5,sy 1)] (sy 1))
end Go.Proofs.Ytbcnbofkgkheeaa
namespace Go.Proofs.Ytbcnbofkgkheeaa
open Go.RowKit
open Go.Ev (sy)
set_option linter.unusedVariables false
set_option linter.unusedSimpArgs false
set_option maxRecDepth 8000
structure GoodC (c:Cfg) (us:List Int) : Prop where
 len:us.length=4+c.off c.n
 u:∀ x ∈ us,U64 x
 ring:∀ p,p < c.n→szW (us.getD (c.word p) 0)≤(c.q:Int)∧us.getD (c.word p+1) 0 < 4294967296
theorem off_inj {s p p' d e:Nat} (hd:d < s) (he:e < s) (h:p * s+d=p' * s+e) : p=p'∧d=e:=by
 rcases Nat.lt_or_ge p p' with hl | hl
 ·have:=Nat.mul_le_mul_right s (show p+1≤p' from hl)
  rw [Nat.succ_mul] at this
  omega
 ·rcases Nat.lt_or_ge p' p with hl2 | hl2
  ·have:=Nat.mul_le_mul_right s (show p'+1≤p from hl2)
   rw [Nat.succ_mul] at this
   omega
  ·obtain rfl:p=p':=by omega
   exact ⟨rfl,by omega⟩
theorem word_inj (c:Cfg) {p p' d e:Nat} (hd:d < 6+c.q) (he:e < 6+c.q) (h:c.word p+d=c.word p'+e) : p=p'∧d=e :=
 off_inj (s:=6+c.q) hd he (by unfold Cfg.word Cfg.off at h; omega)
theorem getD_set (xs:List Int) (a b:Nat) (v:Int) (h:a ≠ b) : (xs.set a v).getD b 0=xs.getD b 0:=by
 rw [List.getD_eq_getElem?_getD,List.getElem?_set_ne h,← List.getD_eq_getElem?_getD]
theorem getD_self (xs:List Int) (a:Nat) (v:Int) (h:a < xs.length) : (xs.set a v).getD a 0=v:=by
 rw [List.getD_eq_getElem?_getD,List.getElem?_set_self h]
 rfl
theorem mem_set_u {xs:List Int} {a:Nat} {v:Int} (h:∀ x ∈ xs,U64 x) (hv:U64 v) : ∀ x ∈ xs.set a v,U64 x:=fun x hx=>by
 rcases List.mem_or_eq_of_mem_set hx with hx | rfl
 ·exact h x hx
 ·exact hv
theorem wrapU_u (n:Int) : U64 (IntKind.u64.wrap n):=by
 unfold U64 IntKind.wrap
 simp [IntKind.signed,IntKind.bits]
 omega
section
variable {c:Cfg} {us:List Int} {p:Nat}
theorem GoodC.word (h:GoodC c us) (hp:p < c.n) {g:Int} (hg:0≤g∧g < 4294967296) {nn:Nat} (hn:nn≤c.q) : GoodC c (us.set (c.word p) (packW g (IntKind.u32.wrap (g+((nn:Nat) : Int))))):=by
 have hq:=c.qb
 have ho:=c.off_le hp
 have hl:=h.len
 rw [wrap32]
 refine ⟨by rw [List.length_set]; exact hl,mem_set_u h.u (by unfold U64 packW; omega),fun p' hp'=>?_⟩
 by_cases e:p=p'
 ·subst e
  rw [getD_self _ _ _ (by unfold Cfg.word; omega),getD_set _ _ _ _ (by omega)]
  refine ⟨?_,(h.ring p hp).2⟩
  unfold szW tlW hdW packW
  omega
 ·rw [getD_set _ (c.word p) (c.word p') _ (fun hh=>e (word_inj c (d:=0) (e:=0) (by omega) (by omega) hh).1),getD_set _ (c.word p) (c.word p'+1) _ (fun hh=>e (word_inj c (d:=0) (e:=1) (by omega) (by omega) hh).1)]
  exact h.ring p' hp'
theorem GoodC.next (h:GoodC c us) (hp:p < c.n) {v:Int} (hv:0≤v∧v < 4294967296) : GoodC c (us.set (c.word p+1) v):=by
 have hq:=c.qb
 have ho:=c.off_le hp
 have hl:=h.len
 refine ⟨by rw [List.length_set]; exact hl,mem_set_u h.u (by unfold U64; omega),fun p' hp'=>?_⟩
 by_cases e:p=p'
 ·subst e
  rw [getD_self _ _ _ (by unfold Cfg.word; omega),getD_set _ _ _ _ (by omega)]
  exact ⟨(h.ring p hp).1,hv.2⟩
 ·rw [getD_set _ (c.word p+1) (c.word p') _ (fun hh=>e (word_inj c (d:=1) (e:=0) (by omega) (by omega) hh).1),getD_set _ _ _ _ (fun hh=>e (word_inj c (d:=1) (e:=1) (by omega) (by omega) hh).1)]
  exact h.ring p' hp'
theorem GoodC.else (h:GoodC c us) (hp:p < c.n) {d:Nat} (hd:2≤d∧d < 6+c.q) {v:Int} (hv:U64 v) : GoodC c (us.set (c.word p+d) v):=by
 have hq:=c.qb
 refine ⟨by rw [List.length_set]; exact h.len,mem_set_u h.u hv,fun p' hp'=>?_⟩
 rw [getD_set _ (c.word p+d) (c.word p') _ (fun hh=>by have:=(word_inj c (d:=d) (e:=0) (by omega) (by omega) hh).2; omega),getD_set _ _ _ _ (fun hh=>by have:=(word_inj c (d:=d) (e:=1) (by omega) (by omega) hh).2; omega)]
 exact h.ring p' hp'
end
theorem good0 (c:Cfg) : GoodC c (List.replicate (4+c.off c.n) 0):=by
 have g:∀ a,(List.replicate (4+c.off c.n) (0:Int)).getD a 0=0:=fun a=>by
  rw [List.getD_eq_getElem?_getD,List.getElem?_replicate]
  split <;> rfl
 refine ⟨by simp,fun x hx=>?_,fun p _=>?_⟩
 ·rw [List.eq_of_mem_replicate hx]
  unfold U64
  omega
 ·rw [g,g]
  have:szW 0=0:=by decide
  rw [this]
  omega
theorem now_off {w:World} {F:Nat→Prop} (h:Ev.Now [] F w) (v:Value) : Ev.OffX F v:=by
 obtain ⟨⟨Fs,h1,h2,h3,h4⟩,h5⟩:=h
 have e:F=fun _=>False:=by
  funext j
  refine propext ⟨fun hj=>?_,fun hj=>hj.elim⟩
  obtain ⟨i,f,k1,k2⟩:=(h4 j).1 hj
  have:Fs=[]:=List.eq_nil_of_length_eq_zero h1
  rw [this] at k1
  cases k1
 rw [e]
 exact Ev.offNone v
theorem filled_no {w:World} {F:Nat→Prop} (c:Cf) (hc:c.ok=false) {bv:Value} {bs:List Int} (hs:Ev.SlR 1 bv bs.length (u8s bs) w) (h:Ev.Now [] F w) :
  Calls Try.prog 10 #[c.v,bv] w fun e w'=>∃ v cd,Ev.dec cd=v∧e=.returned v∧Ev.Hold ⟨w,F⟩ [Ev.slA 30 1 v 0 (u64s [])] w':=by
 let s:FinP:=⟨w,F,c,hc,bv,bs,hs,now_off h bv⟩
 refine Ev.con_start (N:=148) (tm:=[(0,c.v),(1,bv)]) (by kernel_rfl) h (by simp) (by simp) (fun A hA=>?_)
 refine fiN s A w _ hA ?_
 intro κ A1 w1 h1
 have lov:Ev.leafV (Ev.dv κ 407)=true:=Ev.dec_leaf _
 refine Ev.in_block (id:=0) (by kernel_rfl) ?_
 refine Ev.loop_st (by kernel_rfl) (fun (j:Unit) A w'=>Ev.At ⟨w,F⟩ 148 [(1,bv),(2,.pointer (some ⟨(κ 400).getD 0,0,none⟩)),(4,.slice none 0 0),(5,Ev.dv κ 407),(6,.int .i64 0)] [Ev.blkA ((κ 400).getD 0) [.int .i64 c.n,.int .i64 c.q,.int .i64 c.g,.int .i64 c.m,.int .i64 c.t,.int .i64 c.s] 23,Ev.slA 30 1 (Ev.dv κ 407) 0 (u64s [])] A w') (fun _=>0) (x:=()) h1 ?_
 clear h1 hA A1 w1
 rintro ⟨⟩ A1 w1 h1
 have fin:∀ A2 w2,Ev.At ⟨w,F⟩ 148 [(4,.slice none 0 0),(5,Ev.dv κ 407)] [Ev.blkA ((κ 400).getD 0) [.int .i64 c.n,.int .i64 c.q,.int .i64 c.g,.int .i64 c.m,.int .i64 c.t,.int .i64 c.s] 23,Ev.slA 30 1 (Ev.dv κ 407) 0 (u64s [])] A2 w2→Ev.wpL Try.prog (Ev.stm Try.prog 10 [] 4) (bodyPostM Fence.wide 0 Try.prog (Ev.fnOf Try.prog 10) fun e w'=>∃ v cd,Ev.dec cd=v∧e=.returned v∧Ev.Hold ⟨w,F⟩ [Ev.slA 30 1 v 0 (u64s [])] w') A2 w2:=by
  intro A2 w2 h2
  refine fiNe s (Ev.dv κ 407) lov 0 [] A2 w2 _ (h2.to (fun q hq=>hq) (fun hh=>hh.sel [1] (by kernel_rfl))) ?_
  intro κ' w3 h3
  exact ⟨_,_,rfl,rfl,h3⟩
 by_cases hn:c.n > 0
 ·refine fiNa s _ lov _ hn A1 w1 _ (h1.to (fun q hq=>hq) (fun hh=>hh)) ?_
  intro κ' A2 w2 h2
  exact fin A2 w2 h2
 ·refine fiNb s _ lov _ hn A1 w1 _ (h1.to (fun q hq=>hq) (fun hh=>hh)) ?_
  intro κ' A2 w2 h2
  exact fin A2 w2 h2
abbrev FilP.tm (s:FilP) (ov:Value) (b2 p:Nat) : List (Nat×Value):=[(1,s.bv),(2,.pointer (some ⟨b2,0,none⟩)),(4,.slice none 0 0),(5,ov),(6,.int .i64 ((p:Nat) : Int))]
abbrev FilP.ps (s:FilP) (ov:Value) (b2:Nat) (us:List Int) : List Ev.Asr:=[Ev.blkA b2 [.int .i64 (s.c.n:Int),.int .i64 (s.c.q:Int),.int .i64 s.c.g,.int .i64 s.c.m,.int .i64 s.c.t,.int .i64 s.c.s] 23,Ev.slA 30 1 ov us.length (u64s us)]
section
variable (s:FilP) (ov:Value) {b2 p:Nat} {Q:Exit→Act→World→Prop} {A:Act} {w:World}
theorem set1 {us:List Int} {a:Nat} {v:Int} {l:List Ev.Asr} {ctx:Ev.Ctx} {x:Ev.Asr} (h:Ev.Hold ctx (x::Ev.slA 30 1 ov us.length ((u64s us).set (a * 1) (.int .u64 v))::l) w) : Ev.Hold ctx (x::Ev.slA 30 1 ov (us.set a v).length (u64s (us.set a v))::l) w:=by
 rw [List.length_set,← u64s_set]
 exact h
theorem fil_in {us us':List Int} {A1:Act} {w1:World} {tm:List (Nat×Value)} (hl:us'.length=us.length) (h:Ev.At ⟨s.W0,s.F0⟩ 148 tm [Ev.blkA b2 [.int .i64 (s.c.n:Int),.int .i64 (s.c.q:Int),.int .i64 s.c.g,.int .i64 s.c.m,.int .i64 s.c.t,.int .i64 s.c.s] 23,Ev.slA 30 1 ov us.length (u64s us')] A1 w1) : Ev.At ⟨s.W0,s.F0⟩ 148 tm (s.ps ov b2 us') A1 w1:=by
 unfold FilP.ps
 rw [hl]
 exact h
theorem fil_tail (lov:Ev.leafV ov=true) (hp:p < s.c.n) {us:List Int} (hu:GoodC s.c us) (h:Ev.At ⟨s.W0,s.F0⟩ 148 (s.tm ov b2 p) (s.ps ov b2 us) A w)
  (hok:∀ us' A1 w1,GoodC s.c us'→Ev.At ⟨s.W0,s.F0⟩ 148 (s.tm ov b2 p) (s.ps ov b2 us') A1 w1→Ev.wpL Try.prog (Ev.stm Try.prog 10 [6,0,4] 13) Q A1 w1) :
  Ev.wpL Try.prog (Ev.stm Try.prog 10 [6,0,4] 7) Q A w:=by
 have hq:=s.c.qb
 have hn:=s.c.nb
 by_cases hb2:((s.bs.getD ((4 * p)+2) 0).tmod 3)=0
 ·refine fiRy s ov lov us hu.len b2 p hp hb2 A w _ h ?_
  intro κ A1 w1 h1
  dsimp only at h1
  simp only [u64s_set] at h1
  refine hok _ A1 w1 ?_ (fil_in s ov ?_ h1)
  ·exact ((((hu.next hp (v:=((p * 100+91:Nat) : Int)) (by omega)).else hp (d:=2) (by omega) (wrapU_u _)).else hp (d:=3) (by omega) (wrapU_u _)).else hp (d:=4) (by omega) (wrapU_u _)).else hp (d:=5) (by omega) (wrapU_u _)
  ·simp only [List.length_set]
 ·refine fiRn s ov lov us hu.len b2 p hp hb2 A w _ h ?_
  intro κ A1 w1 h1
  dsimp only at h1
  simp only [u64s_set] at h1
  refine hok _ A1 w1 ?_ (fil_in s ov ?_ h1)
  ·exact (((hu.else hp (d:=2) (by omega) (wrapU_u _)).else hp (d:=3) (by omega) (wrapU_u _)).else hp (d:=4) (by omega) (wrapU_u _)).else hp (d:=5) (by omega) (wrapU_u _)
  ·simp only [List.length_set]
theorem fil_ring (lov:Ev.leafV ov=true) (hp:p < s.c.n) {us:List Int} (hu:GoodC s.c us) {g:Int} (hg:0≤g∧g < 4294967296) {nn:Nat} (hn:nn≤s.c.q) (h:Ev.At ⟨s.W0,s.F0⟩ 148 (s.tm ov b2 p++[(7,.int .u32 g),(8,.int .u32 ((nn:Nat) : Int)),(9,.int .u32 0)]) (s.ps ov b2 us) A w)
  (hok:∀ us' A1 w1,GoodC s.c us'→Ev.At ⟨s.W0,s.F0⟩ 148 (s.tm ov b2 p) (s.ps ov b2 us') A1 w1→Ev.wpL Try.prog (Ev.stm Try.prog 10 [6,0,4] 7) Q A1 w1) :
  Ev.wpL Try.prog (Ev.stm Try.prog 10 [6,0,4] 6) Q A w:=by
 have hq:=s.c.qb
 refine Ev.in_block (id:=2) (by kernel_rfl) ?_
 refine Ev.loop_st (by kernel_rfl) (fun (x:Nat×List Int) A w=>Ev.At ⟨s.W0,s.F0⟩ 148 (s.tm ov b2 p++[(7,.int .u32 g),(8,.int .u32 ((nn:Nat) : Int)),(9,.int .u32 ((x.1:Nat) : Int))]) (s.ps ov b2 x.2) A w∧x.1≤nn∧GoodC s.c x.2) (fun x=>nn - x.1) (x:=(0,us)) ⟨h,Nat.zero_le _,hu⟩ ?_
 clear h hu
 rintro ⟨ix,us⟩ A w ⟨h,hx,hu⟩
 replace hx:ix≤nn:=hx
 replace hu:GoodC s.c us:=hu
 by_cases hlt:ix < nn
 ·refine fiS s ov lov us hu.len b2 p hp g hg nn hn ix hlt A w _ h ?_
  intro κ A1 w1 h1
  have hs:=s.c.slotI_lt (IntKind.u32.wrap (g+(ix:Int)))
  have e:s.c.slot p (IntKind.u32.wrap (g+(ix:Int)))=s.c.word p+(6+s.c.slotI (IntKind.u32.wrap (g+(ix:Int)))):=rfl
  refine Ev.wpL_nil (by kernel_rfl) ⟨(ix+1,us.set (s.c.slot p (IntKind.u32.wrap (g+(ix:Int)))) (IntKind.u64.wrap (((p * 100:Nat) : Int)+((ix:Nat) : Int)))),⟨h1.to (fun q hq=>hq) (fun hh=>set1 ov hh),hlt,?_⟩,by show nn - (ix+1) < nn - ix; omega⟩
  show GoodC s.c (us.set (s.c.slot p _) _)
  rw [e]
  exact hu.else hp (by omega) (wrapU_u _)
 ·refine fiT s ov lov us hu.len b2 p hp g hg nn hn ix hlt A w _ h ?_
  intro κ A1 w1 h1
  exact hok us A1 w1 hu h1
theorem fil_body (lov:Ev.leafV ov=true) (hp:p < s.c.n) {us:List Int} (hu:GoodC s.c us) (h:Ev.At ⟨s.W0,s.F0⟩ 148 (s.tm ov b2 p) (s.ps ov b2 us) A w)
  (hok:∀ us' A1 w1,GoodC s.c us'→Ev.At ⟨s.W0,s.F0⟩ 148 (s.tm ov b2 p) (s.ps ov b2 us') A1 w1→Ev.wpL Try.prog (Ev.stm Try.prog 10 [6,0,4] 13) Q A1 w1) :
  Ev.wpL Try.prog (Ev.stm Try.prog 10 [6,0,4] 0) Q A w:=by
 have hq:=s.c.qb
 have rest:∀ (g:Int) (hg:0≤g∧g < 4294967296) A1 w1,Ev.At ⟨s.W0,s.F0⟩ 148 (s.tm ov b2 p++[(7,.int .u32 g)]) (s.ps ov b2 us) A1 w1→Ev.wpL Try.prog (Ev.stm Try.prog 10 [6,0,4] 3) Q A1 w1:=by
  intro g hg A1 w1 h1
  have hz:=s.hz (4 * p+1)
  have hm:0≤(s.bs.getD (4 * p+1) 0).tmod ((s.c.q+1:Nat) : Int)∧(s.bs.getD (4 * p+1) 0).tmod ((s.c.q+1:Nat) : Int) < ((s.c.q+1:Nat) : Int):=⟨Int.tmod_nonneg _ hz.1,Int.tmod_lt_of_pos _ (by omega)⟩
  obtain ⟨nn,hnn⟩:=Int.eq_ofNat_of_zero_le hm.1
  have hnq:nn≤s.c.q:=by have:=hm.2; rw [hnn] at this; omega
  refine fiW s ov lov us hu.len b2 p hp g hg nn hnn hnq A1 w1 _ h1 ?_
  intro κ A2 w2 h2
  exact fil_ring s ov lov hp (hu.word hp hg hnq) hg hnq (h2.to (fun q hq=>hq) (fun hh=>set1 ov hh)) (fun us' A3 w3 hu' h3=>fil_tail s ov lov hp hu' h3 hok)
 have b32:∀ n:Int,0≤IntKind.u32.wrap n∧IntKind.u32.wrap n < 4294967296:=fun n=>by rw [wrap32]; omega
 by_cases hb:((s.bs.getD (4 * p) 0).tmod 5)=0
 ·refine fiHy s ov lov us hu.len b2 p hp hb A w _ h ?_
  intro κ A1 w1 h1
  exact rest _ (b32 _) A1 w1 h1
 ·refine fiHn s ov lov us hu.len b2 p hp hb A w _ h ?_
  intro κ A1 w1 h1
  exact rest _ (b32 _) A1 w1 h1
end
theorem filled_ok {w:World} {F:Nat→Prop} (c:Cfg) {bv:Value} {bs:List Int} (hs:Ev.SlR 1 bv bs.length (u8s bs) w) (hb:bs.length≤1000) (hz:∀ i,0≤bs.getD i 0∧bs.getD i 0 < 256) (h:Ev.Now [] F w) :
  Calls Try.prog 10 #[c.v,bv] w fun e w'=>∃ v cd us,GoodC c us∧Ev.dec cd=v∧e=.returned v∧Ev.Hold ⟨w,F⟩ [Ev.slA 30 1 v us.length (u64s us)] w':=by
 let s:FilP:=⟨w,F,c,bv,bs,hs,now_off h bv,hb,hz⟩
 refine Ev.con_start (N:=148) (tm:=[(0,c.v),(1,bv)]) (by kernel_rfl) h (by simp) (by simp) (fun A hA=>?_)
 refine fiA s A w _ hA ?_
 intro κ A1 w1 h1
 dsimp only at h1
 have lov:Ev.leafV (Ev.dv κ 407)=true:=Ev.dec_leaf _
 have eov:∃ cd,Ev.dec cd=Ev.dv κ 407:=⟨_,rfl⟩
 generalize (κ 400).getD 0=b2 at h1
 generalize Ev.dv κ 407=ov at h1 lov eov
 refine Ev.in_block (id:=0) (by kernel_rfl) ?_
 refine Ev.loop_st (by kernel_rfl) (fun (x:Nat×List Int) A w'=>Ev.At ⟨w,F⟩ 148 [(1,bv),(2,.pointer (some ⟨b2,0,none⟩)),(4,.slice none 0 0),(5,ov),(6,.int .i64 ((x.1:Nat) : Int))] [Ev.blkA b2 [.int .i64 (c.n:Int),.int .i64 (c.q:Int),.int .i64 c.g,.int .i64 c.m,.int .i64 c.t,.int .i64 c.s] 23,Ev.slA 30 1 ov x.2.length (u64s x.2)] A w'∧x.1≤c.n∧GoodC c x.2) (fun x=>c.n - x.1) (x:=(0,List.replicate (4+c.off c.n) 0)) ⟨h1.to (fun q hq=>hq) (fun hh=>?_),Nat.zero_le _,good0 c⟩ ?_
 ·have e:(List.replicate (4+c.off c.n) (0:Int)).length=4+c.off c.n:=by simp
  simp only [e,u64s_rep]
  exact hh
 clear h1 hA A1 w1
 rintro ⟨p,us⟩ A1 w1 ⟨h1,hp,hu⟩
 replace hp:p≤c.n:=hp
 replace hu:GoodC c us:=hu
 by_cases hlt:p < c.n
 ·refine fiC s ov lov us hu.len b2 p hlt A1 w1 _ h1 ?_
  intro κ' A2 w2 h2
  refine Ev.in_block (id:=1) (by kernel_rfl) ?_
  refine fil_body s ov lov hlt hu h2 (fun us' A3 w3 hu' h3=>?_)
  refine Ev.wpL_nil (by kernel_rfl) ?_
  refine fiP s ov lov us' hu'.len b2 p hlt A3 w3 _ h3 ?_
  intro κ4 A4 w4 h4
  exact Ev.wpL_nil (by kernel_rfl) ⟨(p+1,us'),⟨h4,hlt,hu'⟩,by show c.n - (p+1) < c.n - p; omega⟩
 ·obtain rfl:p=c.n:=by omega
  refine fiE s ov lov us hu.len b2 _ hlt A1 w1 _ h1 ?_
  intro κ' A2 w2 h2
  refine fiZ s ov lov us hu.len b2 c.n A2 w2 _ (h2.to (fun q hq=>by simp at hq ⊢; rcases hq with rfl | rfl <;> simp) (fun hh=>hh)) ?_
  intro κ'' w3 h3
  obtain ⟨cd,ecd⟩:=eov
  exact ⟨_,_,_,hu,ecd,rfl,h3.sel [1] (by kernel_rfl)⟩
end Go.Proofs.Ytbcnbofkgkheeaa
