/- Part of a proof: see the last text. -/
import Derived.Test.YtankbefdlbcdnaaZo22
import Derived.Test.YtankbefdlbcdnaaRows
import Derived.WalkKit
import Derived.ProofKit
import Derived.OpenShut
import Derived.Carry
import Derived.Deep.Fields
namespace Go.Proofs.Ytankbefdlbcdnaa
open Go.RowKit
open Go.Ev (sy iz uz wz iN uN wN pz dv fc fn ak vk vd kn pc cc cr cm cd fr)
set_option linter.unusedVariables false
set_option linter.unusedSimpArgs false
set_option maxRecDepth 8000
attribute [local irreducible] Ev.wpL
structure AQ where
 W0:World
 F0:Nat→Prop
 lv:Value
 ls:List MoveS
 hl:Ev.SlR 3 lv ls.length (ls.flatMap MoveS.cells) W0
 hX:Ev.OffX F0 lv
 z0:Nat
 c0:Nat
 n:Nat
 c:Nat
 hnc:n=1+z0 % 12∧c=c0 % 3
 bt:Nat
 bs:Nat
 t:Tab
 s:Sem
 ht:t.Ok
 hs:s.Ok
 b10:Nat
 b14:Nat
 b19:Nat
 i:Nat
 k:Nat
 m:Nat
 mv:MoveS
 wv:Value
 lwv:Ev.leafV wv=true
 wl:List Int
 nx:Int
 x:Int
 e:Int
 wc:Nat
 a:Nat
 ab:Nat
 p:Nat
 kk:Nat
 h:(1≤n∧n≤12)∧i≤100∧k≤12∧m≤200∧wc≤48∧z0 < 256∧c0 < 256
theorem AQ.z (q:AQ) : (1≤q.n∧q.n≤12)∧q.i≤100∧q.k≤12∧q.m≤200∧q.wc≤48∧q.z0 < 256∧q.c0 < 256∧q.mv.b < 256:=by
 have h:=q.h
 have h2:=q.mv.hb
 omega
def AQ.o (q:AQ) : Out:=decG q.t q.s 0 1 (q.mv.b % 8) (q.mv.b / 8 % 4) q.mv.g
theorem AQ.dec (q:AQ) (hI:Inv 4 q.n q.m q.t q.s) {w:World} {F:Nat→Prop} (h:Ev.Now [tabA q.bt q.t,semA q.bs q.s] F w) :
  Calls Try.prog 12 #[wldV q.bt q.bs 0 1,actV (q.mv.b % 8) (q.mv.b / 8 % 4),iz q.mv.g] w fun e w'=>e=.returned (resV q.o.nx q.o.x q.o.e)∧Ev.Hold ⟨w,F⟩ [tabA q.bt q.o.t,semA q.bs q.o.s] w':=by
 have z:=q.z
 have hn:=hI.nn.1
 refine decide_ok q.ht q.hs (by omega) (by omega) (by omega) q.ht.fr (fun j b hj i hi hm=>absurd ((hI.wt j 2 b hj).2 ⟨i,hi,hm⟩) (by decide)) (fun i hi x hx=>?_) h
 have hr:=hI.rng i hi x hx
 have hl:x.toNat < q.t.gs.length:=by rw [hI.len]; omega
 have h1:=List.getElem?_eq_getElem hl
 have h2:=(hI.wt x.toNat _ _ h1).2 ⟨i,hi,by rw [show ((x.toNat:Nat) : Int)=x by omega]; exact hx⟩
 exact ⟨(q.t.gs[x.toNat]).2,by rw [h1,← h2]; rfl⟩
abbrev ot1a1 (q:AQ) : List (Nat×Value):=[(0,(.int .u8 ((q.z0:Nat) : Int))),(1,(.int .u8 ((q.c0:Nat) : Int))),(2,(q.lv))]
abbrev ot1a11:List Ev.Blk:=[(4,[sy 3,sy 4,.int .i64 0,.int .i64 1],31)]
abbrev ot1a12:List (Nat×Value):=[(2,sy 0),(7,sy 1),(10,.pointer (some ⟨4,0,none⟩)),(13,sy 2)]
abbrev ot1a13 (q:AQ) : List Ev.Asr:=[tabA q.bt q.t,semA q.bs q.s]
abbrev ot1a14 (q:AQ) : List (Nat×Value):=[(2,(q.lv)),(7,(iN (q.n))),(10,(pz q.b10)),(13,(iN (q.i)))]
abbrev ot1a16 (q:AQ) : Ev.Asr:=Ev.blkA q.b10 [(pz q.bt),(pz q.bs),(.int .i64 0),(.int .i64 1)] 31
abbrev ot1a17 (q:AQ) : List Ev.Asr:=[(ot1a16 q),tabA q.bt q.t,semA q.bs q.s]
abbrev ot1a24:List (Nat×Value):=[(2,sy 0),(7,sy 4),(10,.pointer (some ⟨4,0,none⟩)),(13,sy 5),(14,.pointer (some ⟨400,0,none⟩)),(15,.slice none 0 0),(16,.int .i64 0)]
abbrev ot1a27:List Ev.Blk:=[(4,[sy 7,sy 8,.int .i64 0,.int .i64 1],31)]
abbrev ot1a28:List (Nat×Value):=[(2,sy 0),(7,sy 3),(10,.pointer (some ⟨4,0,none⟩)),(13,sy 4),(14,sy 1),(15,sy 2),(16,sy 6)]
abbrev ot1a29 (q:AQ) : Ev.Asr:=Ev.slA 35 1 (Ev.arrV q.b14 3) 3 q.mv.cells
abbrev ot1a30 (q:AQ) : Ev.Asr:=Ev.slA 3 1 (q.wv) (q.wl.length) (ints q.wl)
abbrev ot1a31 (q:AQ) : List Ev.Asr:=[tabA q.bt q.t,semA q.bs q.s,(ot1a29 q),(ot1a30 q)]
abbrev ot1a32 (q:AQ) : List (Nat×Value):=[(2,(q.lv)),(7,(iN (q.n))),(10,(pz q.b10)),(13,(iN (q.i))),(14,(Ev.ptrR (Ev.arrV q.b14 3) 0)),(15,(q.wv)),(16,(iN (q.k)))]
abbrev ot1a33 (q:AQ) : List Ev.Asr:=[(ot1a16 q),tabA q.bt q.t,semA q.bs q.s,(ot1a29 q),(ot1a30 q)]
abbrev ot1a46:List Ev.Blk:=[(4,[sy 9,sy 10,.int .i64 0,.int .i64 1],31),(12,[sy 11,sy 12],41)]
abbrev ot1a47:List (Nat×Value):=[(2,sy 0),(7,sy 3),(10,.pointer (some ⟨4,0,none⟩)),(13,sy 4),(14,sy 1),(15,sy 2),(19,.pointer (some ⟨12,0,none⟩)),(20,sy 6),(21,sy 7),(22,sy 8)]
abbrev ot1a48 (q:AQ) : List (Nat×Value):=[(2,(q.lv)),(7,(iN (q.n))),(10,(pz q.b10)),(13,(iN (q.i))),(14,(Ev.ptrR (Ev.arrV q.b14 3) 0)),(15,(q.wv)),(19,(pz q.b19)),(20,(iz (q.e))),(21,(iN (q.wc))),(22,(iN (q.k)))]
abbrev ot1a50 (q:AQ) : List Ev.Asr:=[(ot1a16 q),Ev.blkA q.b19 [(iz (q.nx)),(iz (q.x))] 41,tabA q.bt q.t,semA q.bs q.s,(ot1a29 q),(ot1a30 q)]
abbrev ot1a51:List Ev.Blk:=[(4,[sy 10,sy 11,.int .i64 0,.int .i64 1],31),(12,[sy 12,sy 13],41)]
abbrev ot1a54 (q:AQ) : List (Nat×Value):=[(2,(q.lv)),(7,(iN (q.n))),(10,(pz q.b10)),(13,(iN (q.i))),(14,(Ev.ptrR (Ev.arrV q.b14 3) 0)),(15,(q.wv)),(19,(pz q.b19)),(20,(iz (q.e))),(21,(iN (q.wc))),(22,(iN (q.k))),(23,(iN (q.a)))]
abbrev ot1a55:List Ev.Blk:=[(4,[sy 11,sy 12,.int .i64 0,.int .i64 1],31),(12,[sy 13,sy 14],41)]
abbrev ot1a56:List (Nat×Value):=[(2,sy 0),(7,sy 5),(10,.pointer (some ⟨4,0,none⟩)),(13,sy 6),(14,sy 1),(15,sy 2),(19,.pointer (some ⟨12,0,none⟩)),(20,sy 8),(21,sy 9),(22,sy 10)]
abbrev ot1a57:List (Nat×Value):=[(2,sy 0),(7,sy 5),(10,.pointer (some ⟨4,0,none⟩)),(13,sy 6),(14,sy 1),(15,sy 2),(19,.pointer (some ⟨12,0,none⟩)),(20,sy 8),(21,sy 9),(22,sy 10),(23,sy 15)]
abbrev ot1a58:List (Nat×Value):=[(2,sy 0),(7,sy 3),(10,.pointer (some ⟨4,0,none⟩)),(13,sy 4),(14,sy 1),(15,sy 2),(19,.pointer (some ⟨12,0,none⟩)),(20,sy 6),(21,sy 7),(22,sy 8),(23,sy 9)]
abbrev ot1a59 (q:AQ) : List Ev.Asr:=[semA q.bs q.s,tabA q.bt q.t,(ot1a29 q),(ot1a30 q)]
abbrev ot1a60 (q:AQ) : List Ev.Asr:=[(ot1a16 q),Ev.blkA q.b19 [(iz (q.nx)),(iz (q.x))] 41,semA q.bs q.s,tabA q.bt q.t,(ot1a29 q),(ot1a30 q)]
abbrev ot1a67 (q:AQ) : Ev.Asr:=Ev.atD 403 (fun v=>isL v (q.s.ln 0))
theorem otL (q:AQ) (hll:100 < q.ls.length) : Ev.PieE Try.prog 3 [] 0 170 ⟨q.W0,q.F0⟩ (ot1a1 q) [] (fun κ:Ev.Ren=>(.bool true)) (fun κ:Ev.Ren=>[]):=(trE (c:=⟨q.W0,q.F0⟩) 20 (kn [q.lv,.int .u8 ((q.z0:Nat) : Int),.int .u8 ((q.c0:Nat) : Int),iN (q.ls.length)] (fc q.hl.leaf fr) [(.gtr,sy 3,.int .i64 100,.bool true)] [] [] (fc (fun _ _ _=>Ev.bt_gtr (by have z:=q.z; first | (simp; done) | (simp; omega))) fn) fn fn q.W0 q.F0 [[]] [⟨[10,22],[sy 0],none,0,none,sy 3,none⟩] [⟨6,[],0,none,.bool true,none⟩]) (fc (Ev.ro_len (ci:=0) rfl rfl q.hl Try.underlying22 rfl rfl) fn) (fc (pc rfl (fun w hb=>works_any w)) fn) rfl [] [] [] 0 rfl rfl [(0,sy 1),(1,sy 2),(2,sy 0)] (.bool true))
theorem otA (q:AQ) (hll:q.ls.length≤100) : Ev.Pie Try.prog 3 [] 0 10 170 ⟨q.W0,q.F0⟩ (ot1a1 q) [] .normal (fun κ:Ev.Ren=>[(2,(q.lv)),(7,(iN (q.n))),(10,(pz ((κ 408).getD 0))),(13,(.int .i64 0))]) (fun κ:Ev.Ren=>[Ev.blkA ((κ 408).getD 0) [(dv κ 407),(dv κ 403),(.int .i64 0),(.int .i64 1)] 31,tabV (dv κ 407) ((tab0 q.n).make 0),semV (dv κ 403) (sem4 q.c)]):=(tr (c:=⟨q.W0,q.F0⟩) (kn [q.lv,.int .u8 ((q.z0 % 12:Nat) : Int),iN (q.z0 % 12),.int .u8 ((q.c0 % 3:Nat) : Int),iN (q.c),iN (q.n),.int .u8 ((q.z0:Nat) : Int),.int .u8 ((q.c0:Nat) : Int),iN (q.ls.length)] (fc q.hl.leaf fr) [(.gtr,sy 8,.int .i64 100,.bool false),(.rem,sy 6,.int .u8 12,sy 1),(.add,.int .i64 1,sy 2,sy 5),(.rem,sy 7,.int .u8 3,sy 3)] [] [(.i64,sy 1,sy 2),(.i64,sy 3,sy 4)] (fc (fun _ _ _=>Ev.bt_gtr (by have z:=q.z; first | (simp; done) | (simp; omega))) (fc (fun _ _ _=>Ev.bt_rem (by decide) rfl) (fc (fun _ _ _=>Ev.bt_add (by have z:=q.z; have z2:=q.hnc; rw [wrap_ok (by omega) (by omega)]; omega)) (fc (fun _ _ _=>Ev.bt_rem (by decide) rfl) fn)))) fn (fc (Ev.ct_in rfl rfl (wrap_ok (by omega) (by omega))) (fc (Ev.ct_in rfl rfl (by have z2:=q.hnc; rw [wrap_ok (by omega) (by omega)]; omega)) fn)) q.W0 q.F0 [[],[Ev.atD 403 (fun v=>semV v (sem4 q.c))],[Ev.atD 407 (fun v=>tabV v (tab0 q.n)),Ev.atD 403 (fun v=>semV v (sem4 q.c))],[Ev.atD 407 (fun v=>tabV v ((tab0 q.n).make 0)),Ev.atD 403 (fun v=>semV v (sem4 q.c))]] [⟨[10,22],[sy 0],none,0,none,sy 8,none⟩] [⟨7,[.int .i64 4,sy 4],0,some 403,.tuple #[.complex .f32 403 0,.int .i64 0],some 1⟩,⟨8,[sy 5],1,some 407,.complex .f32 407 0,some 2⟩,⟨9,[.complex .f32 407 0],2,none,.tuple #[.int .i64 0,.int .i64 0],some 3⟩]) (fc (Ev.ro_len (ci:=0) rfl rfl q.hl Try.underlying22 rfl rfl) fn) (fc (by have z:=q.z; exact cd rfl [fun v=>semV v (sem4 q.c)] [] [] (fun w F ho hn hF=>new_sem (by have z2:=q.hnc; omega) hn)) (fc (cd rfl [fun v=>tabV v (tab0 q.n)] [] [0] (fun w F ho hn hF=>new_tab (by have z:=q.z; omega) hn)) (fc (Ev.gc_ofDL (c:=⟨q.W0,q.F0⟩) (lpd:=[Ev.atD 407 (fun v=>tabV v (tab0 q.n))]) (lp:=fun v=>[tabV v (tab0 q.n)]) (args:=fun v=>[v]) [fun v=>tabV v ((tab0 q.n).make 0)] [0] [1] rfl rfl rfl rfl (Ev.hf_at (fun _ _ _ _ _ h=>h) Ev.hf_nil) (Ev.argD_here (ak (by kernel_rfl) (by kernel_rfl))) (fun ι=>(vk (by kernel_rfl) (by kernel_rfl))) (fun v w F ho hn hF=>make_first (by have z:=q.z; omega) hn)) fn))) rfl [] [] [(408,[.complex .f32 407 0,.complex .f32 403 0,.int .i64 0,.int .i64 1],31)] 3 rfl rfl [(0,sy 6),(1,sy 7),(2,sy 0)] [(2,sy 0),(7,sy 5),(10,.pointer (some ⟨408,0,none⟩)),(13,.int .i64 0)] .normal).conv (fun κ w=>⟨(fun _ h=>h),(fun _ h=>Ev.undy (a:=fun v=>tabV v ((tab0 q.n).make 0)) (fun _ _ _ _ _ h=>h) h),(fun _ h=>Ev.undy (a:=fun v=>semV v (sem4 q.c)) (fun _ _ _ _ _ h=>h) h),trivial⟩)
theorem otT (q:AQ) (hi:q.i < q.ls.length) : Ev.Pie Try.prog 3 [20,0] 0 2 170 ⟨q.W0,q.F0⟩ (ot1a14 q) (ot1a17 q) .normal (fun κ:Ev.Ren=>(ot1a14 q)) (fun κ:Ev.Ren=>(ot1a17 q)):=(tr (c:=⟨q.W0,q.F0⟩) (kn [q.lv,iN (q.n),iN (q.i),pz q.bt,pz q.bs,iN (q.ls.length)] (fc q.hl.leaf fr) [(.lss,sy 2,sy 5,.bool true)] [] [] (fc (fun _ _ _=>Ev.bt_lss (by have z:=q.z; first | (simp; done) | (simp; omega))) fn) fn fn q.W0 q.F0 [(ot1a13 q)] [⟨[10,22],[sy 0],none,0,none,sy 5,none⟩] []) (fc (Ev.ro_len (ci:=0) rfl rfl q.hl Try.underlying22 rfl rfl) fn) fn rfl [(4,q.b10)] ot1a11 ot1a11 0 rfl rfl ot1a12 ot1a12 .normal)
theorem otF (q:AQ) (hi:¬ q.i < q.ls.length) : Ev.Pie Try.prog 3 [20,0] 0 2 170 ⟨q.W0,q.F0⟩ (ot1a14 q) (ot1a17 q) (.exit 0) (fun κ:Ev.Ren=>(ot1a14 q)) (fun κ:Ev.Ren=>(ot1a17 q)):=(tr (c:=⟨q.W0,q.F0⟩) (kn [q.lv,iN (q.n),iN (q.i),pz q.bt,pz q.bs,iN (q.ls.length)] (fc q.hl.leaf fr) [(.lss,sy 2,sy 5,.bool false)] [] [] (fc (fun _ _ _=>Ev.bt_lss (by have z:=q.z; first | (simp; done) | (simp; omega))) fn) fn fn q.W0 q.F0 [(ot1a13 q)] [⟨[10,22],[sy 0],none,0,none,sy 5,none⟩] []) (fc (Ev.ro_len (ci:=0) rfl rfl q.hl Try.underlying22 rfl rfl) fn) fn rfl [(4,q.b10)] ot1a11 ot1a11 0 rfl rfl ot1a12 ot1a12 (.exit 0))
theorem otMt (q:AQ) (hm:q.ls[q.i]? = some q.mv) (hgo:q.mv.go=true) (hi:q.i < q.ls.length) : Ev.Pie Try.prog 3 [20,0,4] 0 5 170 ⟨q.W0,q.F0⟩ (ot1a14 q) (ot1a17 q) .normal (fun κ:Ev.Ren=>[(2,(q.lv)),(7,(iN (q.n))),(10,(pz q.b10)),(13,(iN (q.i))),(14,(pz ((κ 400).getD 0))),(15,(.slice none 0 0)),(16,(.int .i64 0))]) (fun κ:Ev.Ren=>[(ot1a16 q),Ev.blkA ((κ 400).getD 0) [(iz (q.mv.g)),(.int .u8 ((q.mv.b:Nat) : Int)),(.bool true)] 35,tabA q.bt (q.t.setG q.mv.g 2),semA q.bs q.s]):=(tr (c:=⟨q.W0,q.F0⟩) (kn [q.lv,Ev.ptrR (q.lv) ((q.i) * 3),iz (q.mv.g),.int .u8 ((q.mv.b:Nat) : Int),iN (q.n),iN (q.i),pz q.bt,pz q.bs] (fc q.hl.leaf (fc (Ev.ptrR_leaf _ _) fr)) [] [] [] fn fn fn q.W0 q.F0 [(ot1a13 q),[tabA q.bt (q.t.setG q.mv.g 2),semA q.bs q.s]] [⟨[3,22],[sy 0,sy 5],none,0,none,sy 1,none⟩,⟨[1,35],[sy 1],none,0,none,.agg #[sy 2,sy 3,.bool true],none⟩] [⟨10,[sy 6,sy 2,.int .i64 2],0,some 407,.complex .f32 407 0,some 1⟩]) (fc (by obtain ⟨i,i1,i2,i3,i4⟩:=infMv; have z:=q.z; exact Ev.ro_index (ci:=0) (j:=(q.i)) rfl rfl q.hl Try.underlying22 i1 i2 rfl rfl (by omega) rfl) (fc (by have z:=q.z; exact Ev.ro_agg (ci:=0) (j:=(q.i)) rfl rfl q.hl loadMv (by omega) (mv_at hm hgo) rfl (fun ι=>(Ev.lrelCons (vk (by kernel_rfl) (by kernel_rfl)) (Ev.lrelCons (vk (by kernel_rfl) (by kernel_rfl)) (Ev.lrelCons (vk (by kernel_rfl) (by kernel_rfl)) Ev.lrelNil)))) q.hX) fn)) (fc (cm rfl [] [tabA q.bt (q.t.setG q.mv.g 2)] [0] [1] (fun w F ho hn hF=>set_any q.ht (by decide) hn)) fn) rfl [(4,q.b10)] [(4,[sy 6,sy 7,.int .i64 0,.int .i64 1],31)] [(4,[sy 6,sy 7,.int .i64 0,.int .i64 1],31),(400,[sy 2,sy 3,.bool true],35)] 1 rfl rfl [(2,sy 0),(7,sy 4),(10,.pointer (some ⟨4,0,none⟩)),(13,sy 5)] ot1a24 .normal)
theorem otMf (q:AQ) (hm:q.ls[q.i]? = some q.mv) (hgo:q.mv.go=false) (hi:q.i < q.ls.length) : Ev.Pie Try.prog 3 [20,0,4] 0 5 170 ⟨q.W0,q.F0⟩ (ot1a14 q) (ot1a17 q) .normal (fun κ:Ev.Ren=>[(2,(q.lv)),(7,(iN (q.n))),(10,(pz q.b10)),(13,(iN (q.i))),(14,(pz ((κ 400).getD 0))),(15,(.slice none 0 0)),(16,(.int .i64 0))]) (fun κ:Ev.Ren=>[(ot1a16 q),Ev.blkA ((κ 400).getD 0) [(iz (q.mv.g)),(.int .u8 ((q.mv.b:Nat) : Int)),(.bool false)] 35,tabA q.bt q.t,semA q.bs q.s]):=(tr (c:=⟨q.W0,q.F0⟩) (kn [q.lv,Ev.ptrR (q.lv) ((q.i) * 3),iz (q.mv.g),.int .u8 ((q.mv.b:Nat) : Int),iN (q.n),iN (q.i),pz q.bt,pz q.bs] (fc q.hl.leaf (fc (Ev.ptrR_leaf _ _) fr)) [] [] [] fn fn fn q.W0 q.F0 [(ot1a13 q)] [⟨[3,22],[sy 0,sy 5],none,0,none,sy 1,none⟩,⟨[1,35],[sy 1],none,0,none,.agg #[sy 2,sy 3,.bool false],none⟩] []) (fc (by obtain ⟨i,i1,i2,i3,i4⟩:=infMv; have z:=q.z; exact Ev.ro_index (ci:=0) (j:=(q.i)) rfl rfl q.hl Try.underlying22 i1 i2 rfl rfl (by omega) rfl) (fc (by have z:=q.z; exact Ev.ro_agg (ci:=0) (j:=(q.i)) rfl rfl q.hl loadMv (by omega) (mv_at hm hgo) rfl (fun ι=>(Ev.lrelCons (vk (by kernel_rfl) (by kernel_rfl)) (Ev.lrelCons (vk (by kernel_rfl) (by kernel_rfl)) (Ev.lrelCons (vk (by kernel_rfl) (by kernel_rfl)) Ev.lrelNil)))) q.hX) fn)) fn rfl [(4,q.b10)] [(4,[sy 6,sy 7,.int .i64 0,.int .i64 1],31)] [(4,[sy 6,sy 7,.int .i64 0,.int .i64 1],31),(400,[sy 2,sy 3,.bool false],35)] 0 rfl rfl [(2,sy 0),(7,sy 4),(10,.pointer (some ⟨4,0,none⟩)),(13,sy 5)] ot1a24 .normal)
theorem otsT (q:AQ) (hk:q.k < q.n) : Ev.Pie Try.prog 3 [20,0,4,10,0] 0 2 170 ⟨q.W0,q.F0⟩ (ot1a32 q) (ot1a33 q) .normal (fun κ:Ev.Ren=>(ot1a32 q)) (fun κ:Ev.Ren=>(ot1a33 q)):=(tr (c:=⟨q.W0,q.F0⟩) (kn [q.lv,Ev.ptrR (Ev.arrV q.b14 3) 0,q.wv,iN (q.n),iN (q.i),Ev.arrV q.b14 3,iN (q.k),pz q.bt,pz q.bs] (fc q.hl.leaf (fc (Ev.ptrR_leaf _ _) (fc q.lwv fr))) [(.lss,sy 6,sy 3,.bool true)] [] [] (fc (fun _ _ _=>Ev.bt_lss (by have z:=q.z; first | (simp; done) | (simp; omega))) fn) fn fn q.W0 q.F0 [(ot1a31 q)] [] []) fn fn rfl [(4,q.b10)] ot1a27 ot1a27 0 rfl rfl ot1a28 ot1a28 .normal)
theorem otsF (q:AQ) (hk:¬ q.k < q.n) : Ev.Pie Try.prog 3 [20,0,4,10,0] 0 2 170 ⟨q.W0,q.F0⟩ (ot1a32 q) (ot1a33 q) (.exit 2) (fun κ:Ev.Ren=>(ot1a32 q)) (fun κ:Ev.Ren=>(ot1a33 q)):=(tr (c:=⟨q.W0,q.F0⟩) (kn [q.lv,Ev.ptrR (Ev.arrV q.b14 3) 0,q.wv,iN (q.n),iN (q.i),Ev.arrV q.b14 3,iN (q.k),pz q.bt,pz q.bs] (fc q.hl.leaf (fc (Ev.ptrR_leaf _ _) (fc q.lwv fr))) [(.lss,sy 6,sy 3,.bool false)] [] [] (fc (fun _ _ _=>Ev.bt_lss (by have z:=q.z; first | (simp; done) | (simp; omega))) fn) fn fn q.W0 q.F0 [(ot1a31 q)] [] []) fn fn rfl [(4,q.b10)] ot1a27 ot1a27 0 rfl rfl ot1a28 ot1a28 (.exit 2))
theorem otsB (q:AQ) (hj:q.t.gs[q.k]? = some (q.a,q.ab)) (hwl:q.wl.length≤12) : Ev.Pie Try.prog 3 [20,0,4,10,0,4] 0 2 170 ⟨q.W0,q.F0⟩ (ot1a32 q) (ot1a33 q) .normal (fun κ:Ev.Ren=>[(2,(q.lv)),(7,(iN (q.n))),(10,(pz q.b10)),(13,(iN (q.i))),(14,(Ev.ptrR (Ev.arrV q.b14 3) 0)),(15,(dv κ 411)),(16,(iN (q.k)))]) (fun κ:Ev.Ren=>[(ot1a16 q),tabA q.bt q.t,semA q.bs q.s,(ot1a29 q),Ev.slA 3 1 (dv κ 411) (q.wl.length+1) ((ints q.wl)++[(iN (q.a))])]):=(tr (c:=⟨q.W0,q.F0⟩) (kn [q.lv,Ev.ptrR (Ev.arrV q.b14 3) 0,q.wv,iN (q.n),iN (q.i),Ev.arrV q.b14 3,iN (q.k),pz q.bt,pz q.bs,iN (q.a)] (fc q.hl.leaf (fc (Ev.ptrR_leaf _ _) (fc q.lwv fr))) [] [] [] fn fn fn q.W0 q.F0 [(ot1a31 q),(ot1a31 q),[tabA q.bt q.t,semA q.bs q.s,(ot1a29 q),Ev.atD 411 (fun v=>Ev.slA 3 1 v (q.wl.length+1) ((ints q.wl)++[(iN (q.a))]))]] [⟨[11,37,37],[sy 2],some (1,1,[sy 9]),1,some 411,.complex .f32 411 0,some 2⟩] [⟨11,[sy 7,sy 6],0,none,.tuple #[sy 9,.bool true],some 1⟩]) (fc (by obtain ⟨i,i1,i2,i3,i4⟩:=infInt; have z:=q.z; exact Ev.sl_append (ci:=4) (m:=1) (cs:=[(iN (q.a))]) rfl rfl rfl Try.underlying37 Try.underlying37 i1 i2 (by omega) i3 (by rw [i2]; rfl) (by rw [i4]; omega) (by omega) rfl rfl (ak (by kernel_rfl) (by kernel_rfl))) fn) (fc (cc rfl [tabA q.bt q.t] [0] [1,2,3] (fun w F ho hn hF=>(status_in q.ht hj hn).mono (fun _ _ h=>h))) fn) rfl [(4,q.b10)] ot1a27 ot1a27 2 rfl rfl ot1a28 [(2,sy 0),(7,sy 3),(10,.pointer (some ⟨4,0,none⟩)),(13,sy 4),(14,sy 1),(15,.complex .f32 411 0),(16,sy 6)] .normal).conv (fun κ w=>⟨(fun _ h=>h),(fun _ h=>h),(fun _ h=>h),(fun _ h=>h),(fun _ h=>Ev.undy (a:=fun v=>Ev.slA 3 1 v (q.wl.length+1) ((ints q.wl)++[(iN (q.a))])) (fun _ _ _ _ _ h=>h) h),trivial⟩)
theorem otsI (q:AQ) : Ev.Pie Try.prog 3 [20,0,4,10,0] 3 1 170 ⟨q.W0,q.F0⟩ (ot1a32 q) (ot1a33 q) .normal (fun κ:Ev.Ren=>[(2,(q.lv)),(7,(iN (q.n))),(10,(pz q.b10)),(13,(iN (q.i))),(14,(Ev.ptrR (Ev.arrV q.b14 3) 0)),(15,(q.wv)),(16,(iN ((q.k)+1)))]) (fun κ:Ev.Ren=>(ot1a33 q)):=(tr (c:=⟨q.W0,q.F0⟩) (kn [q.lv,Ev.ptrR (Ev.arrV q.b14 3) 0,q.wv,iN (q.n),iN (q.i),Ev.arrV q.b14 3,iN (q.k),pz q.bt,pz q.bs,iN ((q.k)+1)] (fc q.hl.leaf (fc (Ev.ptrR_leaf _ _) (fc q.lwv fr))) [(.add,sy 6,.int .i64 1,sy 9)] [] [] (fc (fun _ _ _=>Ev.bt_add (by have z:=q.z; rw [wrap_ok (by omega) (by omega)]; omega)) fn) fn fn q.W0 q.F0 [(ot1a31 q)] [] []) fn fn rfl [(4,q.b10)] ot1a27 ot1a27 0 rfl rfl ot1a28 [(2,sy 0),(7,sy 3),(10,.pointer (some ⟨4,0,none⟩)),(13,sy 4),(14,sy 1),(15,sy 2),(16,sy 9)] .normal)
theorem otD (q:AQ) (hI:Inv 4 q.n q.m q.t q.s) : Ev.Pie Try.prog 3 [20,0,4] 6 3 170 ⟨q.W0,q.F0⟩ [(2,(q.lv)),(7,(iN (q.n))),(10,(pz q.b10)),(13,(iN (q.i))),(14,(Ev.ptrR (Ev.arrV q.b14 3) 0)),(15,(q.wv))] (ot1a33 q) .normal (fun κ:Ev.Ren=>[(2,(q.lv)),(7,(iN (q.n))),(10,(pz q.b10)),(13,(iN (q.i))),(14,(Ev.ptrR (Ev.arrV q.b14 3) 0)),(15,(q.wv)),(19,(pz ((κ 404).getD 0))),(20,(iz (q.o.e))),(21,(.int .i64 0)),(22,(.int .i64 0))]) (fun κ:Ev.Ren=>[(ot1a16 q),Ev.blkA ((κ 404).getD 0) [(iz (q.o.nx)),(iz (q.o.x))] 41,tabA q.bt q.o.t,semA q.bs q.o.s,(ot1a29 q),(ot1a30 q)]):=(tr (c:=⟨q.W0,q.F0⟩) (kn [q.lv,Ev.ptrR (Ev.arrV q.b14 3) 0,q.wv,Ev.ptrR (Ev.arrV q.b14 3) (0+1),Ev.ptrR (Ev.arrV q.b14 3) (0+0),iN (q.n),iN (q.i),Ev.arrV q.b14 3,iN (q.k),pz q.bt,pz q.bs,.int .u8 ((q.mv.b:Nat) : Int),iN (q.mv.b % 8),iN (q.mv.b / 8 % 4),iz (q.mv.g),iz (q.o.nx),iz (q.o.x),iz (q.o.e)] (fc q.hl.leaf (fc (Ev.ptrR_leaf _ _) (fc q.lwv (fc (Ev.ptrR_leaf _ _) (fc (Ev.ptrR_leaf _ _) fr))))) [] [] [] fn fn fn q.W0 q.F0 [(ot1a31 q),[tabA q.bt q.o.t,semA q.bs q.o.s,(ot1a29 q),(ot1a30 q)]] [⟨[7,35,1],[sy 1],none,0,none,sy 3,none⟩,⟨[1,5],[sy 3],none,0,none,sy 11,none⟩,⟨[7,35,0],[sy 1],none,0,none,sy 4,none⟩,⟨[1,3],[sy 4],none,0,none,sy 14,none⟩] [⟨13,[sy 11],0,none,.agg #[sy 12,sy 13],none⟩,⟨12,[.agg #[sy 9,sy 10,.int .i64 0,.int .i64 1],.agg #[sy 12,sy 13],sy 14],0,none,.tuple #[.agg #[sy 15,sy 16],sy 17],some 1⟩]) (fc (by have z:=q.z; exact Ev.sl_field (ci:=3) (fo:=1) rfl rfl (by omega) fldMv1 rfl rfl) (fc (by have z:=q.z; exact Ev.sl_load (ci:=3) (m:=0+1) (x:=(.int .u8 ((q.mv.b:Nat) : Int))) rfl rfl loadU8 rfl (by decide) rfl (fun ι=>(vk (by kernel_rfl) (by kernel_rfl)))) (fc (by have z:=q.z; exact Ev.sl_field (ci:=3) (fo:=0) rfl rfl (by omega) fldMv0 rfl rfl) (fc (by have z:=q.z; exact Ev.sl_load (ci:=3) (m:=0+0) (x:=(iz (q.mv.g))) rfl rfl loadInt rfl (by decide) rfl (fun ι=>(vk (by kernel_rfl) (by kernel_rfl)))) fn)))) (fc (pc rfl (fun w hb=>of_ok q.mv.b q.mv.hb w)) (fc (cc rfl [tabA q.bt q.o.t,semA q.bs q.o.s] [0,1] [2,3] (fun w F ho hn hF=>q.dec hI hn)) fn)) rfl [(4,q.b10)] [(4,[sy 9,sy 10,.int .i64 0,.int .i64 1],31)] [(4,[sy 9,sy 10,.int .i64 0,.int .i64 1],31),(404,[sy 15,sy 16],41)] 1 rfl rfl [(2,sy 0),(7,sy 5),(10,.pointer (some ⟨4,0,none⟩)),(13,sy 6),(14,sy 1),(15,sy 2)] [(2,sy 0),(7,sy 5),(10,.pointer (some ⟨4,0,none⟩)),(13,sy 6),(14,sy 1),(15,sy 2),(19,.pointer (some ⟨404,0,none⟩)),(20,sy 17),(21,.int .i64 0),(22,.int .i64 0)] .normal)
theorem otcT (q:AQ) (hk:q.k < q.n) : Ev.Pie Try.prog 3 [20,0,4,18,0] 0 2 170 ⟨q.W0,q.F0⟩ (ot1a48 q) (ot1a50 q) .normal (fun κ:Ev.Ren=>(ot1a48 q)) (fun κ:Ev.Ren=>(ot1a50 q)):=(tr (c:=⟨q.W0,q.F0⟩) (kn [q.lv,Ev.ptrR (Ev.arrV q.b14 3) 0,q.wv,iN (q.n),iN (q.i),Ev.arrV q.b14 3,iz (q.e),iN (q.wc),iN (q.k),pz q.bt,pz q.bs,iz (q.nx),iz (q.x)] (fc q.hl.leaf (fc (Ev.ptrR_leaf _ _) (fc q.lwv fr))) [(.lss,sy 8,sy 3,.bool true)] [] [] (fc (fun _ _ _=>Ev.bt_lss (by have z:=q.z; first | (simp; done) | (simp; omega))) fn) fn fn q.W0 q.F0 [(ot1a31 q)] [] []) fn fn rfl [(4,q.b10),(12,q.b19)] ot1a46 ot1a46 0 rfl rfl ot1a47 ot1a47 .normal)
theorem otcF (q:AQ) (hk:¬ q.k < q.n) : Ev.Pie Try.prog 3 [20,0,4,18,0] 0 2 170 ⟨q.W0,q.F0⟩ (ot1a48 q) (ot1a50 q) (.exit 4) (fun κ:Ev.Ren=>(ot1a48 q)) (fun κ:Ev.Ren=>(ot1a50 q)):=(tr (c:=⟨q.W0,q.F0⟩) (kn [q.lv,Ev.ptrR (Ev.arrV q.b14 3) 0,q.wv,iN (q.n),iN (q.i),Ev.arrV q.b14 3,iz (q.e),iN (q.wc),iN (q.k),pz q.bt,pz q.bs,iz (q.nx),iz (q.x)] (fc q.hl.leaf (fc (Ev.ptrR_leaf _ _) (fc q.lwv fr))) [(.lss,sy 8,sy 3,.bool false)] [] [] (fc (fun _ _ _=>Ev.bt_lss (by have z:=q.z; first | (simp; done) | (simp; omega))) fn) fn fn q.W0 q.F0 [(ot1a31 q)] [] []) fn fn rfl [(4,q.b10),(12,q.b19)] ot1a46 ot1a46 0 rfl rfl ot1a47 ot1a47 (.exit 4))
theorem otcS (q:AQ) (hj:q.t.gs[q.k]? = some (q.a,q.ab)) (hp:(ints q.wl)[q.k * 1]? = some (iN q.p)) (hwk:q.k < q.wl.length) (hap:q.a=q.p) : Ev.Pie Try.prog 3 [20,0,4,18,0,4] 0 3 170 ⟨q.W0,q.F0⟩ (ot1a48 q) (ot1a50 q) .normal (fun κ:Ev.Ren=>(ot1a54 q)) (fun κ:Ev.Ren=>(ot1a50 q)):=(tr (c:=⟨q.W0,q.F0⟩) (kn [q.lv,Ev.ptrR (Ev.arrV q.b14 3) 0,q.wv,Ev.ptrR (q.wv) ((q.k) * 1),iN (q.n),iN (q.i),Ev.arrV q.b14 3,iz (q.e),iN (q.wc),iN (q.k),pz q.bt,pz q.bs,iz (q.nx),iz (q.x),iN (q.a),iN (q.p)] (fc q.hl.leaf (fc (Ev.ptrR_leaf _ _) (fc q.lwv (fc (Ev.ptrR_leaf _ _) fr)))) [(.neq,sy 14,sy 15,.bool false)] [] [] (fc (fun _ _ _=>Ev.bt_neq (by have z:=q.z; first | (simp; done) | (simp; omega))) fn) fn fn q.W0 q.F0 [(ot1a31 q),(ot1a31 q)] [⟨[3,37],[sy 2,sy 9],none,1,none,sy 3,none⟩,⟨[1,3],[sy 3],none,1,none,sy 15,none⟩] [⟨11,[sy 10,sy 9],0,none,.tuple #[sy 14,.bool true],some 1⟩]) (fc (by obtain ⟨i,i1,i2,i3,i4⟩:=infInt; have z:=q.z; exact Ev.sl_index (ci:=4) (j:=(q.k)) rfl rfl Try.underlying37 i1 i2 rfl rfl (by omega) rfl) (fc (by have z:=q.z; exact Ev.sl_load (ci:=4) (m:=(q.k) * 1) (x:=(iN (q.p))) rfl rfl loadInt hp (by omega) rfl (fun ι=>(vk (by kernel_rfl) (by kernel_rfl)))) fn)) (fc (cc rfl [tabA q.bt q.t] [0] [1,2,3] (fun w F ho hn hF=>(status_in q.ht hj hn).mono (fun _ _ h=>h))) fn) rfl [(4,q.b10),(12,q.b19)] ot1a51 ot1a51 1 rfl rfl [(2,sy 0),(7,sy 4),(10,.pointer (some ⟨4,0,none⟩)),(13,sy 5),(14,sy 1),(15,sy 2),(19,.pointer (some ⟨12,0,none⟩)),(20,sy 7),(21,sy 8),(22,sy 9)] [(2,sy 0),(7,sy 4),(10,.pointer (some ⟨4,0,none⟩)),(13,sy 5),(14,sy 1),(15,sy 2),(19,.pointer (some ⟨12,0,none⟩)),(20,sy 7),(21,sy 8),(22,sy 9),(23,sy 14)] .normal)
theorem otcG (q:AQ) (hj:q.t.gs[q.k]? = some (q.a,q.ab)) (hp:(ints q.wl)[q.k * 1]? = some (iN q.p)) (hwk:q.k < q.wl.length) (hap:q.a ≠ q.p) (he:q.e=0) (hg:(q.k:Int)=q.mv.g) : Ev.Pie Try.prog 3 [20,0,4,18,0,4] 0 3 170 ⟨q.W0,q.F0⟩ (ot1a48 q) (ot1a50 q) .normal (fun κ:Ev.Ren=>(ot1a54 q)) (fun κ:Ev.Ren=>(ot1a50 q)):=(tr (c:=⟨q.W0,q.F0⟩) (kn [q.lv,Ev.ptrR (Ev.arrV q.b14 3) 0,q.wv,Ev.ptrR (q.wv) ((q.k) * 1),Ev.ptrR (Ev.arrV q.b14 3) (0+0),iN (q.n),iN (q.i),Ev.arrV q.b14 3,iz (q.e),iN (q.wc),iN (q.k),pz q.bt,pz q.bs,iz (q.nx),iz (q.x),iN (q.a),iN (q.p),iz (q.mv.g)] (fc q.hl.leaf (fc (Ev.ptrR_leaf _ _) (fc q.lwv (fc (Ev.ptrR_leaf _ _) (fc (Ev.ptrR_leaf _ _) fr))))) [(.neq,sy 15,sy 16,.bool true),(.neq,sy 8,.int .i64 0,.bool false),(.neq,sy 10,sy 17,.bool false)] [] [] (fc (fun _ _ _=>Ev.bt_neq (by have z:=q.z; first | (simp; done) | (simp; omega))) (fc (fun _ _ _=>Ev.bt_neq (by have z:=q.z; first | (simp; done) | (simp; omega))) (fc (fun _ _ _=>Ev.bt_neq (by have z:=q.z; first | (simp; done) | (simp; omega))) fn))) fn fn q.W0 q.F0 [(ot1a31 q),(ot1a31 q)] [⟨[3,37],[sy 2,sy 10],none,1,none,sy 3,none⟩,⟨[1,3],[sy 3],none,1,none,sy 16,none⟩,⟨[7,35,0],[sy 1],none,1,none,sy 4,none⟩,⟨[1,3],[sy 4],none,1,none,sy 17,none⟩] [⟨11,[sy 11,sy 10],0,none,.tuple #[sy 15,.bool true],some 1⟩]) (fc (by obtain ⟨i,i1,i2,i3,i4⟩:=infInt; have z:=q.z; exact Ev.sl_index (ci:=4) (j:=(q.k)) rfl rfl Try.underlying37 i1 i2 rfl rfl (by omega) rfl) (fc (by have z:=q.z; exact Ev.sl_load (ci:=4) (m:=(q.k) * 1) (x:=(iN (q.p))) rfl rfl loadInt hp (by omega) rfl (fun ι=>(vk (by kernel_rfl) (by kernel_rfl)))) (fc (by have z:=q.z; exact Ev.sl_field (ci:=3) (fo:=0) rfl rfl (by omega) fldMv0 rfl rfl) (fc (by have z:=q.z; exact Ev.sl_load (ci:=3) (m:=0+0) (x:=(iz (q.mv.g))) rfl rfl loadInt rfl (by decide) rfl (fun ι=>(vk (by kernel_rfl) (by kernel_rfl)))) fn)))) (fc (cc rfl [tabA q.bt q.t] [0] [1,2,3] (fun w F ho hn hF=>(status_in q.ht hj hn).mono (fun _ _ h=>h))) fn) rfl [(4,q.b10),(12,q.b19)] ot1a55 ot1a55 1 rfl rfl ot1a56 ot1a57 .normal)
theorem otcX (q:AQ) (hj:q.t.gs[q.k]? = some (q.a,q.ab)) (hp:(ints q.wl)[q.k * 1]? = some (iN q.p)) (hwk:q.k < q.wl.length) (hap:q.a ≠ q.p) (he:q.e=0) (hg:(q.k:Int) ≠ q.mv.g) (hx:(q.k:Int)=q.x) : Ev.Pie Try.prog 3 [20,0,4,18,0,4] 0 3 170 ⟨q.W0,q.F0⟩ (ot1a48 q) (ot1a50 q) .normal (fun κ:Ev.Ren=>(ot1a54 q)) (fun κ:Ev.Ren=>(ot1a50 q)):=(tr (c:=⟨q.W0,q.F0⟩) (kn [q.lv,Ev.ptrR (Ev.arrV q.b14 3) 0,q.wv,Ev.ptrR (q.wv) ((q.k) * 1),Ev.ptrR (Ev.arrV q.b14 3) (0+0),iN (q.n),iN (q.i),Ev.arrV q.b14 3,iz (q.e),iN (q.wc),iN (q.k),pz q.bt,pz q.bs,iz (q.nx),iz (q.x),iN (q.a),iN (q.p),iz (q.mv.g)] (fc q.hl.leaf (fc (Ev.ptrR_leaf _ _) (fc q.lwv (fc (Ev.ptrR_leaf _ _) (fc (Ev.ptrR_leaf _ _) fr))))) [(.neq,sy 15,sy 16,.bool true),(.neq,sy 8,.int .i64 0,.bool false),(.neq,sy 10,sy 17,.bool true),(.neq,sy 10,sy 14,.bool false)] [] [] (fc (fun _ _ _=>Ev.bt_neq (by have z:=q.z; first | (simp; done) | (simp; omega))) (fc (fun _ _ _=>Ev.bt_neq (by have z:=q.z; first | (simp; done) | (simp; omega))) (fc (fun _ _ _=>Ev.bt_neq (by have z:=q.z; first | (simp; done) | (simp; omega))) (fc (fun _ _ _=>Ev.bt_neq (by have z:=q.z; first | (simp; done) | (simp; omega))) fn)))) fn fn q.W0 q.F0 [(ot1a31 q),(ot1a31 q)] [⟨[3,37],[sy 2,sy 10],none,1,none,sy 3,none⟩,⟨[1,3],[sy 3],none,1,none,sy 16,none⟩,⟨[7,35,0],[sy 1],none,1,none,sy 4,none⟩,⟨[1,3],[sy 4],none,1,none,sy 17,none⟩] [⟨11,[sy 11,sy 10],0,none,.tuple #[sy 15,.bool true],some 1⟩]) (fc (by obtain ⟨i,i1,i2,i3,i4⟩:=infInt; have z:=q.z; exact Ev.sl_index (ci:=4) (j:=(q.k)) rfl rfl Try.underlying37 i1 i2 rfl rfl (by omega) rfl) (fc (by have z:=q.z; exact Ev.sl_load (ci:=4) (m:=(q.k) * 1) (x:=(iN (q.p))) rfl rfl loadInt hp (by omega) rfl (fun ι=>(vk (by kernel_rfl) (by kernel_rfl)))) (fc (by have z:=q.z; exact Ev.sl_field (ci:=3) (fo:=0) rfl rfl (by omega) fldMv0 rfl rfl) (fc (by have z:=q.z; exact Ev.sl_load (ci:=3) (m:=0+0) (x:=(iz (q.mv.g))) rfl rfl loadInt rfl (by decide) rfl (fun ι=>(vk (by kernel_rfl) (by kernel_rfl)))) fn)))) (fc (cc rfl [tabA q.bt q.t] [0] [1,2,3] (fun w F ho hn hF=>(status_in q.ht hj hn).mono (fun _ _ h=>h))) fn) rfl [(4,q.b10),(12,q.b19)] ot1a55 ot1a55 1 rfl rfl ot1a56 ot1a57 .normal)
theorem otcN (q:AQ) (h0:0 < q.s.nn) (hw:∀ j,j < 4→(q.k:Int) ∉ q.s.ln j) (ha:q.a ≠ 3) : Ev.Pie Try.prog 3 [20,0,4,18,0,4] 3 5 170 ⟨q.W0,q.F0⟩ (ot1a54 q) (ot1a50 q) .normal (fun κ:Ev.Ren=>(ot1a48 q)) (fun κ:Ev.Ren=>(ot1a60 q)):=(tr (c:=⟨q.W0,q.F0⟩) (kn [q.lv,Ev.ptrR (Ev.arrV q.b14 3) 0,q.wv,iN (q.n),iN (q.i),Ev.arrV q.b14 3,iz (q.e),iN (q.wc),iN (q.k),iN (q.a),pz q.bt,pz q.bs,iz (q.nx),iz (q.x)] (fc q.hl.leaf (fc (Ev.ptrR_leaf _ _) (fc q.lwv fr))) [(.eql,sy 9,.int .i64 3,.bool false)] [] [] (fc (fun _ _ _=>Ev.bt_eql (by have z:=q.z; first | (simp; done) | (simp; omega))) fn) fn fn q.W0 q.F0 [(ot1a31 q),(ot1a59 q)] [] [⟨14,[sy 11,sy 8],0,none,.tuple #[.int .i64 0,.bool false],some 1⟩]) fn (fc (cc rfl [semA q.bs q.s] [1] [0,2,3] (fun w F ho hn hF=>sem_not q.hs h0 (by have z:=q.z; omega) hw hn)) fn) rfl [(4,q.b10),(12,q.b19)] ot1a51 ot1a51 1 rfl rfl ot1a58 ot1a47 .normal)
theorem otcW (q:AQ) (h0:0 < q.s.nn) (hw:(q.k:Int) ∈ q.s.ln q.kk) (hkk:q.kk < 4) (ha:q.a=3) : Ev.Pie Try.prog 3 [20,0,4,18,0,4] 3 5 170 ⟨q.W0,q.F0⟩ (ot1a54 q) (ot1a50 q) .normal (fun κ:Ev.Ren=>[(2,(q.lv)),(7,(iN (q.n))),(10,(pz q.b10)),(13,(iN (q.i))),(14,(Ev.ptrR (Ev.arrV q.b14 3) 0)),(15,(q.wv)),(19,(pz q.b19)),(20,(iz (q.e))),(21,(iN ((q.wc)+1))),(22,(iN (q.k)))]) (fun κ:Ev.Ren=>(ot1a60 q)):=(tr (c:=⟨q.W0,q.F0⟩) (kn [q.lv,Ev.ptrR (Ev.arrV q.b14 3) 0,q.wv,iN (q.n),iN (q.i),Ev.arrV q.b14 3,iz (q.e),iN (q.wc),iN (q.k),iN (q.a),pz q.bt,pz q.bs,iz (q.nx),iz (q.x),iN (q.kk),iN ((q.wc)+1)] (fc q.hl.leaf (fc (Ev.ptrR_leaf _ _) (fc q.lwv fr))) [(.eql,sy 9,.int .i64 3,.bool true),(.add,sy 7,.int .i64 1,sy 15)] [] [] (fc (fun _ _ _=>Ev.bt_eql (by have z:=q.z; first | (simp; done) | (simp; omega))) (fc (fun _ _ _=>Ev.bt_add (by have z:=q.z; rw [wrap_ok (by omega) (by omega)]; omega)) fn)) fn fn q.W0 q.F0 [(ot1a31 q),(ot1a59 q)] [] [⟨14,[sy 11,sy 8],0,none,.tuple #[sy 14,.bool true],some 1⟩]) fn (fc (cc rfl [semA q.bs q.s] [1] [0,2,3] (fun w F ho hn hF=>sem_does q.hs h0 hkk hw hn)) fn) rfl [(4,q.b10),(12,q.b19)] ot1a51 ot1a51 1 rfl rfl ot1a58 [(2,sy 0),(7,sy 3),(10,.pointer (some ⟨4,0,none⟩)),(13,sy 4),(14,sy 1),(15,sy 2),(19,.pointer (some ⟨12,0,none⟩)),(20,sy 6),(21,sy 15),(22,sy 8)] .normal)
theorem otcI (q:AQ) : Ev.Pie Try.prog 3 [20,0,4,18,0] 3 1 170 ⟨q.W0,q.F0⟩ (ot1a48 q) (ot1a50 q) .normal (fun κ:Ev.Ren=>[(2,(q.lv)),(7,(iN (q.n))),(10,(pz q.b10)),(13,(iN (q.i))),(14,(Ev.ptrR (Ev.arrV q.b14 3) 0)),(15,(q.wv)),(19,(pz q.b19)),(20,(iz (q.e))),(21,(iN (q.wc))),(22,(iN ((q.k)+1)))]) (fun κ:Ev.Ren=>(ot1a50 q)):=(tr (c:=⟨q.W0,q.F0⟩) (kn [q.lv,Ev.ptrR (Ev.arrV q.b14 3) 0,q.wv,iN (q.n),iN (q.i),Ev.arrV q.b14 3,iz (q.e),iN (q.wc),iN (q.k),pz q.bt,pz q.bs,iz (q.nx),iz (q.x),iN ((q.k)+1)] (fc q.hl.leaf (fc (Ev.ptrR_leaf _ _) (fc q.lwv fr))) [(.add,sy 8,.int .i64 1,sy 13)] [] [] (fc (fun _ _ _=>Ev.bt_add (by have z:=q.z; rw [wrap_ok (by omega) (by omega)]; omega)) fn) fn fn q.W0 q.F0 [(ot1a31 q)] [] []) fn fn rfl [(4,q.b10),(12,q.b19)] ot1a46 ot1a46 0 rfl rfl ot1a47 [(2,sy 0),(7,sy 3),(10,.pointer (some ⟨4,0,none⟩)),(13,sy 4),(14,sy 1),(15,sy 2),(19,.pointer (some ⟨12,0,none⟩)),(20,sy 6),(21,sy 7),(22,sy 13)] .normal)
theorem otW (q:AQ) (h4:q.s.nn=4) (hl:∀ k,k < 4→(q.s.ln k).length≤12) (hsum:(q.s.ln 0).length+(q.s.ln 1).length+(q.s.ln 2).length+(q.s.ln 3).length=q.wc) : Ev.Pie Try.prog 3 [20,0,4] 10 5 170 ⟨q.W0,q.F0⟩ [(2,(q.lv)),(7,(iN (q.n))),(10,(pz q.b10)),(13,(iN (q.i))),(21,(iN (q.wc)))] (ot1a17 q) .normal (fun κ:Ev.Ren=>(ot1a14 q)) (fun κ:Ev.Ren=>[(ot1a16 q),isL (dv κ 415) (q.s.ln 3),semA q.bs q.s,isL (dv κ 411) (q.s.ln 2),isL (dv κ 407) (q.s.ln 1),isL (dv κ 403) (q.s.ln 0),tabA q.bt q.t]):=(tr (c:=⟨q.W0,q.F0⟩) (kn [q.lv,iN (q.n),iN (q.i),iN (q.wc),pz q.bt,pz q.bs,iN ((q.s.ln 0).length),iN (0+((q.s.ln 0).length)),iN ((q.s.ln 1).length),iN ((0+((q.s.ln 0).length))+((q.s.ln 1).length)),iN ((q.s.ln 2).length),iN (((0+((q.s.ln 0).length))+((q.s.ln 1).length))+((q.s.ln 2).length)),iN ((q.s.ln 3).length),iN ((((0+((q.s.ln 0).length))+((q.s.ln 1).length))+((q.s.ln 2).length))+((q.s.ln 3).length))] (fc q.hl.leaf fr) [(.add,.int .i64 0,sy 6,sy 7),(.add,sy 7,sy 8,sy 9),(.add,sy 9,sy 10,sy 11),(.add,sy 11,sy 12,sy 13),(.neq,sy 13,sy 3,.bool false)] [] [] (fc (fun _ _ _=>Ev.bt_add (by have z:=q.z; have z0:=hl 0 (by decide); have z1:=hl 1 (by decide); have z2:=hl 2 (by decide); have z3:=hl 3 (by decide); rw [wrap_ok (by omega) (by omega)]; omega)) (fc (fun _ _ _=>Ev.bt_add (by have z:=q.z; have z0:=hl 0 (by decide); have z1:=hl 1 (by decide); have z2:=hl 2 (by decide); have z3:=hl 3 (by decide); rw [wrap_ok (by omega) (by omega)]; omega)) (fc (fun _ _ _=>Ev.bt_add (by have z:=q.z; have z0:=hl 0 (by decide); have z1:=hl 1 (by decide); have z2:=hl 2 (by decide); have z3:=hl 3 (by decide); rw [wrap_ok (by omega) (by omega)]; omega)) (fc (fun _ _ _=>Ev.bt_add (by have z:=q.z; have z0:=hl 0 (by decide); have z1:=hl 1 (by decide); have z2:=hl 2 (by decide); have z3:=hl 3 (by decide); rw [wrap_ok (by omega) (by omega)]; omega)) (fc (fun _ _ _=>Ev.bt_neq (by have z:=q.z; have z0:=hl 0 (by decide); have z1:=hl 1 (by decide); have z2:=hl 2 (by decide); have z3:=hl 3 (by decide); first | (simp; done) | (simp; omega))) fn))))) fn fn q.W0 q.F0 [(ot1a13 q),[(ot1a67 q),semA q.bs q.s,tabA q.bt q.t],[Ev.atD 407 (fun v=>isL v (q.s.ln 1)),semA q.bs q.s,(ot1a67 q),tabA q.bt q.t],[Ev.atD 411 (fun v=>isL v (q.s.ln 2)),semA q.bs q.s,Ev.atD 407 (fun v=>isL v (q.s.ln 1)),(ot1a67 q),tabA q.bt q.t],[Ev.atD 415 (fun v=>isL v (q.s.ln 3)),semA q.bs q.s,Ev.atD 411 (fun v=>isL v (q.s.ln 2)),Ev.atD 407 (fun v=>isL v (q.s.ln 1)),(ot1a67 q),tabA q.bt q.t]] [⟨[10,37],[.complex .f32 403 0],none,1,none,sy 6,none⟩,⟨[10,37],[.complex .f32 407 0],none,2,none,sy 8,none⟩,⟨[10,37],[.complex .f32 411 0],none,3,none,sy 10,none⟩,⟨[10,37],[.complex .f32 415 0],none,4,none,sy 12,none⟩] [⟨15,[sy 5,.int .i64 0],0,some 403,.complex .f32 403 0,some 1⟩,⟨15,[sy 5,.int .i64 1],1,some 407,.complex .f32 407 0,some 2⟩,⟨15,[sy 5,.int .i64 2],2,some 411,.complex .f32 411 0,some 3⟩,⟨15,[sy 5,.int .i64 3],3,some 415,.complex .f32 415 0,some 4⟩]) (fc (by obtain ⟨i,i1,i2,i3,i4⟩:=infInt; exact Ev.sl_lenD (ci:=1) rfl rfl Try.underlying37 i2 rfl) (fc (by obtain ⟨i,i1,i2,i3,i4⟩:=infInt; exact Ev.sl_lenD (ci:=1) rfl rfl Try.underlying37 i2 rfl) (fc (by obtain ⟨i,i1,i2,i3,i4⟩:=infInt; exact Ev.sl_lenD (ci:=1) rfl rfl Try.underlying37 i2 rfl) (fc (by obtain ⟨i,i1,i2,i3,i4⟩:=infInt; exact Ev.sl_lenD (ci:=1) rfl rfl Try.underlying37 i2 rfl) fn)))) (fc (by have z:=q.z; have z0:=hl 0 (by decide); have z1:=hl 1 (by decide); have z2:=hl 2 (by decide); have z3:=hl 3 (by decide); exact cm rfl [fun v=>isL v (q.s.ln 0)] [semA q.bs q.s] [1] [0] (fun w F ho hn hF=>sem_whoD (k:=0) q.hs (by omega) hn)) (fc (by have z:=q.z; have z0:=hl 0 (by decide); have z1:=hl 1 (by decide); have z2:=hl 2 (by decide); have z3:=hl 3 (by decide); exact cm rfl [fun v=>isL v (q.s.ln 1)] [semA q.bs q.s] [1] [0,2] (fun w F ho hn hF=>sem_whoD (k:=1) q.hs (by omega) hn)) (fc (by have z:=q.z; have z0:=hl 0 (by decide); have z1:=hl 1 (by decide); have z2:=hl 2 (by decide); have z3:=hl 3 (by decide); exact cm rfl [fun v=>isL v (q.s.ln 2)] [semA q.bs q.s] [1] [0,2,3] (fun w F ho hn hF=>sem_whoD (k:=2) q.hs (by omega) hn)) (fc (by have z:=q.z; have z0:=hl 0 (by decide); have z1:=hl 1 (by decide); have z2:=hl 2 (by decide); have z3:=hl 3 (by decide); exact cm rfl [fun v=>isL v (q.s.ln 3)] [semA q.bs q.s] [1] [0,2,3,4] (fun w F ho hn hF=>sem_whoD (k:=3) q.hs (by omega) hn)) fn)))) rfl [(4,q.b10)] [(4,[sy 4,sy 5,.int .i64 0,.int .i64 1],31)] [(4,[sy 4,sy 5,.int .i64 0,.int .i64 1],31)] 4 rfl rfl [(2,sy 0),(7,sy 1),(10,.pointer (some ⟨4,0,none⟩)),(13,sy 2),(21,sy 3)] ot1a12 .normal).conv (fun κ w=>⟨(fun _ h=>h),(fun _ h=>Ev.undy (a:=fun v=>isL v (q.s.ln 3)) (fun _ _ _ _ _ h=>h) h),(fun _ h=>h),(fun _ h=>Ev.undy (a:=fun v=>isL v (q.s.ln 2)) (fun _ _ _ _ _ h=>h) h),(fun _ h=>Ev.undy (a:=fun v=>isL v (q.s.ln 1)) (fun _ _ _ _ _ h=>h) h),(fun _ h=>Ev.undy (a:=fun v=>isL v (q.s.ln 0)) (fun _ _ _ _ _ h=>h) h),(fun _ h=>h),trivial⟩)
theorem otI (q:AQ) : Ev.Pie Try.prog 3 [20,0] 3 1 170 ⟨q.W0,q.F0⟩ (ot1a14 q) (ot1a17 q) .normal (fun κ:Ev.Ren=>[(2,(q.lv)),(7,(iN (q.n))),(10,(pz q.b10)),(13,(iN ((q.i)+1)))]) (fun κ:Ev.Ren=>(ot1a17 q)):=(tr (c:=⟨q.W0,q.F0⟩) (kn [q.lv,iN (q.n),iN (q.i),pz q.bt,pz q.bs,iN ((q.i)+1)] (fc q.hl.leaf fr) [(.add,sy 2,.int .i64 1,sy 5)] [] [] (fc (fun _ _ _=>Ev.bt_add (by have z:=q.z; rw [wrap_ok (by omega) (by omega)]; omega)) fn) fn fn q.W0 q.F0 [(ot1a13 q)] [] []) fn fn rfl [(4,q.b10)] ot1a11 ot1a11 0 rfl rfl ot1a12 [(2,sy 0),(7,sy 1),(10,.pointer (some ⟨4,0,none⟩)),(13,sy 5)] .normal)
theorem otE (q:AQ) : Ev.PieE Try.prog 3 [] 11 170 ⟨q.W0,q.F0⟩ [] [] (fun κ:Ev.Ren=>(.bool true)) (fun κ:Ev.Ren=>[]):=(trE (c:=⟨q.W0,q.F0⟩) 2 (kn [] fn [] [] [] fn fn fn q.W0 q.F0 [[]] [] [⟨6,[],0,none,.bool true,none⟩]) fn (fc (pc rfl (fun w hb=>works_any w)) fn) rfl [] [] [] 0 rfl rfl [] (.bool true))
end Go.Proofs.Ytankbefdlbcdnaa
namespace Go.Proofs.Ytankbefdlbcdnaa
open Go.RowKit
open Go.Ev (iz iN pz)
set_option linter.unusedVariables false
set_option linter.unusedSimpArgs false
set_option maxRecDepth 8000
attribute [local irreducible] Ev.wpL
def stL (t:Tab) : List Int:=t.gs.map (fun p:Nat×Nat=>(p.1:Int))
theorem stL_len (t:Tab) : (stL t).length=t.gs.length:=by simp [stL]
theorem stL_at {t:Tab} {j a b:Nat} (h:t.gs[j]? = some (a,b)) : (stL t)[j]? = some (a:Int):=by
 unfold stL
 rw [List.getElem?_map,h]
 rfl
theorem stL_take {t:Tab} {j a b:Nat} (h:t.gs[j]? = some (a,b)) : (stL t).take (j+1)=(stL t).take j++[(a:Int)]:=by
 rw [List.take_add_one,stL_at h]
 rfl
abbrev MP (q:AQ) : Ev.Asr:=Ev.slA 35 1 (Ev.arrV q.b14 3) 3 q.mv.cells
abbrev WB (q:AQ) : Ev.Asr:=Ev.blkA q.b10 [(pz q.bt),(pz q.bs),(.int .i64 0),(.int .i64 1)] 31
abbrev T6 (q:AQ) (wv:Value) : List (Nat×Value):=[(2,q.lv),(7,iN q.n),(10,pz q.b10),(13,iN q.i),(14,Ev.ptrR (Ev.arrV q.b14 3) 0),(15,wv)]
theorem ot_stat (q:AQ) (hlen:q.t.gs.length=q.n) {A:Act} {w:World} {Q:Exit→Act→World→Prop} (h:Ev.At ⟨q.W0,q.F0⟩ 170 (T6 q (.slice none 0 0)++[(16,iN 0)]) [WB q,tabA q.bt q.t,semA q.bs q.s,MP q] A w)
  (H:∀ wv A1 w1,Ev.leafV wv=true→Ev.At ⟨q.W0,q.F0⟩ 170 (T6 q wv) [WB q,tabA q.bt q.t,semA q.bs q.s,MP q,Ev.slA 3 1 wv (stL q.t).length (ints (stL q.t))] A1 w1→Ev.wpL Try.prog (Ev.stm Try.prog 3 [20,0,4] 6) Q A1 w1) :
  Ev.wpL Try.prog (Ev.stm Try.prog 3 [20,0,4] 5) Q A w:=by
 have z:=q.z
 refine Ev.in_block (id:=2) (by kernel_rfl) ?_
 refine Ev.loop_st (by kernel_rfl) (fun (x:Nat×Value) A w'=>Ev.At ⟨q.W0,q.F0⟩ 170 (T6 q x.2++[(16,iN x.1)]) [WB q,tabA q.bt q.t,semA q.bs q.s,MP q,Ev.slA 3 1 x.2 ((stL q.t).take x.1).length (ints ((stL q.t).take x.1))] A w'∧x.1≤q.n) (fun x=>q.n - x.1) (x:=(0,.slice none 0 0)) ⟨h.to (fun q hq=>hq) (fun hh=>(hh.nilSl (e := 3) (sz:=1)).sel [1,2,3,4,0] (by kernel_rfl)),Nat.zero_le _⟩ ?_
 clear h A w
 rintro ⟨k,wv⟩ A w ⟨h1,hx⟩
 replace hx:k≤q.n:=hx
 dsimp only at h1
 have lwv:Ev.leafV wv=true:=hold_leaf (h1.hold.sel [4] (by kernel_rfl))
 have hll:((stL q.t).take k).length=k:=by rw [List.length_take,stL_len,hlen]; omega
 let p:AQ:={ q with k:=k,wv:=wv,lwv:=lwv,wl:=(stL q.t).take k,h:=⟨q.h.1,q.h.2.1,by omega,q.h.2.2.2⟩ }
 by_cases hk:k < q.n
 ·obtain ⟨a,b,hj⟩ : ∃ a b,q.t.gs[k]? = some (a,b):=⟨(q.t.gs[k]'(by omega)).1,(q.t.gs[k]'(by omega)).2,List.getElem?_eq_getElem _⟩
  let p1:AQ:={ p with a:=a,ab:=b }
  refine otsT p hk A w _ h1 ?_
  intro κ1 A1 w1 h2
  refine Ev.in_block (id:=3) (by kernel_rfl) ?_
  refine otsB p1 hj (by show ((stL q.t).take k).length≤12; omega) A1 w1 _ h2 ?_
  intro κ2 A2 w2 h3
  dsimp only at h3
  have lwv2:Ev.leafV (Ev.dv κ2 411)=true:=Ev.dec_leaf _
  generalize Ev.dv κ2 411=wv2 at h3 lwv2
  let p2:AQ:={ p with wv:=wv2,lwv:=lwv2,wl:=(stL q.t).take (k+1) }
  refine Ev.wpL_nil (by kernel_rfl) ?_
  have e1:ints ((stL q.t).take (k+1))=ints ((stL q.t).take k)++[iN a]:=by rw [stL_take hj]; simp [ints]
  have e2:((stL q.t).take (k+1)).length=((stL q.t).take k).length+1:=by rw [stL_take hj]; simp
  refine otsI p2 A2 w2 _ (h3.to (fun q hq=>hq) (fun hh=>?_)) ?_
  ·show Ev.Hold _ [_,_,_,_,Ev.slA 3 1 wv2 ((stL q.t).take (k+1)).length (ints ((stL q.t).take (k+1)))] w2
   rw [e1,e2]
   exact hh
  ·intro κ3 A3 w3 h4
   exact Ev.wpL_nil (by kernel_rfl) ⟨(k+1,wv2),⟨h4,by show k+1≤q.n; omega⟩,by show q.n - (k+1) < q.n - k; omega⟩
 ·refine otsF p hk A w _ h1 ?_
  intro κ1 A1 w1 h2
  have ek:(stL q.t).take k=stL q.t:=List.take_of_length_le (by rw [stL_len,hlen]; omega)
  refine H wv A1 w1 lwv (h2.to (fun q hq=>List.mem_append_left _ hq) (fun hh=>?_))
  rw [← ek]
  exact hh
abbrev T7 (q:AQ) (wc k:Nat) : List (Nat×Value):=[(2,q.lv),(7,iN q.n),(10,pz q.b10),(13,iN q.i),(14,Ev.ptrR (Ev.arrV q.b14 3) 0),(15,q.wv),(19,pz q.b19),(20,iz q.e),(21,iN wc),(22,iN k)]
abbrev P7 (q:AQ) : List Ev.Asr:=[WB q,Ev.blkA q.b19 [iz q.nx,iz q.x] 41,tabA q.bt q.t,semA q.bs q.s,MP q,Ev.slA 3 1 q.wv q.wl.length (ints q.wl)]
def isW (t:Tab) (j:Nat) : Bool:=(t.gs[j]?).map (·.1) == some 3
theorem isW_eq {t:Tab} {j a b:Nat} (h:t.gs[j]? = some (a,b)) : isW t j=decide (a=3):=by
 unfold isW
 rw [h]
 show (some a == some 3)=_
 by_cases q:a=3
 ·subst q; rfl
 ·rw [decide_eq_false q]
  simpa using q
theorem ot_chk (q:AQ) {m:Nat} {t0:Tab} (hI:Inv 4 q.n m q.t q.s) (h0:t0.gs.length=q.n) (hwl:q.wl=stL t0)
  (ho:∀ i a b c d:Nat,t0.gs[i]? = some (a,b)→q.t.gs[i]? = some (c,d)→c ≠ a→q.e=0∧((i:Int)=q.mv.g∨(i:Int)=q.x))
  {A:Act} {w:World} {Q:Exit→Act→World→Prop} (h:Ev.At ⟨q.W0,q.F0⟩ 170 (T7 q 0 0) (P7 q) A w)
  (H:∀ A1 w1,Ev.At ⟨q.W0,q.F0⟩ 170 (T7 q (cnt (isW q.t) q.n) q.n) (P7 q) A1 w1→Ev.wpL Try.prog (Ev.stm Try.prog 3 [20,0,4] 10) Q A1 w1) :
  Ev.wpL Try.prog (Ev.stm Try.prog 3 [20,0,4] 9) Q A w:=by
 have z:=q.z
 refine Ev.in_block (id:=4) (by kernel_rfl) ?_
 refine Ev.loop_st (by kernel_rfl) (fun (k:Nat) A w'=>Ev.At ⟨q.W0,q.F0⟩ 170 (T7 q (cnt (isW q.t) k) k) (P7 q) A w'∧k≤q.n) (fun k=>q.n - k) (x:=0) ⟨h,Nat.zero_le _⟩ ?_
 clear h A w
 rintro k A w ⟨h1,hx⟩
 have hc:=cnt_le (isW q.t) k
 let p:AQ:={ q with k:=k,wc:=cnt (isW q.t) k,h:=⟨q.h.1,q.h.2.1,by omega,q.h.2.2.2.1,by omega,q.h.2.2.2.2.2⟩ }
 by_cases hk:k < q.n
 ·have hl:=hI.len
  obtain ⟨a,b,hj⟩ : ∃ a b,q.t.gs[k]? = some (a,b):=⟨(q.t.gs[k]'(by omega)).1,(q.t.gs[k]'(by omega)).2,List.getElem?_eq_getElem _⟩
  obtain ⟨a0,b0,hj0⟩ : ∃ a b,t0.gs[k]? = some (a,b):=⟨(t0.gs[k]'(by omega)).1,(t0.gs[k]'(by omega)).2,List.getElem?_eq_getElem _⟩
  have hp:(ints q.wl)[k * 1]? = some (iN a0):=by
   rw [Nat.mul_one,hwl]
   unfold ints
   rw [List.getElem?_map,stL_at hj0]
   rfl
  have hwk:k < q.wl.length:=by rw [hwl,stL_len]; omega
  let p1:AQ:={ p with a:=a,ab:=b,p:=a0 }
  refine otcT p hk A w _ h1 ?_
  intro κ1 A1 w1 h2
  refine Ev.in_block (id:=5) (by kernel_rfl) ?_
  have step1:∀ {R:Exit→Act→World→Prop},(∀ A2 w2,Ev.At ⟨q.W0,q.F0⟩ 170 (T7 q (cnt (isW q.t) k) k++[(23,iN a)]) (P7 q) A2 w2→Ev.wpL Try.prog (Ev.stm Try.prog 3 [20,0,4,18,0,4] 3) R A2 w2)→Ev.wpL Try.prog (Ev.stm Try.prog 3 [20,0,4,18,0,4] 0) R A1 w1:=by
   intro R K
   by_cases e:a=a0
   ·exact otcS p1 hj hp hwk e A1 w1 _ h2 (fun κ A2 w2 h3=>K A2 w2 h3)
   ·obtain ⟨he,hg⟩:=ho k a0 b0 a b hj0 hj e
    by_cases eg:(k:Int)=q.mv.g
    ·exact otcG p1 hj hp hwk e he eg A1 w1 _ h2 (fun κ A2 w2 h3=>K A2 w2 h3)
    ·exact otcX p1 hj hp hwk e he eg (hg.resolve_left eg) A1 w1 _ h2 (fun κ A2 w2 h3=>K A2 w2 h3)
  refine step1 (fun A2 w2 h3=>?_)
  have hnn:0 < q.s.nn:=by rw [hI.nn.1]; decide
  have hcs:cnt (isW q.t) (k+1)=cnt (isW q.t) k+(if a=3 then 1 else 0):=by
   show cnt (isW q.t) k+(if isW q.t k=true then 1 else 0)=_
   rw [isW_eq hj]
   simp
  have step2:∀ {R:Exit→Act→World→Prop},(∀ A3 w3,Ev.At ⟨q.W0,q.F0⟩ 170 (T7 q (cnt (isW q.t) (k+1)) k) (P7 q) A3 w3→Ev.wpL Try.prog (Ev.stm Try.prog 3 [20,0,4,18,0,4] 8) R A3 w3)→Ev.wpL Try.prog (Ev.stm Try.prog 3 [20,0,4,18,0,4] 3) R A2 w2:=by
   intro R K
   rw [hcs] at K
   by_cases e:a=3
   ·obtain ⟨kk,hkk,hw⟩:=(hI.wt k a b hj).1 e
    rw [if_pos e] at K
    let p2:AQ:={ p1 with kk:=kk }
    exact otcW p2 hnn hw hkk e A2 w2 _ h3 (fun κ A3 w3 h4=>K A3 w3 (h4.to (fun q hq=>hq) (fun hh=>hh.sel [0,1,3,2,4,5] (by kernel_rfl))))
   ·rw [if_neg e] at K
    refine otcN p1 hnn (fun j hj4 hm=>e ((hI.wt k a b hj).2 ⟨j,hj4,hm⟩)) e A2 w2 _ h3 (fun κ A3 w3 h4=>K A3 w3 (h4.to (fun q hq=>hq) (fun hh=>hh.sel [0,1,3,2,4,5] (by kernel_rfl))))
  refine step2 (fun A3 w3 h4=>?_)
  have hc2:=cnt_le (isW q.t) (k+1)
  let p3:AQ:={ p with wc:=cnt (isW q.t) (k+1),h:=⟨q.h.1,q.h.2.1,by show k≤12; omega,q.h.2.2.2.1,by omega,q.h.2.2.2.2.2⟩ }
  refine Ev.wpL_nil (by kernel_rfl) ?_
  refine otcI p3 A3 w3 _ h4 ?_
  intro κ4 A4 w4 h5
  exact Ev.wpL_nil (by kernel_rfl) ⟨k+1,⟨h5,by omega⟩,by omega⟩
 ·refine otcF p hk A w _ h1 ?_
  intro κ1 A1 w1 h2
  obtain rfl:k=q.n:=by omega
  exact H A1 w1 h2
abbrev TI (q:AQ) (i:Nat) : List (Nat×Value):=[(2,q.lv),(7,iN q.n),(10,pz q.b10),(13,iN i)]
abbrev PI (q:AQ) (t:Tab) (s:Sem) : List Ev.Asr:=[WB q,tabA q.bt t,semA q.bs s]
theorem ot_rest (q:AQ) (hI:Inv 4 q.n q.m q.t q.s) {A:Act} {w:World} {Q:Exit→Act→World→Prop} (h:Ev.At ⟨q.W0,q.F0⟩ 170 (T6 q (.slice none 0 0)++[(16,iN 0)]) [WB q,tabA q.bt q.t,semA q.bs q.s,MP q] A w)
  (H:∀ t' s' A1 w1,Inv 4 q.n (q.m+1) t' s'→Ev.At ⟨q.W0,q.F0⟩ 170 (TI q q.i) (PI q t' s') A1 w1→Ev.wpL Try.prog (Ev.stm Try.prog 3 [20,0,4] 15) Q A1 w1) (hm:q.m≤190) :
  Ev.wpL Try.prog (Ev.stm Try.prog 3 [20,0,4] 5) Q A w:=by
 have z:=q.z
 refine ot_stat q hI.len h (fun wv A1 w1 lwv h1=>?_)
 let p:AQ:={ q with wv:=wv,lwv:=lwv,wl:=stL q.t }
 refine otD p hI A1 w1 _ h1 ?_
 intro κ A2 w2 h2
 dsimp only at h2
 generalize (κ 404).getD 0=b19 at h2
 have hI2:Inv 4 q.n (q.m+1) q.o.t q.o.s:=hI.dec (by omega)
 have hO:∀ i a b c d:Nat,q.t.gs[i]? = some (a,b)→q.o.t.gs[i]? = some (c,d)→c ≠ a→q.o.e=0∧((i:Int)=q.mv.g∨(i:Int)=q.o.x):=fun i a b c d h1 h2 h3=>hI.others (by omega) h1 h2 h3
 let r:AQ:={ p with t:=q.o.t,s:=q.o.s,ht:=hI2.tok (by omega) (by omega),hs:=hI2.sok (by omega) (by omega),b19:=b19,nx:=q.o.nx,x:=q.o.x,e:=q.o.e }
 refine ot_chk r (m:=q.m+1) (t0:=q.t) hI2 hI.len rfl hO (A:=A2) (w:=w2) (h2.to (fun q hq=>hq) (fun hh=>hh)) (fun A3 w3 h3=>?_)
 have hall:=hI2.all
 have hc:cnt (isW q.o.t) q.n≤q.n:=cnt_le _ _
 let r2:AQ:={ r with wc:=cnt (isW q.o.t) q.n,h:=⟨q.h.1,q.h.2.1,q.h.2.2.1,q.h.2.2.2.1,by omega,q.h.2.2.2.2.2⟩ }
 refine otW r2 hI2.nn.1 (fun k hk=>by have:=hI2.ll hk; show (q.o.s.ln k).length≤12; omega) hall A3 w3 _ (h3.to (fun p hp=>?_) (fun hh=>hh.sel [0,2,3] (by kernel_rfl))) ?_
 ·simp only [List.mem_cons,List.not_mem_nil,or_false] at hp
  rcases hp with rfl | rfl | rfl | rfl | rfl
  ·exact List.mem_of_getElem? (i:=0) rfl
  ·exact List.mem_of_getElem? (i:=1) rfl
  ·exact List.mem_of_getElem? (i:=2) rfl
  ·exact List.mem_of_getElem? (i:=3) rfl
  ·exact List.mem_of_getElem? (i:=8) rfl
 intro κ3 A4 w4 h4
 exact H q.o.t q.o.s A4 w4 hI2 (h4.to (fun q hq=>hq) (fun hh=>hh.sel [0,6,2] (by kernel_rfl)))
theorem actOthers_walk (w:World) (lv:Value) (ls:List MoveS) (hl:Ev.SlR 3 lv ls.length (ls.flatMap MoveS.cells) w) (z0 c0:Nat) (hz:z0 < 256) (hc0:c0 < 256) :
  Calls Try.prog 3 #[.int .u8 (z0:Int),.int .u8 (c0:Int),lv] w fun e w'=>e=.returned (.bool true)∧Below w.heap.size w w':=by
 let n:=1+z0 % 12
 let c:=c0 % 3
 have hn:1≤n∧n≤12:=by show 1≤1+z0 % 12∧1+z0 % 12≤12; omega
 have hc:c≤2:=by show c0 % 3≤2; omega
 have hI0:Inv 4 n 1 ((tab0 n).make 0) (sem4 c):=Inv.start hn.2 hc (by omega)
 let q0:AQ:=⟨w,fun _=>False,lv,ls,hl,Ev.offNone _,z0,c0,n,c,⟨rfl,rfl⟩,0,0,(tab0 n).make 0,sem4 c,hI0.tok hn.2 (by decide),hI0.sok hn.2 (by decide),0,0,0,0,0,0,⟨0,0,false,by decide⟩,.slice none 0 0,rfl,[],0,0,0,0,0,0,0,0,⟨hn,by decide,by decide,by decide,by decide,hz,hc0⟩⟩
 have fin:∀ w1,Ev.Hold ⟨w,fun _=>False⟩ [] w1→Below w.heap.size w w1:=fun w1 h=>h.below (fun _ h=>h)
 by_cases hll:100 < ls.length
 ·exact startP (otL q0 hll) (by kernel_rfl) (Ev.now_nil w) (by simp) (by simp [q0]) (fun κ w1 hh=>⟨rfl,fin _ hh⟩)
 refine Ev.con_start (N:=170) (tm:=[(0,.int .u8 (z0:Int)),(1,.int .u8 (c0:Int)),(2,lv)]) (by kernel_rfl) (Ev.now_nil w) (by simp) (by simp) (fun A hA=>?_)
 refine otA q0 (by show ls.length≤100; omega) A w _ hA ?_
 intro κ A1 w1 h1
 dsimp only at h1
 generalize (κ 408).getD 0=b10 at h1
 obtain ⟨bt,e1,k1⟩:=hold_tab (h1.hold.sel [1,2,0] (by kernel_rfl))
 obtain ⟨bs,e2,k2⟩:=hold_sem (k1.sel [1,2,0] (by kernel_rfl))
 let q1:AQ:={ q0 with b10:=b10,bt:=bt,bs:=bs }
 have h2:Ev.At ⟨w,fun _=>False⟩ 170 (TI q1 0) (PI q1 ((tab0 n).make 0) (sem4 c)) A1 w1:=h1.to (fun q hq=>hq) (fun _=>by
  have k3:=k2.sel [1,2,0] (by kernel_rfl)
  rw [e1,e2] at k3
  exact k3)
 clear h1 k1 k2 hA
 refine Ev.in_block (id:=0) (by kernel_rfl) ?_
 refine Ev.loop_st (by kernel_rfl) (fun (x:Nat×Tab×Sem) A w'=>Ev.At ⟨w,fun _=>False⟩ 170 (TI q1 x.1) (PI q1 x.2.1 x.2.2) A w'∧Inv 4 n (1+x.1) x.2.1 x.2.2∧x.1≤ls.length) (fun x=>ls.length - x.1) (x:=(0,(tab0 n).make 0,sem4 c)) ⟨h2,hI0,Nat.zero_le _⟩ ?_
 clear h2 A1 w1
 rintro ⟨i,t,s⟩ A1 w1 ⟨h1,hI,hx⟩
 dsimp only at h1 hI hx
 let q:AQ:={ q1 with t:=t,s:=s,ht:=hI.tok hn.2 (by omega),hs:=hI.sok hn.2 (by omega),i:=i,m:=1+i,h:=⟨hn,by show i≤100; omega,Nat.zero_le _,by show 1+i≤200; omega,Nat.zero_le _,hz,hc0⟩ }
 by_cases hi:i < ls.length
 ·refine otT q hi A1 w1 _ h1 ?_
  intro κ2 A2 w2 h2
  refine Ev.in_block (id:=1) (by kernel_rfl) ?_
  let mv:=ls[i]
  have hmv:ls[i]? = some mv:=List.getElem?_eq_getElem hi
  have step:∀ {R:Exit→Act→World→Prop},(∀ t' s' A3 w3,Inv 4 n (1+i+1) t' s'→Ev.At ⟨w,fun _=>False⟩ 170 (TI q1 i) (PI q1 t' s') A3 w3→Ev.wpL Try.prog (Ev.stm Try.prog 3 [20,0,4] 15) R A3 w3)→Ev.wpL Try.prog (Ev.stm Try.prog 3 [20,0,4] 0) R A2 w2:=by
   intro R K
   let p:AQ:={ q with mv:=mv }
   cases hgo:mv.go with
   | true =>
    refine otMt p hmv hgo hi A2 w2 _ h2 ?_
    intro κ3 A3 w3 h3
    dsimp only at h3
    generalize (κ3 400).getD 0=b14 at h3
    have hI3:Inv 4 n (1+i) (t.setG mv.g 2) s:=hI.setG mv.g
    let p3:AQ:={ p with b14:=b14,t:=t.setG mv.g 2,ht:=hI3.tok hn.2 (by omega),hs:=hI3.sok hn.2 (by omega) }
    refine ot_rest p3 hI3 (A:=A3) (w:=w3) (h3.to (fun q hq=>hq) (fun hh=>?_)) (fun t' s' A4 w4 hI4 h4=>K t' s' A4 w4 hI4 h4) (by show 1+i≤190; omega)
    have:=(hold_arr (hh.sel [1,0,2,3] (by kernel_rfl))).sel [1,2,3,0] (by kernel_rfl)
    show Ev.Hold _ [_,_,_,Ev.slA 35 1 (Ev.arrV b14 3) 3 [iz mv.g,.int .u8 (mv.b:Int),.bool mv.go]] w3
    rw [hgo]
    exact this
   | false =>
    refine otMf p hmv hgo hi A2 w2 _ h2 ?_
    intro κ3 A3 w3 h3
    dsimp only at h3
    generalize (κ3 400).getD 0=b14 at h3
    let p3:AQ:={ p with b14:=b14 }
    refine ot_rest p3 hI (A:=A3) (w:=w3) (h3.to (fun q hq=>hq) (fun hh=>?_)) (fun t' s' A4 w4 hI4 h4=>K t' s' A4 w4 hI4 h4) (by show 1+i≤190; omega)
    have:=(hold_arr (hh.sel [1,0,2,3] (by kernel_rfl))).sel [1,2,3,0] (by kernel_rfl)
    show Ev.Hold _ [_,_,_,Ev.slA 35 1 (Ev.arrV b14 3) 3 [iz mv.g,.int .u8 (mv.b:Int),.bool mv.go]] w3
    rw [hgo]
    exact this
  refine step (fun t' s' A3 w3 hI3 h3=>?_)
  let p:AQ:={ q with t:=t',s:=s',ht:=hI3.tok hn.2 (by omega),hs:=hI3.sok hn.2 (by omega) }
  refine Ev.wpL_nil (by kernel_rfl) ?_
  refine otI p A3 w3 _ h3 ?_
  intro κ4 A4 w4 h4
  exact Ev.wpL_nil (by kernel_rfl) ⟨(i+1,t',s'),⟨h4,by rw [← Nat.add_assoc]; exact hI3,by show i+1≤ls.length; omega⟩,by show ls.length - (i+1) < ls.length - i; omega⟩
 ·refine otF q hi A1 w1 _ h1 ?_
  intro κ2 A2 w2 h2
  refine otE q A2 w2 _ (h2.to (fun q hq=>by cases hq) (fun hh=>hh.sel [] (by kernel_rfl))) ?_
  intro κ3 w3 h3
  exact ⟨rfl,fin _ h3⟩
end Go.Proofs.Ytankbefdlbcdnaa
namespace Go.Proofs.Ytankbefdlbcdnaa
open Go.ChangeShapes Go.WideShapes Go.ChangeAt Go.RowKit Go.Deep
set_option linter.unusedVariables false
section
variable {H:Type} {enc:TypeId×Value→H} {P:Program}
theorem trodAll_below (hl:laidOutB P=true) {W W':World} (hb:Below W.heap.size W W') : ∀ (ts:List TypeId) (vs:List Value) (ds:List (DataW H)) (ps:List MemPlace),
  DataW.TrodAll enc P W 0 (fun _=>true) true ts vs ds ps→(∀ t ∈ ts,P.readableRec t=true∧t < P.types.size)→(∀ x ∈ ps,x.block < W.heap.size) →
  DataW.TrodAll enc P W' 0 (fun b=>decide (b < W.heap.size)) true ts vs ds ps:=by
 intro ts
 induction ts with
 | nil =>
  intro vs ds ps h _ _
  obtain ⟨rfl,rfl,rfl⟩:=trodAll_nil h
  exact trodAll_mk0
 | cons t ts ih =>
  intro vs ds ps h hr hlt
  obtain ⟨v,vs',d,ds',p,q,rfl,rfl,rfl,h1,h2⟩:=trodAll_cons h
  exact trodAll_cons_mk ((hb.trod hl (hr t (List.mem_cons_self ..)).1 (hr t (List.mem_cons_self ..)).2 h1 (fun x hx=>hlt x (List.mem_append_left _ hx))))
   (ih vs' ds' q h2 (fun t' ht'=>hr t' (List.mem_cons_of_mem _ ht')) (fun x hx=>hlt x (List.mem_append_right _ hx)))
theorem law_post {f:Func} {s:ChangeSpec} {W W':World} {args:Array Value} {ds gs:List (DataW H)} {before:List MemPlace} {tb:TypeId} (hl:laidOutB P=true)
  (hW:DataW.Whole enc P f.params.toList s.vars false W args.toList ds gs before) (hvars:s.vars=[]) (hres:f.resultTypes = #[tb]) (hbool:P.underlying tb=some .bool)
  (hfn:s.fn H ds = { results:=[.lit (.bool true)],args:=ds }) (hread:∀ t ∈ f.params.toList,P.readableRec t=true∧t < P.types.size) (hb:Below W.heap.size W W') :
  s.post enc P f false true false false W args (.bool true) W':=by
 have hW0:=hW
 obtain ⟨p,q,hA,hV,hpq,hz,hn⟩:=hW
 rw [hvars] at hV
 obtain ⟨rfl,rfl⟩:=trodVars_none hV
 have hlt:∀ x ∈ before,x.block < W.heap.size:=fun x hx=>hW0.lt x hx
 have hpl:before=p:=by rw [hpq,List.append_nil]
 refine ⟨ds,[],before,[],p,[],hW0,?_,?_,?_,?_,fun h=>by cases h⟩
 ·rw [List.append_nil,hfn,hres]
  exact trodAll_mk1 (shut_bool hbool true)
 ·rw [List.append_nil,hfn]
  exact trodAll_below hl hb _ _ _ _ hA hread (fun x hx=>hlt x (by rw [hpl]; exact hx))
 ·rw [hvars,List.append_nil,hfn]
  rfl
 ·exact World.keptBut_mono (fun x hx=>⟨hx,.inr (.inl (by rw [hpl] at hx; exact hx))⟩) (hb.frame (· ∈ before))
end
end Go.Proofs.Ytankbefdlbcdnaa
