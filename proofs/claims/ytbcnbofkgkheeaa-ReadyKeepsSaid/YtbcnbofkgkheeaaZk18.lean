/- Part of a proof: see the last text. -/
import Derived.Test.YtbcnbofkgkheeaaZk17
namespace Go.Proofs.Ytbcnbofkgkheeaa
open Go.RowKit
open Go.Ev (sy iz uz wz iN uN wN pz dv fc fn ak vk vd kn pc cc cr cm cd fr)
set_option linter.unusedVariables false
set_option linter.unusedSimpArgs false
set_option maxRecDepth 8000
attribute [local irreducible] Ev.wpL
theorem put_step_t {w:World} {F:Nat→Prop} {c:Cfg} {p:Nat} (hp:p < c.n) {x:PutS} (hx:PutOk c x) (h0:x.st ≠ 0) {m:MemM} (hm:MemOk c m) {bp bm:Nat} (hst:(putStep c p x m).1.st=0) (h:Ev.Now [putA c p bp x,memA bm m] F w) :
  Calls Try.prog 98 #[.pointer (some ⟨bp,0,none⟩),.pointer (some ⟨bm,0,none⟩)] w fun e w'=>e=.returned (.bool true)∧Ev.Hold ⟨w,F⟩ [putA c p bp (putStep c p x m).1,memA bm (putStep c p x m).2] w':=by
 have:=put_step hp hx h0 hm h
 rw [decide_eq_true hst] at this
 exact this
theorem put_step_f {w:World} {F:Nat→Prop} {c:Cfg} {p:Nat} (hp:p < c.n) {x:PutS} (hx:PutOk c x) (h0:x.st ≠ 0) {m:MemM} (hm:MemOk c m) {bp bm:Nat} (hst:(putStep c p x m).1.st ≠ 0) (h:Ev.Now [putA c p bp x,memA bm m] F w) :
  Calls Try.prog 98 #[.pointer (some ⟨bp,0,none⟩),.pointer (some ⟨bm,0,none⟩)] w fun e w'=>e=.returned (.bool false)∧Ev.Hold ⟨w,F⟩ [putA c p bp (putStep c p x m).1,memA bm (putStep c p x m).2] w':=by
 have:=put_step hp hx h0 hm h
 rw [decide_eq_false hst] at this
 exact this
structure KP where
 W0:World
 F0:Nat→Prop
 c:Cfg
 p:Nat
 hp:p < c.n
 nx:Int
 was:Int
 hw:U64 was
 g:Int
 bx:Nat
 bm:Nat
 m:MemM
 hl:m.cells.length=4+c.off c.n
abbrev ki1a0:List Ev.Blk:=[(4,[sy 0,sy 1,sy 2,sy 3,sy 4,sy 5,sy 6,sy 7,.bool true,.int .i64 1,sy 8,.pointer none],95)]
abbrev ki1a2:List (Nat×Value):=[(0,.pointer (some ⟨4,0,none⟩)),(1,sy 9)]
abbrev ki1a3 (s:KP) : List (Nat×Value):=[(0,(pz s.bx)),(1,(pz s.bm))]
abbrev ki1a6 (s:KP) : List Ev.Asr:=[Ev.blkA s.bx [(iN (s.c.n)),(iN (s.c.q)),(iz (s.c.g)),(iz (s.c.m)),(iz (s.c.t)),(iz (s.c.s)),(iN (s.p)),(uz (s.nx)),(.bool true),(.int .i64 1),(uz (s.was)),(.pointer none)] 95,memA s.bm s.m]
abbrev ki1a17 (s:KP) : Ev.Asr:=memA s.bm (s.m.put ((s.c.word s.p+1)) (s.nx))
abbrev ki1a18 (s:KP) : List Ev.Asr:=[(ki1a17 s)]
abbrev ki1a25:List Ev.Blk:=[(4,[sy 2,sy 3,sy 4,sy 5,sy 6,sy 7,sy 8,sy 9,.bool true,.int .i64 2,sy 0,.pointer none],95)]
abbrev ki1a27:List (Nat×Value):=[(0,.pointer (some ⟨4,0,none⟩)),(1,sy 10)]
abbrev ki1a30 (s:KP) : List Ev.Asr:=[Ev.blkA s.bx [(iN (s.c.n)),(iN (s.c.q)),(iz (s.c.g)),(iz (s.c.m)),(iz (s.c.t)),(iz (s.c.s)),(iN (s.p)),(uz (s.nx)),(.bool true),(.int .i64 2),(uz (s.was)),(.pointer none)] 95,memA s.bm s.m]
abbrev ki1a33 (s:KP) : List Value:=[(iN (s.c.n)),(iN (s.c.q)),(iz (s.c.g)),(iz (s.c.m)),(iz (s.c.t)),(iz (s.c.s)),(iN (s.p)),(.int .i64 0),(.int .u64 0),(.int .u32 0),(iz (IntKind.i64.wrap (s.was - 1))),(.slice none 0 0),(.slice none 0 0)]
abbrev ki1a34:List Ev.Blk:=[(4,[sy 1,sy 2,sy 3,sy 4,sy 5,sy 6,sy 7,sy 8,.bool true,.int .i64 3,sy 9,sy 0],95)]
abbrev ki1a37 (s:KP) (bp:Nat) (x:PutS) : Ev.Asr:=putA s.c s.p bp (putStep s.c s.p x s.m).1
abbrev ki1a38 (s:KP) (x:PutS) : Ev.Asr:=memA s.bm ((putStep s.c s.p x s.m).2)
abbrev ki1a39 (s:KP) (bp:Nat) (x:PutS) : List Ev.Asr:=[(ki1a37 s bp x),(ki1a38 s x)]
abbrev ki1a41 (s:KP) (bp:Nat) : Ev.Asr:=Ev.blkA s.bx [(iN (s.c.n)),(iN (s.c.q)),(iz (s.c.g)),(iz (s.c.m)),(iz (s.c.t)),(iz (s.c.s)),(iN (s.p)),(uz (s.nx)),(.bool true),(.int .i64 3),(uz (s.was)),(pz bp)] 95
abbrev ki1a42 (s:KP) (bp:Nat) (x:PutS) : List Ev.Asr:=[(ki1a41 s bp),memA s.bm s.m,putA s.c s.p bp x]
abbrev ki1a63:List Ev.Blk:=[(4,[sy 2,sy 3,sy 4,sy 5,sy 6,sy 7,sy 8,sy 9,.bool false,.int .i64 2,sy 0,.pointer none,sy 10],91)]
abbrev ki1a65:List (Nat×Value):=[(0,.pointer (some ⟨4,0,none⟩)),(1,sy 11)]
abbrev ki1a68 (s:KP) : List Ev.Asr:=[Ev.blkA s.bx [(iN (s.c.n)),(iN (s.c.q)),(iz (s.c.g)),(iz (s.c.m)),(iz (s.c.t)),(iz (s.c.s)),(iN (s.p)),(uz (s.nx)),(.bool false),(.int .i64 2),(uz (s.was)),(.pointer none),(iz (s.g))] 91,memA s.bm s.m]
abbrev ki1a70:List Ev.Blk:=[(4,[sy 1,sy 2,sy 3,sy 4,sy 5,sy 6,sy 7,sy 8,.bool false,.int .i64 3,sy 9,sy 0,sy 10],91)]
abbrev ki1a73 (s:KP) (bp:Nat) : Ev.Asr:=Ev.blkA s.bx [(iN (s.c.n)),(iN (s.c.q)),(iz (s.c.g)),(iz (s.c.m)),(iz (s.c.t)),(iz (s.c.s)),(iN (s.p)),(uz (s.nx)),(.bool false),(.int .i64 3),(uz (s.was)),(pz bp),(iz (s.g))] 91
abbrev ki1a74 (s:KP) (bp:Nat) (x:PutS) : List Ev.Asr:=[(ki1a73 s bp),memA s.bm s.m,putA s.c s.p bp x]
theorem kdA (s:KP) (x:Int) (hxu:U64 x) (hxa:s.m.cells[s.c.word s.p+1]? = some x) (h1:(x)=0) : Ev.PieE Try.prog 122 [] 0 14 ⟨s.W0,s.F0⟩ (ki1a3 s) (ki1a6 s) (fun κ:Ev.Ren=>(.bool true)) (fun κ:Ev.Ren=>[Ev.blkA s.bx [(iN (s.c.n)),(iN (s.c.q)),(iz (s.c.g)),(iz (s.c.m)),(iz (s.c.t)),(iz (s.c.s)),(iN (s.p)),(uz (s.nx)),(.bool true),(.int .i64 0),(uz (x)),(.pointer none)] 95,memA s.bm s.m.tick]):=(trE (c:=⟨s.W0,s.F0⟩) 3 (kn [iN (s.c.n),iN (s.c.q),iz (s.c.g),iz (s.c.m),iz (s.c.t),iz (s.c.s),iN (s.p),uz (s.nx),uz (s.was),pz s.bm,iN (s.c.word s.p+1),uz (x)] fr [(.eql,sy 11,.int .u64 0,.bool true)] [] [] (fc (fun _ _ _=>Ev.bt_eql (by have q0:=s.c.z s.hp; have q6:=s.hl; first | (simpa using h1) | (simp; omega))) fn) fn fn s.W0 s.F0 [[memA s.bm s.m],[memA s.bm s.m.tick]] [] [⟨13,[.agg #[sy 0,sy 1,sy 2,sy 3,sy 4,sy 5],sy 6],0,none,sy 10,none⟩,⟨12,[sy 9,sy 10],0,none,sy 11,some 1⟩]) fn (fc (pc rfl (fun w hb=>next_ok s.c s.p s.hp w)) (fc (cc rfl [memA s.bm s.m.tick] [0] [] (fun w F ho hn hF=>mem_loadH hn hxa (mem_bd hxa (by have q0:=s.c.z s.hp; have q6:=s.hl; omega)))) fn)) rfl [(4,s.bx)] ki1a0 [(4,[sy 0,sy 1,sy 2,sy 3,sy 4,sy 5,sy 6,sy 7,.bool true,.int .i64 0,sy 11,.pointer none],95)] 1 rfl rfl ki1a2 (.bool true))
theorem kdB (s:KP) (x:Int) (hxu:U64 x) (hxa:s.m.cells[s.c.word s.p+1]? = some x) (h1:¬ (x)=0) : Ev.PieE Try.prog 122 [] 0 14 ⟨s.W0,s.F0⟩ (ki1a3 s) (ki1a6 s) (fun κ:Ev.Ren=>(.bool false)) (fun κ:Ev.Ren=>[Ev.blkA s.bx [(iN (s.c.n)),(iN (s.c.q)),(iz (s.c.g)),(iz (s.c.m)),(iz (s.c.t)),(iz (s.c.s)),(iN (s.p)),(uz (s.nx)),(.bool true),(.int .i64 2),(uz (x)),(.pointer none)] 95,memA s.bm s.m.tick]):=(trE (c:=⟨s.W0,s.F0⟩) 3 (kn [iN (s.c.n),iN (s.c.q),iz (s.c.g),iz (s.c.m),iz (s.c.t),iz (s.c.s),iN (s.p),uz (s.nx),uz (s.was),pz s.bm,iN (s.c.word s.p+1),uz (x)] fr [(.eql,sy 11,.int .u64 0,.bool false)] [] [] (fc (fun _ _ _=>Ev.bt_eql (by have q0:=s.c.z s.hp; have q6:=s.hl; first | (simpa using h1) | (simp; omega))) fn) fn fn s.W0 s.F0 [[memA s.bm s.m],[memA s.bm s.m.tick]] [] [⟨13,[.agg #[sy 0,sy 1,sy 2,sy 3,sy 4,sy 5],sy 6],0,none,sy 10,none⟩,⟨12,[sy 9,sy 10],0,none,sy 11,some 1⟩]) fn (fc (pc rfl (fun w hb=>next_ok s.c s.p s.hp w)) (fc (cc rfl [memA s.bm s.m.tick] [0] [] (fun w F ho hn hF=>mem_loadH hn hxa (mem_bd hxa (by have q0:=s.c.z s.hp; have q6:=s.hl; omega)))) fn)) rfl [(4,s.bx)] ki1a0 [(4,[sy 0,sy 1,sy 2,sy 3,sy 4,sy 5,sy 6,sy 7,.bool true,.int .i64 2,sy 11,.pointer none],95)] 1 rfl rfl ki1a2 (.bool false))
theorem kdC (s:KP) : Ev.PieE Try.prog 122 [] 0 14 ⟨s.W0,s.F0⟩ (ki1a3 s) [Ev.blkA s.bx [(iN (s.c.n)),(iN (s.c.q)),(iz (s.c.g)),(iz (s.c.m)),(iz (s.c.t)),(iz (s.c.s)),(iN (s.p)),(uz (s.nx)),(.bool true),(.int .i64 2),(.int .u64 0),(.pointer none)] 95,memA s.bm s.m] (fun κ:Ev.Ren=>(.bool true)) (fun κ:Ev.Ren=>[Ev.blkA s.bx [(iN (s.c.n)),(iN (s.c.q)),(iz (s.c.g)),(iz (s.c.m)),(iz (s.c.t)),(iz (s.c.s)),(iN (s.p)),(uz (s.nx)),(.bool true),(.int .i64 0),(.int .u64 0),(.pointer none)] 95,(ki1a17 s)]):=(trE (c:=⟨s.W0,s.F0⟩) 3 (kn [iN (s.c.n),iN (s.c.q),iz (s.c.g),iz (s.c.m),iz (s.c.t),iz (s.c.s),iN (s.p),uz (s.nx),pz s.bm,iN (s.c.word s.p+1)] fr [] [] [] fn fn fn s.W0 s.F0 [[memA s.bm s.m],(ki1a18 s)] [] [⟨13,[.agg #[sy 0,sy 1,sy 2,sy 3,sy 4,sy 5],sy 6],0,none,sy 9,none⟩,⟨25,[sy 8,sy 9,sy 7],0,none,.tuple #[],some 1⟩]) fn (fc (pc rfl (fun w hb=>next_ok s.c s.p s.hp w)) (fc (cc rfl [memA s.bm (s.m.put ((s.c.word s.p+1)) (s.nx))] [0] [] (fun w F ho hn hF=>mem_storeH hn (by have q0:=s.c.z s.hp; have q6:=s.hl; omega) (by have q0:=s.c.z s.hp; have q6:=s.hl; omega) (s.nx))) fn)) rfl [(4,s.bx)] [(4,[sy 0,sy 1,sy 2,sy 3,sy 4,sy 5,sy 6,sy 7,.bool true,.int .i64 2,.int .u64 0,.pointer none],95)] [(4,[sy 0,sy 1,sy 2,sy 3,sy 4,sy 5,sy 6,sy 7,.bool true,.int .i64 0,.int .u64 0,.pointer none],95)] 1 rfl rfl [(0,.pointer (some ⟨4,0,none⟩)),(1,sy 8)] (.bool true))
theorem kdD (s:KP) (hw0:s.was ≠ 0) (hg:0≤IntKind.i64.wrap (s.was - 1)) : Ev.PieE Try.prog 122 [] 0 14 ⟨s.W0,s.F0⟩ (ki1a3 s) (ki1a30 s) (fun κ:Ev.Ren=>(.bool false)) (fun κ:Ev.Ren=>[Ev.blkA s.bx [(iN (s.c.n)),(iN (s.c.q)),(iz (s.c.g)),(iz (s.c.m)),(iz (s.c.t)),(iz (s.c.s)),(iN (s.p)),(uz (s.nx)),(.bool true),(.int .i64 3),(uz (s.was)),(pz ((κ 424).getD 0))] 95,Ev.blkA ((κ 424).getD 0) [(iN (s.c.n)),(iN (s.c.q)),(iz (s.c.g)),(iz (s.c.m)),(iz (s.c.t)),(iz (s.c.s)),(iN (s.p)),(.int .i64 1),(.int .u64 0),(.int .u32 0),(iz (IntKind.i64.wrap (s.was - 1))),(.slice none 0 0),(.slice (some ⟨((κ 428).getD 0),0,none⟩) 1 1)] 122,Ev.blkA ((κ 428).getD 0) [(iz (IntKind.i64.wrap (s.was - 1)))] 3,(ki1a17 s)]):=(trE (c:=⟨s.W0,s.F0⟩) 3 (kn [uz (s.was),uz (s.was - 1),iN (s.c.n),iN (s.c.q),iz (s.c.g),iz (s.c.m),iz (s.c.t),iz (s.c.s),iN (s.p),uz (s.nx),pz s.bm,iN (s.c.word s.p+1),iz (IntKind.i64.wrap (s.was - 1)),iN (s.c.word s.p)] fr [(.eql,sy 0,.int .u64 0,.bool false),(.sub,sy 0,.int .u64 1,sy 1),(.geq,sy 13,.int .i64 0,.bool true),(.lss,sy 12,.int .i64 0,.bool false)] [] [(.i64,sy 1,sy 12)] (fc (fun _ _ _=>Ev.bt_eql (by have q0:=s.c.z s.hp; have q6:=s.hl; first | (simp; done) | (simp; omega))) (fc (fun _ _ _=>Ev.bt_sub (wrapU (by have:=s.hw; unfold U64 at this; omega) (by have:=s.hw; unfold U64 at this; omega))) (fc (fun _ _ _=>Ev.bt_geq (by have q0:=s.c.z s.hp; have q6:=s.hl; first | (simp; done) | (simp; omega))) (fc (fun _ _ _=>Ev.bt_lss (by have q0:=s.c.z s.hp; have q6:=s.hl; first | (simp; done) | (simp; omega))) fn)))) fn (fc ⟨.u64,_,rfl,rfl⟩ fn) s.W0 s.F0 [[memA s.bm s.m],(ki1a18 s)] [] [⟨13,[.agg #[sy 2,sy 3,sy 4,sy 5,sy 6,sy 7],sy 8],0,none,sy 11,none⟩,⟨25,[sy 10,sy 11,sy 9],0,none,.tuple #[],some 1⟩,⟨26,[.agg #[sy 2,sy 3,sy 4,sy 5,sy 6,sy 7],sy 8],1,none,sy 13,none⟩]) fn (fc (pc rfl (fun w hb=>next_ok s.c s.p s.hp w)) (fc (cc rfl [memA s.bm (s.m.put ((s.c.word s.p+1)) (s.nx))] [0] [] (fun w F ho hn hF=>mem_storeH hn (by have q0:=s.c.z s.hp; have q6:=s.hl; omega) (by have q0:=s.c.z s.hp; have q6:=s.hl; omega) (s.nx))) (fc (pc rfl (fun w hb=>word_ok s.c s.p s.hp w)) fn))) rfl [(4,s.bx)] ki1a25 [(4,[sy 2,sy 3,sy 4,sy 5,sy 6,sy 7,sy 8,sy 9,.bool true,.int .i64 3,sy 0,.pointer (some ⟨424,0,none⟩)],95),(424,[sy 2,sy 3,sy 4,sy 5,sy 6,sy 7,sy 8,.int .i64 1,.int .u64 0,.int .u32 0,sy 12,.slice none 0 0,.slice (some ⟨428,0,none⟩) 1 1],122),(428,[sy 12],3)] 1 rfl rfl ki1a27 (.bool false))
theorem kdE (s:KP) (hw0:s.was ≠ 0) (hg:¬ 0≤IntKind.i64.wrap (s.was - 1)) : Ev.PieE Try.prog 122 [] 0 14 ⟨s.W0,s.F0⟩ (ki1a3 s) (ki1a30 s) (fun κ:Ev.Ren=>(.bool true)) (fun κ:Ev.Ren=>[Ev.blkA s.bx [(iN (s.c.n)),(iN (s.c.q)),(iz (s.c.g)),(iz (s.c.m)),(iz (s.c.t)),(iz (s.c.s)),(iN (s.p)),(uz (s.nx)),(.bool true),(.int .i64 0),(uz (s.was)),(pz ((κ 424).getD 0))] 95,Ev.blkA ((κ 424).getD 0) (ki1a33 s) 122,(ki1a17 s)]):=(trE (c:=⟨s.W0,s.F0⟩) 3 (kn [uz (s.was),uz (s.was - 1),iN (s.c.n),iN (s.c.q),iz (s.c.g),iz (s.c.m),iz (s.c.t),iz (s.c.s),iN (s.p),uz (s.nx),pz s.bm,iN (s.c.word s.p+1),iz (IntKind.i64.wrap (s.was - 1)),iN (s.c.word s.p)] fr [(.eql,sy 0,.int .u64 0,.bool false),(.sub,sy 0,.int .u64 1,sy 1),(.geq,sy 13,.int .i64 0,.bool true),(.lss,sy 12,.int .i64 0,.bool true)] [] [(.i64,sy 1,sy 12)] (fc (fun _ _ _=>Ev.bt_eql (by have q0:=s.c.z s.hp; have q6:=s.hl; first | (simp; done) | (simp; omega))) (fc (fun _ _ _=>Ev.bt_sub (wrapU (by have:=s.hw; unfold U64 at this; omega) (by have:=s.hw; unfold U64 at this; omega))) (fc (fun _ _ _=>Ev.bt_geq (by have q0:=s.c.z s.hp; have q6:=s.hl; first | (simp; done) | (simp; omega))) (fc (fun _ _ _=>Ev.bt_lss (by have q0:=s.c.z s.hp; have q6:=s.hl; first | (simp; done) | (simp; omega))) fn)))) fn (fc ⟨.u64,_,rfl,rfl⟩ fn) s.W0 s.F0 [[memA s.bm s.m],(ki1a18 s)] [] [⟨13,[.agg #[sy 2,sy 3,sy 4,sy 5,sy 6,sy 7],sy 8],0,none,sy 11,none⟩,⟨25,[sy 10,sy 11,sy 9],0,none,.tuple #[],some 1⟩,⟨26,[.agg #[sy 2,sy 3,sy 4,sy 5,sy 6,sy 7],sy 8],1,none,sy 13,none⟩]) fn (fc (pc rfl (fun w hb=>next_ok s.c s.p s.hp w)) (fc (cc rfl [memA s.bm (s.m.put ((s.c.word s.p+1)) (s.nx))] [0] [] (fun w F ho hn hF=>mem_storeH hn (by have q0:=s.c.z s.hp; have q6:=s.hl; omega) (by have q0:=s.c.z s.hp; have q6:=s.hl; omega) (s.nx))) (fc (pc rfl (fun w hb=>word_ok s.c s.p s.hp w)) fn))) rfl [(4,s.bx)] ki1a25 [(4,[sy 2,sy 3,sy 4,sy 5,sy 6,sy 7,sy 8,sy 9,.bool true,.int .i64 0,sy 0,.pointer (some ⟨424,0,none⟩)],95),(424,[sy 2,sy 3,sy 4,sy 5,sy 6,sy 7,sy 8,.int .i64 0,.int .u64 0,.int .u32 0,sy 12,.slice none 0 0,.slice none 0 0],122)] 1 rfl rfl ki1a27 (.bool true))
theorem kdF (s:KP) (bp:Nat) (x:PutS) (hx:PutOk s.c x) (hx0:x.st ≠ 0) (hm:MemOk s.c s.m) (hst:(putStep s.c s.p x s.m).1.st=0) : Ev.PieE Try.prog 122 [] 0 14 ⟨s.W0,s.F0⟩ (ki1a3 s) (ki1a42 s bp x) (fun κ:Ev.Ren=>(.bool true)) (fun κ:Ev.Ren=>[Ev.blkA s.bx [(iN (s.c.n)),(iN (s.c.q)),(iz (s.c.g)),(iz (s.c.m)),(iz (s.c.t)),(iz (s.c.s)),(iN (s.p)),(uz (s.nx)),(.bool true),(.int .i64 0),(uz (s.was)),(pz bp)] 95,(ki1a37 s bp x),(ki1a38 s x)]):=(trE (c:=⟨s.W0,s.F0⟩) 3 (kn [pz bp,iN (s.c.n),iN (s.c.q),iz (s.c.g),iz (s.c.m),iz (s.c.t),iz (s.c.s),iN (s.p),uz (s.nx),uz (s.was),pz s.bm] fr [] [] [] fn fn fn s.W0 s.F0 [[memA s.bm s.m,putA s.c s.p bp x],(ki1a39 s bp x)] [] [⟨98,[sy 0,sy 10],0,none,.bool true,some 1⟩]) fn (fc (cc rfl [putA s.c s.p bp (putStep s.c s.p x s.m).1,memA s.bm ((putStep s.c s.p x s.m).2)] [1,0] [] (fun w F ho hn hF=>put_step_t s.hp hx hx0 hm hst hn)) fn) rfl [(4,s.bx)] ki1a34 [(4,[sy 1,sy 2,sy 3,sy 4,sy 5,sy 6,sy 7,sy 8,.bool true,.int .i64 0,sy 9,sy 0],95)] 1 rfl rfl ki1a27 (.bool true))
theorem kdG (s:KP) (bp:Nat) (x:PutS) (hx:PutOk s.c x) (hx0:x.st ≠ 0) (hm:MemOk s.c s.m) (hst:(putStep s.c s.p x s.m).1.st ≠ 0) : Ev.PieE Try.prog 122 [] 0 14 ⟨s.W0,s.F0⟩ (ki1a3 s) (ki1a42 s bp x) (fun κ:Ev.Ren=>(.bool false)) (fun κ:Ev.Ren=>[(ki1a41 s bp),(ki1a37 s bp x),(ki1a38 s x)]):=(trE (c:=⟨s.W0,s.F0⟩) 3 (kn [pz bp,iN (s.c.n),iN (s.c.q),iz (s.c.g),iz (s.c.m),iz (s.c.t),iz (s.c.s),iN (s.p),uz (s.nx),uz (s.was),pz s.bm] fr [] [] [] fn fn fn s.W0 s.F0 [[memA s.bm s.m,putA s.c s.p bp x],(ki1a39 s bp x)] [] [⟨98,[sy 0,sy 10],0,none,.bool false,some 1⟩]) fn (fc (cc rfl [putA s.c s.p bp (putStep s.c s.p x s.m).1,memA s.bm ((putStep s.c s.p x s.m).2)] [1,0] [] (fun w F ho hn hF=>put_step_f s.hp hx hx0 hm hst hn)) fn) rfl [(4,s.bx)] ki1a34 ki1a34 1 rfl rfl ki1a27 (.bool false))
theorem krA (s:KP) (x:Int) (hxu:U64 x) (hxa:s.m.cells[s.c.word s.p+1]? = some x) : Ev.PieE Try.prog 90 [] 0 14 ⟨s.W0,s.F0⟩ (ki1a3 s) [Ev.blkA s.bx [(iN (s.c.n)),(iN (s.c.q)),(iz (s.c.g)),(iz (s.c.m)),(iz (s.c.t)),(iz (s.c.s)),(iN (s.p)),(uz (s.nx)),(.bool false),(.int .i64 1),(uz (s.was)),(.pointer none),(iz (s.g))] 91,memA s.bm s.m] (fun κ:Ev.Ren=>(.bool false)) (fun κ:Ev.Ren=>[Ev.blkA s.bx [(iN (s.c.n)),(iN (s.c.q)),(iz (s.c.g)),(iz (s.c.m)),(iz (s.c.t)),(iz (s.c.s)),(iN (s.p)),(uz (s.nx)),(.bool false),(.int .i64 2),(uz (x)),(.pointer none),(iz (s.g))] 91,memA s.bm s.m.tick]):=(trE (c:=⟨s.W0,s.F0⟩) 3 (kn [iN (s.c.n),iN (s.c.q),iz (s.c.g),iz (s.c.m),iz (s.c.t),iz (s.c.s),iN (s.p),uz (s.nx),uz (s.was),iz (s.g),pz s.bm,iN (s.c.word s.p+1),uz (x)] fr [] [] [] fn fn fn s.W0 s.F0 [[memA s.bm s.m],[memA s.bm s.m.tick]] [] [⟨13,[.agg #[sy 0,sy 1,sy 2,sy 3,sy 4,sy 5],sy 6],0,none,sy 11,none⟩,⟨12,[sy 10,sy 11],0,none,sy 12,some 1⟩]) fn (fc (pc rfl (fun w hb=>next_ok s.c s.p s.hp w)) (fc (cc rfl [memA s.bm s.m.tick] [0] [] (fun w F ho hn hF=>mem_loadH hn hxa (mem_bd hxa (by have q0:=s.c.z s.hp; have q6:=s.hl; omega)))) fn)) rfl [(4,s.bx)] [(4,[sy 0,sy 1,sy 2,sy 3,sy 4,sy 5,sy 6,sy 7,.bool false,.int .i64 1,sy 8,.pointer none,sy 9],91)] [(4,[sy 0,sy 1,sy 2,sy 3,sy 4,sy 5,sy 6,sy 7,.bool false,.int .i64 2,sy 12,.pointer none,sy 9],91)] 1 rfl rfl ki1a27 (.bool false))
theorem krC (s:KP) : Ev.PieE Try.prog 90 [] 0 14 ⟨s.W0,s.F0⟩ (ki1a3 s) [Ev.blkA s.bx [(iN (s.c.n)),(iN (s.c.q)),(iz (s.c.g)),(iz (s.c.m)),(iz (s.c.t)),(iz (s.c.s)),(iN (s.p)),(uz (s.nx)),(.bool false),(.int .i64 2),(.int .u64 0),(.pointer none),(iz (s.g))] 91,memA s.bm s.m] (fun κ:Ev.Ren=>(.bool true)) (fun κ:Ev.Ren=>[Ev.blkA s.bx [(iN (s.c.n)),(iN (s.c.q)),(iz (s.c.g)),(iz (s.c.m)),(iz (s.c.t)),(iz (s.c.s)),(iN (s.p)),(uz (s.nx)),(.bool false),(.int .i64 0),(.int .u64 0),(.pointer none),(iz (s.g))] 91,(ki1a17 s)]):=(trE (c:=⟨s.W0,s.F0⟩) 3 (kn [iN (s.c.n),iN (s.c.q),iz (s.c.g),iz (s.c.m),iz (s.c.t),iz (s.c.s),iN (s.p),uz (s.nx),iz (s.g),pz s.bm,iN (s.c.word s.p+1)] fr [] [] [] fn fn fn s.W0 s.F0 [[memA s.bm s.m],(ki1a18 s)] [] [⟨13,[.agg #[sy 0,sy 1,sy 2,sy 3,sy 4,sy 5],sy 6],0,none,sy 10,none⟩,⟨25,[sy 9,sy 10,sy 7],0,none,.tuple #[],some 1⟩]) fn (fc (pc rfl (fun w hb=>next_ok s.c s.p s.hp w)) (fc (cc rfl [memA s.bm (s.m.put ((s.c.word s.p+1)) (s.nx))] [0] [] (fun w F ho hn hF=>mem_storeH hn (by have q0:=s.c.z s.hp; have q6:=s.hl; omega) (by have q0:=s.c.z s.hp; have q6:=s.hl; omega) (s.nx))) fn)) rfl [(4,s.bx)] [(4,[sy 0,sy 1,sy 2,sy 3,sy 4,sy 5,sy 6,sy 7,.bool false,.int .i64 2,.int .u64 0,.pointer none,sy 8],91)] [(4,[sy 0,sy 1,sy 2,sy 3,sy 4,sy 5,sy 6,sy 7,.bool false,.int .i64 0,.int .u64 0,.pointer none,sy 8],91)] 1 rfl rfl ki1a2 (.bool true))
theorem krD (s:KP) (hw0:s.was ≠ 0) (hg:0≤IntKind.i64.wrap (s.was - 1)) : Ev.PieE Try.prog 90 [] 0 14 ⟨s.W0,s.F0⟩ (ki1a3 s) (ki1a68 s) (fun κ:Ev.Ren=>(.bool false)) (fun κ:Ev.Ren=>[Ev.blkA s.bx [(iN (s.c.n)),(iN (s.c.q)),(iz (s.c.g)),(iz (s.c.m)),(iz (s.c.t)),(iz (s.c.s)),(iN (s.p)),(uz (s.nx)),(.bool false),(.int .i64 3),(uz (s.was)),(pz ((κ 424).getD 0)),(iz (s.g))] 91,Ev.blkA ((κ 424).getD 0) [(iN (s.c.n)),(iN (s.c.q)),(iz (s.c.g)),(iz (s.c.m)),(iz (s.c.t)),(iz (s.c.s)),(iN (s.p)),(.int .i64 1),(.int .u64 0),(.int .u32 0),(iz (IntKind.i64.wrap (s.was - 1))),(.slice none 0 0),(.slice (some ⟨((κ 428).getD 0),0,none⟩) 1 1)] 122,Ev.blkA ((κ 428).getD 0) [(iz (IntKind.i64.wrap (s.was - 1)))] 3,(ki1a17 s)]):=(trE (c:=⟨s.W0,s.F0⟩) 3 (kn [uz (s.was),uz (s.was - 1),iN (s.c.n),iN (s.c.q),iz (s.c.g),iz (s.c.m),iz (s.c.t),iz (s.c.s),iN (s.p),uz (s.nx),iz (s.g),pz s.bm,iN (s.c.word s.p+1),iz (IntKind.i64.wrap (s.was - 1)),iN (s.c.word s.p)] fr [(.eql,sy 0,.int .u64 0,.bool false),(.sub,sy 0,.int .u64 1,sy 1),(.geq,sy 14,.int .i64 0,.bool true),(.lss,sy 13,.int .i64 0,.bool false)] [] [(.i64,sy 1,sy 13)] (fc (fun _ _ _=>Ev.bt_eql (by have q0:=s.c.z s.hp; have q6:=s.hl; first | (simp; done) | (simp; omega))) (fc (fun _ _ _=>Ev.bt_sub (wrapU (by have:=s.hw; unfold U64 at this; omega) (by have:=s.hw; unfold U64 at this; omega))) (fc (fun _ _ _=>Ev.bt_geq (by have q0:=s.c.z s.hp; have q6:=s.hl; first | (simp; done) | (simp; omega))) (fc (fun _ _ _=>Ev.bt_lss (by have q0:=s.c.z s.hp; have q6:=s.hl; first | (simp; done) | (simp; omega))) fn)))) fn (fc ⟨.u64,_,rfl,rfl⟩ fn) s.W0 s.F0 [[memA s.bm s.m],(ki1a18 s)] [] [⟨13,[.agg #[sy 2,sy 3,sy 4,sy 5,sy 6,sy 7],sy 8],0,none,sy 12,none⟩,⟨25,[sy 11,sy 12,sy 9],0,none,.tuple #[],some 1⟩,⟨26,[.agg #[sy 2,sy 3,sy 4,sy 5,sy 6,sy 7],sy 8],1,none,sy 14,none⟩]) fn (fc (pc rfl (fun w hb=>next_ok s.c s.p s.hp w)) (fc (cc rfl [memA s.bm (s.m.put ((s.c.word s.p+1)) (s.nx))] [0] [] (fun w F ho hn hF=>mem_storeH hn (by have q0:=s.c.z s.hp; have q6:=s.hl; omega) (by have q0:=s.c.z s.hp; have q6:=s.hl; omega) (s.nx))) (fc (pc rfl (fun w hb=>word_ok s.c s.p s.hp w)) fn))) rfl [(4,s.bx)] ki1a63 [(4,[sy 2,sy 3,sy 4,sy 5,sy 6,sy 7,sy 8,sy 9,.bool false,.int .i64 3,sy 0,.pointer (some ⟨424,0,none⟩),sy 10],91),(424,[sy 2,sy 3,sy 4,sy 5,sy 6,sy 7,sy 8,.int .i64 1,.int .u64 0,.int .u32 0,sy 13,.slice none 0 0,.slice (some ⟨428,0,none⟩) 1 1],122),(428,[sy 13],3)] 1 rfl rfl ki1a65 (.bool false))
theorem krE (s:KP) (hw0:s.was ≠ 0) (hg:¬ 0≤IntKind.i64.wrap (s.was - 1)) : Ev.PieE Try.prog 90 [] 0 14 ⟨s.W0,s.F0⟩ (ki1a3 s) (ki1a68 s) (fun κ:Ev.Ren=>(.bool true)) (fun κ:Ev.Ren=>[Ev.blkA s.bx [(iN (s.c.n)),(iN (s.c.q)),(iz (s.c.g)),(iz (s.c.m)),(iz (s.c.t)),(iz (s.c.s)),(iN (s.p)),(uz (s.nx)),(.bool false),(.int .i64 0),(uz (s.was)),(pz ((κ 424).getD 0)),(iz (s.g))] 91,Ev.blkA ((κ 424).getD 0) (ki1a33 s) 122,(ki1a17 s)]):=(trE (c:=⟨s.W0,s.F0⟩) 3 (kn [uz (s.was),uz (s.was - 1),iN (s.c.n),iN (s.c.q),iz (s.c.g),iz (s.c.m),iz (s.c.t),iz (s.c.s),iN (s.p),uz (s.nx),iz (s.g),pz s.bm,iN (s.c.word s.p+1),iz (IntKind.i64.wrap (s.was - 1)),iN (s.c.word s.p)] fr [(.eql,sy 0,.int .u64 0,.bool false),(.sub,sy 0,.int .u64 1,sy 1),(.geq,sy 14,.int .i64 0,.bool true),(.lss,sy 13,.int .i64 0,.bool true)] [] [(.i64,sy 1,sy 13)] (fc (fun _ _ _=>Ev.bt_eql (by have q0:=s.c.z s.hp; have q6:=s.hl; first | (simp; done) | (simp; omega))) (fc (fun _ _ _=>Ev.bt_sub (wrapU (by have:=s.hw; unfold U64 at this; omega) (by have:=s.hw; unfold U64 at this; omega))) (fc (fun _ _ _=>Ev.bt_geq (by have q0:=s.c.z s.hp; have q6:=s.hl; first | (simp; done) | (simp; omega))) (fc (fun _ _ _=>Ev.bt_lss (by have q0:=s.c.z s.hp; have q6:=s.hl; first | (simp; done) | (simp; omega))) fn)))) fn (fc ⟨.u64,_,rfl,rfl⟩ fn) s.W0 s.F0 [[memA s.bm s.m],(ki1a18 s)] [] [⟨13,[.agg #[sy 2,sy 3,sy 4,sy 5,sy 6,sy 7],sy 8],0,none,sy 12,none⟩,⟨25,[sy 11,sy 12,sy 9],0,none,.tuple #[],some 1⟩,⟨26,[.agg #[sy 2,sy 3,sy 4,sy 5,sy 6,sy 7],sy 8],1,none,sy 14,none⟩]) fn (fc (pc rfl (fun w hb=>next_ok s.c s.p s.hp w)) (fc (cc rfl [memA s.bm (s.m.put ((s.c.word s.p+1)) (s.nx))] [0] [] (fun w F ho hn hF=>mem_storeH hn (by have q0:=s.c.z s.hp; have q6:=s.hl; omega) (by have q0:=s.c.z s.hp; have q6:=s.hl; omega) (s.nx))) (fc (pc rfl (fun w hb=>word_ok s.c s.p s.hp w)) fn))) rfl [(4,s.bx)] ki1a63 [(4,[sy 2,sy 3,sy 4,sy 5,sy 6,sy 7,sy 8,sy 9,.bool false,.int .i64 0,sy 0,.pointer (some ⟨424,0,none⟩),sy 10],91),(424,[sy 2,sy 3,sy 4,sy 5,sy 6,sy 7,sy 8,.int .i64 0,.int .u64 0,.int .u32 0,sy 13,.slice none 0 0,.slice none 0 0],122)] 1 rfl rfl ki1a65 (.bool true))
theorem krF (s:KP) (bp:Nat) (x:PutS) (hx:PutOk s.c x) (hx0:x.st ≠ 0) (hm:MemOk s.c s.m) (hst:(putStep s.c s.p x s.m).1.st=0) : Ev.PieE Try.prog 90 [] 0 14 ⟨s.W0,s.F0⟩ (ki1a3 s) (ki1a74 s bp x) (fun κ:Ev.Ren=>(.bool true)) (fun κ:Ev.Ren=>[Ev.blkA s.bx [(iN (s.c.n)),(iN (s.c.q)),(iz (s.c.g)),(iz (s.c.m)),(iz (s.c.t)),(iz (s.c.s)),(iN (s.p)),(uz (s.nx)),(.bool false),(.int .i64 0),(uz (s.was)),(pz bp),(iz (s.g))] 91,(ki1a37 s bp x),(ki1a38 s x)]):=(trE (c:=⟨s.W0,s.F0⟩) 3 (kn [pz bp,iN (s.c.n),iN (s.c.q),iz (s.c.g),iz (s.c.m),iz (s.c.t),iz (s.c.s),iN (s.p),uz (s.nx),uz (s.was),iz (s.g),pz s.bm] fr [] [] [] fn fn fn s.W0 s.F0 [[memA s.bm s.m,putA s.c s.p bp x],(ki1a39 s bp x)] [] [⟨98,[sy 0,sy 11],0,none,.bool true,some 1⟩]) fn (fc (cc rfl [putA s.c s.p bp (putStep s.c s.p x s.m).1,memA s.bm ((putStep s.c s.p x s.m).2)] [1,0] [] (fun w F ho hn hF=>put_step_t s.hp hx hx0 hm hst hn)) fn) rfl [(4,s.bx)] ki1a70 [(4,[sy 1,sy 2,sy 3,sy 4,sy 5,sy 6,sy 7,sy 8,.bool false,.int .i64 0,sy 9,sy 0,sy 10],91)] 1 rfl rfl ki1a65 (.bool true))
theorem krG (s:KP) (bp:Nat) (x:PutS) (hx:PutOk s.c x) (hx0:x.st ≠ 0) (hm:MemOk s.c s.m) (hst:(putStep s.c s.p x s.m).1.st ≠ 0) : Ev.PieE Try.prog 90 [] 0 14 ⟨s.W0,s.F0⟩ (ki1a3 s) (ki1a74 s bp x) (fun κ:Ev.Ren=>(.bool false)) (fun κ:Ev.Ren=>[(ki1a73 s bp),(ki1a37 s bp x),(ki1a38 s x)]):=(trE (c:=⟨s.W0,s.F0⟩) 3 (kn [pz bp,iN (s.c.n),iN (s.c.q),iz (s.c.g),iz (s.c.m),iz (s.c.t),iz (s.c.s),iN (s.p),uz (s.nx),uz (s.was),iz (s.g),pz s.bm] fr [] [] [] fn fn fn s.W0 s.F0 [[memA s.bm s.m,putA s.c s.p bp x],(ki1a39 s bp x)] [] [⟨98,[sy 0,sy 11],0,none,.bool false,some 1⟩]) fn (fc (cc rfl [putA s.c s.p bp (putStep s.c s.p x s.m).1,memA s.bm ((putStep s.c s.p x s.m).2)] [1,0] [] (fun w F ho hn hF=>put_step_f s.hp hx hx0 hm hst hn)) fn) rfl [(4,s.bx)] ki1a70 ki1a70 1 rfl rfl ki1a65 (.bool false))
end Go.Proofs.Ytbcnbofkgkheeaa
namespace Go.Proofs.Ytbcnbofkgkheeaa
open Go.RowKit
open Go.Ev (sy)
set_option linter.unusedVariables false
set_option linter.unusedSimpArgs false
set_option maxRecDepth 8000
def kickC (c:Cfg) (p:Nat) (k:KickS) (pv:Value) : List Value :=
 .int .i64 (c.n:Int)::.int .i64 (c.q:Int)::.int .i64 c.g::.int .i64 c.m::.int .i64 c.t::.int .i64 c.s::.int .i64 (p:Int)::.int .u64 k.nx::.bool k.dem::.int .i64 (k.st:Int)::.int .u64 k.was::pv::cond k.dem [] [.int .i64 k.gg]
def kickT (dem:Bool) : TypeId:=cond dem 95 91
def machL (c:Cfg) (p bx:Nat) (k:KickS) (bp:Nat) : List Ev.Asr :=
 match k.put with
 | none=>[Ev.blkA bx (kickC c p k (.pointer none)) (kickT k.dem)]
 | some x=>[Ev.blkA bx (kickC c p k (.pointer (some ⟨bp,0,none⟩))) (kickT k.dem),putA c p bp x]
def machA (c:Cfg) (p bx:Nat) (k:KickS) : Ev.Asr:=Ev.exA (fun _:Nat=>True) (fun bp=>Ev.grp (machL c p bx k bp))
section
variable {c:Cfg} {p bx:Nat} {k:KickS} {x:PutS} {ctx:Ev.Ctx} {w:World} {l:List Ev.Asr}
theorem mach_none (hn:k.put=none) (h:Ev.Hold ctx (machA c p bx k::l) w) : Ev.Hold ctx (Ev.blkA bx (kickC c p k (.pointer none)) (kickT k.dem)::l) w:=by
 obtain ⟨bp,_,hh⟩:=h.getX
 have h2:=hh.open
 simp only [machL,hn] at h2
 exact h2
theorem none_mach (hn:k.put=none) (h:Ev.Hold ctx (Ev.blkA bx (kickC c p k (.pointer none)) (kickT k.dem)::l) w) : Ev.Hold ctx (machA c p bx k::l) w:=by
 refine Ev.Hold.putX (0:Nat) trivial (Ev.Hold.shut ?_)
 simp only [machL,hn]
 exact h
theorem mach_some (hn:k.put=some x) (h:Ev.Hold ctx (machA c p bx k::l) w) : ∃ bp,Ev.Hold ctx (Ev.blkA bx (kickC c p k (.pointer (some ⟨bp,0,none⟩))) (kickT k.dem)::putA c p bp x::l) w:=by
 obtain ⟨bp,_,hh⟩:=h.getX
 have h2:=hh.open
 simp only [machL,hn] at h2
 exact ⟨bp,h2⟩
theorem some_mach {bp:Nat} (hn:k.put=some x) (h:Ev.Hold ctx (Ev.blkA bx (kickC c p k (.pointer (some ⟨bp,0,none⟩))) (kickT k.dem)::putA c p bp x::l) w) : Ev.Hold ctx (machA c p bx k::l) w:=by
 refine Ev.Hold.putX bp trivial (Ev.Hold.shut ?_)
 simp only [machL,hn]
 exact h
end
theorem demote_step {w:World} {F:Nat→Prop} {c:Cfg} {p:Nat} (hp:p < c.n) {k:KickS} (hd:k.dem=true) (hk:KickOk c k) (h0:k.st ≠ 0) {m:MemM} (hm:MemOk c m) {bx bm:Nat} (h:Ev.Now [machA c p bx k,memA bm m] F w) :
  Calls Try.prog 122 #[.pointer (some ⟨bx,0,none⟩),.pointer (some ⟨bm,0,none⟩)] w fun e w'=>e=.returned (.bool (decide ((kickStep c p k m).1.st=0)))∧Ev.Hold ⟨w,F⟩ [machA c p bx (kickStep c p k m).1,memA bm (kickStep c p k m).2] w':=by
 have hw:=hm.get (hm.lt_next hp)
 obtain ⟨dem,gg,st,was,put⟩:=k
 have hd':dem=true:=hd
 subst hd'
 match st,hk.st with
 | 0,_=>exact absurd rfl h0
 | 1,_ =>
  have e:put=none:=hk.p12 (.inl rfl)
  subst e
  obtain ⟨F',n1,n2,n3⟩:=(mach_none rfl (Ev.Hold.start h)).ex
  have into:∀ {l:List Ev.Asr} {w1:World},Ev.Hold ⟨w,F'⟩ l w1→Ev.Hold ⟨w,F⟩ l w1:=fun hh=>hh.into (l:=[]) n2 n3
  let s:KP:=⟨w,F',c,p,hp,KickS.nx ⟨true,gg,1,was,none⟩,was,hk.was,gg,bx,bm,m,hm.len⟩
  by_cases hx:ld m (c.word p+1)=0
  ·rw [show kickStep c p ⟨true,gg,1,was,none⟩ m=(⟨true,gg,0,ld m (c.word p+1),none⟩,m.tick) by simp [kickStep,hx]]
   refine startP (kdA s _ hw.2 hw.1 hx) (by kernel_rfl) n1 (by simp) (by simp [s]) (fun κ w1 h1=>⟨rfl,?_⟩)
   exact none_mach (k:=⟨true,gg,0,ld m (c.word p+1),none⟩) rfl (into h1)
  ·rw [show kickStep c p ⟨true,gg,1,was,none⟩ m=(⟨true,gg,2,ld m (c.word p+1),none⟩,m.tick) by simp only [kickStep]; rw [if_neg (fun h=>hx h.2)]]
   refine startP (kdB s _ hw.2 hw.1 hx) (by kernel_rfl) n1 (by simp) (by simp [s]) (fun κ w1 h1=>⟨rfl,?_⟩)
   exact none_mach (k:=⟨true,gg,2,ld m (c.word p+1),none⟩) rfl (into h1)
 | 2,_ =>
  have e:put=none:=hk.p12 (.inr rfl)
  subst e
  obtain ⟨F',n1,n2,n3⟩:=(mach_none rfl (Ev.Hold.start h)).ex
  have into:∀ {l:List Ev.Asr} {w1:World},Ev.Hold ⟨w,F'⟩ l w1→Ev.Hold ⟨w,F⟩ l w1:=fun hh=>hh.into (l:=[]) n2 n3
  let s:KP:=⟨w,F',c,p,hp,KickS.nx ⟨true,gg,2,was,none⟩,was,hk.was,gg,bx,bm,m,hm.len⟩
  by_cases hz:was=0
  ·subst hz
   rw [show kickStep c p ⟨true,gg,2,0,none⟩ m=(⟨true,gg,0,0,none⟩,m.put (c.word p+1) (KickS.nx ⟨true,gg,2,0,none⟩)) by simp [kickStep]]
   refine startP (kdC s) (by kernel_rfl) n1 (by simp) (by simp [s]) (fun κ w1 h1=>⟨rfl,?_⟩)
   exact none_mach (k:=⟨true,gg,0,0,none⟩) rfl (into h1)
  ·by_cases hg:0≤IntKind.i64.wrap (was - 1)
   ·rw [show kickStep c p ⟨true,gg,2,was,none⟩ m=(⟨true,gg,3,was,some ⟨1,IntKind.i64.wrap (was - 1),0,[],[IntKind.i64.wrap (was - 1)]⟩⟩,m.put (c.word p+1) (KickS.nx ⟨true,gg,2,was,none⟩)) by simp only [kickStep]; rw [if_neg hz,if_pos hg]]
    refine startP (kdD s hz hg) (by kernel_rfl) n1 (by simp) (by simp [s]) (fun κ w1 h1=>⟨rfl,?_⟩)
    have h2:=(blk_isA ((into h1).sel [2,1,0,3] (by kernel_rfl))).nilSl (e := 3) (sz:=1)
    have h3:=put_close (x:=⟨1,IntKind.i64.wrap (was - 1),0,[],[IntKind.i64.wrap (was - 1)]⟩) (k:=0) (tk:=.slice none 0 0) (Nat.succ_ne_zero _) rfl (h2.sel [2,1,0,3,4] (by kernel_rfl))
    exact some_mach (k:=⟨true,gg,3,was,some ⟨1,IntKind.i64.wrap (was - 1),0,[],[IntKind.i64.wrap (was - 1)]⟩⟩) rfl (h3.sel [1,0,2] (by kernel_rfl))
   ·rw [show kickStep c p ⟨true,gg,2,was,none⟩ m=(⟨true,gg,0,was,some ⟨0,IntKind.i64.wrap (was - 1),0,[],[]⟩⟩,m.put (c.word p+1) (KickS.nx ⟨true,gg,2,was,none⟩)) by simp only [kickStep]; rw [if_neg hz,if_neg hg]]
    refine startP (kdE s hz hg) (by kernel_rfl) n1 (by simp) (by simp [s]) (fun κ w1 h1=>⟨rfl,?_⟩)
    have h2:=(into h1).nilSl (e := 3) (sz:=1)
    have h3:=put_close0 (x:=⟨0,IntKind.i64.wrap (was - 1),0,[],[]⟩) (k:=0) (tk:=.slice none 0 0) (hd:=.slice none 0 0) rfl rfl (h2.sel [2,0,1,3] (by kernel_rfl))
    exact some_mach (k:=⟨true,gg,0,was,some ⟨0,IntKind.i64.wrap (was - 1),0,[],[]⟩⟩) rfl (h3.sel [1,0,2] (by kernel_rfl))
 | 3,_ =>
  obtain ⟨x,e,hx0⟩:=hk.p3 rfl
  have e':put=some x:=e
  subst e'
  obtain ⟨bp,hh⟩:=mach_some rfl (Ev.Hold.start h)
  obtain ⟨F',n1,n2,n3⟩:=(hh.sel [0,2,1] (by kernel_rfl)).ex
  have into:∀ {l:List Ev.Asr} {w1:World},Ev.Hold ⟨w,F'⟩ l w1→Ev.Hold ⟨w,F⟩ l w1:=fun hh=>hh.into (l:=[]) n2 n3
  let s:KP:=⟨w,F',c,p,hp,KickS.nx ⟨true,gg,3,was,some x⟩,was,hk.was,gg,bx,bm,m,hm.len⟩
  by_cases hz:(putStep c p x m).1.st=0
  ·rw [show kickStep c p ⟨true,gg,3,was,some x⟩ m=(⟨true,gg,0,was,some (putStep c p x m).1⟩,(putStep c p x m).2) by simp only [kickStep]; rw [if_pos hz]]
   refine startP (kdF s bp x (hk.put x rfl) hx0 hm hz) (by kernel_rfl) n1 (by simp) (by simp [s]) (fun κ w1 h1=>⟨rfl,?_⟩)
   exact some_mach (k:=⟨true,gg,0,was,some (putStep c p x m).1⟩) rfl ((into h1).sel [0,1,2] (by kernel_rfl))
  ·rw [show kickStep c p ⟨true,gg,3,was,some x⟩ m=(⟨true,gg,3,was,some (putStep c p x m).1⟩,(putStep c p x m).2) by simp only [kickStep]; rw [if_neg hz]]
   refine startP (kdG s bp x (hk.put x rfl) hx0 hm hz) (by kernel_rfl) n1 (by simp) (by simp [s]) (fun κ w1 h1=>⟨rfl,?_⟩)
   exact some_mach (k:=⟨true,gg,3,was,some (putStep c p x m).1⟩) rfl ((into h1).sel [0,1,2] (by kernel_rfl))
theorem ready_step {w:World} {F:Nat→Prop} {c:Cfg} {p:Nat} (hp:p < c.n) {k:KickS} (hd:k.dem=false) (hk:KickOk c k) (h0:k.st ≠ 0) {m:MemM} (hm:MemOk c m) {bx bm:Nat} (h:Ev.Now [machA c p bx k,memA bm m] F w) :
  Calls Try.prog 90 #[.pointer (some ⟨bx,0,none⟩),.pointer (some ⟨bm,0,none⟩)] w fun e w'=>e=.returned (.bool (decide ((kickStep c p k m).1.st=0)))∧Ev.Hold ⟨w,F⟩ [machA c p bx (kickStep c p k m).1,memA bm (kickStep c p k m).2] w':=by
 have hw:=hm.get (hm.lt_next hp)
 obtain ⟨dem,gg,st,was,put⟩:=k
 have hd':dem=false:=hd
 subst hd'
 match st,hk.st with
 | 0,_=>exact absurd rfl h0
 | 1,_ =>
  have e:put=none:=hk.p12 (.inl rfl)
  subst e
  obtain ⟨F',n1,n2,n3⟩:=(mach_none rfl (Ev.Hold.start h)).ex
  have into:∀ {l:List Ev.Asr} {w1:World},Ev.Hold ⟨w,F'⟩ l w1→Ev.Hold ⟨w,F⟩ l w1:=fun hh=>hh.into (l:=[]) n2 n3
  let s:KP:=⟨w,F',c,p,hp,KickS.nx ⟨false,gg,1,was,none⟩,was,hk.was,gg,bx,bm,m,hm.len⟩
  rw [show kickStep c p ⟨false,gg,1,was,none⟩ m=(⟨false,gg,2,ld m (c.word p+1),none⟩,m.tick) by simp only [kickStep]; rw [if_neg (fun h=>by cases h.1)]]
  refine startP (krA s _ hw.2 hw.1) (by kernel_rfl) n1 (by simp) (by simp [s]) (fun κ w1 h1=>⟨rfl,?_⟩)
  exact none_mach (k:=⟨false,gg,2,ld m (c.word p+1),none⟩) rfl (into h1)
 | 2,_ =>
  have e:put=none:=hk.p12 (.inr rfl)
  subst e
  obtain ⟨F',n1,n2,n3⟩:=(mach_none rfl (Ev.Hold.start h)).ex
  have into:∀ {l:List Ev.Asr} {w1:World},Ev.Hold ⟨w,F'⟩ l w1→Ev.Hold ⟨w,F⟩ l w1:=fun hh=>hh.into (l:=[]) n2 n3
  let s:KP:=⟨w,F',c,p,hp,KickS.nx ⟨false,gg,2,was,none⟩,was,hk.was,gg,bx,bm,m,hm.len⟩
  by_cases hz:was=0
  ·subst hz
   rw [show kickStep c p ⟨false,gg,2,0,none⟩ m=(⟨false,gg,0,0,none⟩,m.put (c.word p+1) (KickS.nx ⟨false,gg,2,0,none⟩)) by simp [kickStep]]
   refine startP (krC s) (by kernel_rfl) n1 (by simp) (by simp [s]) (fun κ w1 h1=>⟨rfl,?_⟩)
   exact none_mach (k:=⟨false,gg,0,0,none⟩) rfl (into h1)
  ·by_cases hg:0≤IntKind.i64.wrap (was - 1)
   ·rw [show kickStep c p ⟨false,gg,2,was,none⟩ m=(⟨false,gg,3,was,some ⟨1,IntKind.i64.wrap (was - 1),0,[],[IntKind.i64.wrap (was - 1)]⟩⟩,m.put (c.word p+1) (KickS.nx ⟨false,gg,2,was,none⟩)) by simp only [kickStep]; rw [if_neg hz,if_pos hg]]
    refine startP (krD s hz hg) (by kernel_rfl) n1 (by simp) (by simp [s]) (fun κ w1 h1=>⟨rfl,?_⟩)
    have h2:=(blk_isA ((into h1).sel [2,1,0,3] (by kernel_rfl))).nilSl (e := 3) (sz:=1)
    have h3:=put_close (x:=⟨1,IntKind.i64.wrap (was - 1),0,[],[IntKind.i64.wrap (was - 1)]⟩) (k:=0) (tk:=.slice none 0 0) (Nat.succ_ne_zero _) rfl (h2.sel [2,1,0,3,4] (by kernel_rfl))
    exact some_mach (k:=⟨false,gg,3,was,some ⟨1,IntKind.i64.wrap (was - 1),0,[],[IntKind.i64.wrap (was - 1)]⟩⟩) rfl (h3.sel [1,0,2] (by kernel_rfl))
   ·rw [show kickStep c p ⟨false,gg,2,was,none⟩ m=(⟨false,gg,0,was,some ⟨0,IntKind.i64.wrap (was - 1),0,[],[]⟩⟩,m.put (c.word p+1) (KickS.nx ⟨false,gg,2,was,none⟩)) by simp only [kickStep]; rw [if_neg hz,if_neg hg]]
    refine startP (krE s hz hg) (by kernel_rfl) n1 (by simp) (by simp [s]) (fun κ w1 h1=>⟨rfl,?_⟩)
    have h2:=(into h1).nilSl (e := 3) (sz:=1)
    have h3:=put_close0 (x:=⟨0,IntKind.i64.wrap (was - 1),0,[],[]⟩) (k:=0) (tk:=.slice none 0 0) (hd:=.slice none 0 0) rfl rfl (h2.sel [2,0,1,3] (by kernel_rfl))
    exact some_mach (k:=⟨false,gg,0,was,some ⟨0,IntKind.i64.wrap (was - 1),0,[],[]⟩⟩) rfl (h3.sel [1,0,2] (by kernel_rfl))
 | 3,_ =>
  obtain ⟨x,e,hx0⟩:=hk.p3 rfl
  have e':put=some x:=e
  subst e'
  obtain ⟨bp,hh⟩:=mach_some rfl (Ev.Hold.start h)
  obtain ⟨F',n1,n2,n3⟩:=(hh.sel [0,2,1] (by kernel_rfl)).ex
  have into:∀ {l:List Ev.Asr} {w1:World},Ev.Hold ⟨w,F'⟩ l w1→Ev.Hold ⟨w,F⟩ l w1:=fun hh=>hh.into (l:=[]) n2 n3
  let s:KP:=⟨w,F',c,p,hp,KickS.nx ⟨false,gg,3,was,some x⟩,was,hk.was,gg,bx,bm,m,hm.len⟩
  by_cases hz:(putStep c p x m).1.st=0
  ·rw [show kickStep c p ⟨false,gg,3,was,some x⟩ m=(⟨false,gg,0,was,some (putStep c p x m).1⟩,(putStep c p x m).2) by simp only [kickStep]; rw [if_pos hz]]
   refine startP (krF s bp x (hk.put x rfl) hx0 hm hz) (by kernel_rfl) n1 (by simp) (by simp [s]) (fun κ w1 h1=>⟨rfl,?_⟩)
   exact some_mach (k:=⟨false,gg,0,was,some (putStep c p x m).1⟩) rfl ((into h1).sel [0,1,2] (by kernel_rfl))
  ·rw [show kickStep c p ⟨false,gg,3,was,some x⟩ m=(⟨false,gg,3,was,some (putStep c p x m).1⟩,(putStep c p x m).2) by simp only [kickStep]; rw [if_neg hz]]
   refine startP (krG s bp x (hk.put x rfl) hx0 hm hz) (by kernel_rfl) n1 (by simp) (by simp [s]) (fun κ w1 h1=>⟨rfl,?_⟩)
   exact some_mach (k:=⟨false,gg,3,was,some (putStep c p x m).1⟩) rfl ((into h1).sel [0,1,2] (by kernel_rfl))
end Go.Proofs.Ytbcnbofkgkheeaa
namespace Go.Proofs.Ytbcnbofkgkheeaa
open Go.RowKit
open Go.Ev (sy iz uz wz iN uN wN pz dv fc fn ak vk vd kn pc cc cr cm cd fr)
set_option linter.unusedVariables false
set_option linter.unusedSimpArgs false
set_option maxRecDepth 8000
attribute [local irreducible] Ev.wpL
structure GP where
 W0:World
 F0:Nat→Prop
 a0:Int
 a1:Int
 a2:Int
 a3:Int
 a4:Int
 a5:Int
 a6:Int
 nx:Int
 st:Nat
 was:Int
 g:Int
 pv:Value
 lpv:Ev.leafV pv=true
 bx:Nat
 bm:Nat
 hst:st≤3
abbrev ki3a1:List (Nat×Value):=[(0,.pointer (some ⟨4,0,none⟩))]
abbrev ki3a4 (s:GP) : List Ev.Asr:=[Ev.blkA s.bx [(iz (s.a0)),(iz (s.a1)),(iz (s.a2)),(iz (s.a3)),(iz (s.a4)),(iz (s.a5)),(iz (s.a6)),(uz (s.nx)),(.bool true),(.int .i64 0),(uz (s.was)),(s.pv)] 95]
abbrev ki3a5:List Ev.Blk:=[(4,[sy 2,sy 3,sy 4,sy 5,sy 6,sy 7,sy 8,sy 9,.bool true,sy 1,sy 10,sy 0],95)]
abbrev ki3a9:List Ev.Blk:=[(4,[sy 1,sy 2,sy 3,sy 4,sy 5,sy 6,sy 7,sy 8,.bool true,sy 0,sy 9,.pointer none],95)]
abbrev ki3a12 (s:GP) : List Ev.Asr:=[Ev.blkA s.bx [(iz (s.a0)),(iz (s.a1)),(iz (s.a2)),(iz (s.a3)),(iz (s.a4)),(iz (s.a5)),(iz (s.a6)),(uz (s.nx)),(.bool true),(iN (s.st)),(uz (s.was)),(.pointer none)] 95]
abbrev ki3a14 (s:GP) (bp:Nat) : Ev.Asr:=Ev.blkA s.bx [(iz (s.a0)),(iz (s.a1)),(iz (s.a2)),(iz (s.a3)),(iz (s.a4)),(iz (s.a5)),(iz (s.a6)),(uz (s.nx)),(.bool true),(iN (s.st)),(uz (s.was)),(pz bp)] 95
abbrev ki3a15 (s:GP) (c:Cfg) (p:Nat) (bp:Nat) (x:PutS) : List Ev.Asr:=[(ki3a14 s bp),putA c p bp x]
abbrev ki3a21:List Ev.Blk:=[(4,[sy 2,sy 3,sy 4,sy 5,sy 6,sy 7,sy 8,sy 9,.bool true,.int .i64 0,sy 10,sy 0],95)]
abbrev ki3a27 (s:GP) : List Ev.Asr:=[Ev.blkA s.bx [(iz (s.a0)),(iz (s.a1)),(iz (s.a2)),(iz (s.a3)),(iz (s.a4)),(iz (s.a5)),(iz (s.a6)),(uz (s.nx)),(.bool false),(.int .i64 0),(uz (s.was)),(s.pv),(iz (s.g))] 91]
abbrev ki3a28:List Ev.Blk:=[(4,[sy 2,sy 3,sy 4,sy 5,sy 6,sy 7,sy 8,sy 9,.bool false,sy 1,sy 10,sy 0,sy 11],91)]
abbrev ki3a32:List Ev.Blk:=[(4,[sy 1,sy 2,sy 3,sy 4,sy 5,sy 6,sy 7,sy 8,.bool false,sy 0,sy 9,.pointer none,sy 10],91)]
abbrev ki3a35 (s:GP) : List Ev.Asr:=[Ev.blkA s.bx [(iz (s.a0)),(iz (s.a1)),(iz (s.a2)),(iz (s.a3)),(iz (s.a4)),(iz (s.a5)),(iz (s.a6)),(uz (s.nx)),(.bool false),(iN (s.st)),(uz (s.was)),(.pointer none),(iz (s.g))] 91]
abbrev ki3a37 (s:GP) (bp:Nat) : Ev.Asr:=Ev.blkA s.bx [(iz (s.a0)),(iz (s.a1)),(iz (s.a2)),(iz (s.a3)),(iz (s.a4)),(iz (s.a5)),(iz (s.a6)),(uz (s.nx)),(.bool false),(iN (s.st)),(uz (s.was)),(pz bp),(iz (s.g))] 91
abbrev ki3a38 (s:GP) (c:Cfg) (p:Nat) (bp:Nat) (x:PutS) : List Ev.Asr:=[(ki3a37 s bp),putA c p bp x]
abbrev ki3a60:List Ev.Blk:=[(4,[sy 2,sy 3,sy 4,sy 5,sy 6,sy 7,sy 8,sy 9,.bool false,.int .i64 0,sy 10,sy 0,sy 11],91)]
theorem ndC (s:GP) : Ev.PieE Try.prog 120 [] 0 11 ⟨s.W0,s.F0⟩ [(0,(pz s.bx))] (ki3a12 s) (fun κ:Ev.Ren=>(.bool false)) (fun κ:Ev.Ren=>(ki3a12 s)):=(trE (c:=⟨s.W0,s.F0⟩) 3 (kn [iN (s.st),iz (s.a0),iz (s.a1),iz (s.a2),iz (s.a3),iz (s.a4),iz (s.a5),iz (s.a6),uz (s.nx),uz (s.was)] fr [] [] [] fn fn fn s.W0 s.F0 [[]] [] []) fn fn rfl [(4,s.bx)] ki3a9 ki3a9 0 rfl rfl ki3a1 (.bool false))
theorem ndD (s:GP) (c:Cfg) (p:Nat) (hp:p < c.n) (bp:Nat) (x:PutS) (hx:PutOk c x) : Ev.PieE Try.prog 120 [] 0 11 ⟨s.W0,s.F0⟩ [(0,(pz s.bx))] (ki3a15 s c p bp x) (fun κ:Ev.Ren=>(.bool true)) (fun κ:Ev.Ren=>(ki3a15 s c p bp x)):=(trE (c:=⟨s.W0,s.F0⟩) 3 (kn [pz bp,iN (s.st),iz (s.a0),iz (s.a1),iz (s.a2),iz (s.a3),iz (s.a4),iz (s.a5),iz (s.a6),uz (s.nx),uz (s.was)] fr [] [] [] fn fn fn s.W0 s.F0 [[putA c p bp x]] [⟨[21,87],[sy 0,.pointer none],none,0,none,.bool true,none⟩] []) (fc (Ev.ptr_neq rfl (by kernel_rfl)) fn) fn rfl [(4,s.bx)] ki3a5 ki3a5 0 rfl rfl ki3a1 (.bool true))
theorem ndE (s:GP) : Ev.PieE Try.prog 121 [] 0 12 ⟨s.W0,s.F0⟩ [(0,(pz s.bx))] (ki3a12 s) (fun κ:Ev.Ren=>(.slice none 0 0)) (fun κ:Ev.Ren=>(ki3a12 s)):=(trE (c:=⟨s.W0,s.F0⟩) 5 (kn [iN (s.st),iz (s.a0),iz (s.a1),iz (s.a2),iz (s.a3),iz (s.a4),iz (s.a5),iz (s.a6),uz (s.nx),uz (s.was)] fr [] [] [] fn fn fn s.W0 s.F0 [[]] [] []) fn fn rfl [(4,s.bx)] ki3a9 ki3a9 0 rfl rfl ki3a1 (.slice none 0 0))
theorem ndF (s:GP) (c:Cfg) (p:Nat) (hp:p < c.n) (bp:Nat) (x:PutS) (hx:PutOk c x) : Ev.PieE Try.prog 121 [] 0 12 ⟨s.W0,s.F0⟩ [(0,(pz s.bx))] (ki3a15 s c p bp x) (fun κ:Ev.Ren=>(dv κ 403)) (fun κ:Ev.Ren=>[(ki3a14 s bp),isA (dv κ 403) (if x.st=0 then x.hs else []),putA c p bp x]):=(trE (c:=⟨s.W0,s.F0⟩) 5 (kn [pz bp,iN (s.st),iz (s.a0),iz (s.a1),iz (s.a2),iz (s.a3),iz (s.a4),iz (s.a5),iz (s.a6),uz (s.nx),uz (s.was)] fr [] [] [] fn fn fn s.W0 s.F0 [[putA c p bp x],[Ev.atD 403 (fun v=>isA v (if x.st=0 then x.hs else [])),Ev.atD 403 (fun v=>putA c p bp x)]] [⟨[21,87],[sy 0,.pointer none],none,0,none,.bool true,none⟩] [⟨51,[sy 0],0,some 403,.complex .f32 403 0,some 1⟩]) (fc (Ev.ptr_neq rfl (by kernel_rfl)) fn) (fc (cd rfl [fun v=>isA v (if x.st=0 then x.hs else []),fun v=>putA c p bp x] [0] [] (fun w F ho hn hF=>put_over hp hx hn)) fn) rfl [(4,s.bx)] ki3a5 ki3a5 1 rfl rfl ki3a1 (.complex .f32 403 0)).conv (fun κ w=>⟨(fun _ h=>h),(fun _ h=>Ev.undy (a:=fun v=>isA v (if x.st=0 then x.hs else [])) (fun _ _ _ _ _ h=>h) h),(fun _ h=>Ev.undy (a:=fun v=>putA c p bp x) (fun _ _ _ _ _ h=>h) h),trivial⟩)
theorem ndZ (s:GP) : Ev.PieE Try.prog 122 [] 0 14 ⟨s.W0,s.F0⟩ [(0,(pz s.bx)),(1,(pz s.bm))] (ki3a4 s) (fun κ:Ev.Ren=>(.bool true)) (fun κ:Ev.Ren=>(ki3a4 s)):=(trE (c:=⟨s.W0,s.F0⟩) 3 (kn [s.pv,pz s.bm,iz (s.a0),iz (s.a1),iz (s.a2),iz (s.a3),iz (s.a4),iz (s.a5),iz (s.a6),uz (s.nx),uz (s.was)] (fc s.lpv fr) [] [] [] fn fn fn s.W0 s.F0 [[]] [] []) fn fn rfl [(4,s.bx)] ki3a21 ki3a21 0 rfl rfl [(0,.pointer (some ⟨4,0,none⟩)),(1,sy 1)] (.bool true))
theorem nrC (s:GP) : Ev.PieE Try.prog 50 [] 0 11 ⟨s.W0,s.F0⟩ [(0,(pz s.bx))] (ki3a35 s) (fun κ:Ev.Ren=>(.bool false)) (fun κ:Ev.Ren=>(ki3a35 s)):=(trE (c:=⟨s.W0,s.F0⟩) 3 (kn [iN (s.st),iz (s.a0),iz (s.a1),iz (s.a2),iz (s.a3),iz (s.a4),iz (s.a5),iz (s.a6),uz (s.nx),uz (s.was),iz (s.g)] fr [] [] [] fn fn fn s.W0 s.F0 [[]] [] []) fn fn rfl [(4,s.bx)] ki3a32 ki3a32 0 rfl rfl ki3a1 (.bool false))
theorem nrD (s:GP) (c:Cfg) (p:Nat) (hp:p < c.n) (bp:Nat) (x:PutS) (hx:PutOk c x) : Ev.PieE Try.prog 50 [] 0 11 ⟨s.W0,s.F0⟩ [(0,(pz s.bx))] (ki3a38 s c p bp x) (fun κ:Ev.Ren=>(.bool true)) (fun κ:Ev.Ren=>(ki3a38 s c p bp x)):=(trE (c:=⟨s.W0,s.F0⟩) 3 (kn [pz bp,iN (s.st),iz (s.a0),iz (s.a1),iz (s.a2),iz (s.a3),iz (s.a4),iz (s.a5),iz (s.a6),uz (s.nx),uz (s.was),iz (s.g)] fr [] [] [] fn fn fn s.W0 s.F0 [[putA c p bp x]] [⟨[21,87],[sy 0,.pointer none],none,0,none,.bool true,none⟩] []) (fc (Ev.ptr_neq rfl (by kernel_rfl)) fn) fn rfl [(4,s.bx)] ki3a28 ki3a28 0 rfl rfl ki3a1 (.bool true))
theorem nrE (s:GP) : Ev.PieE Try.prog 29 [] 0 12 ⟨s.W0,s.F0⟩ [(0,(pz s.bx))] (ki3a35 s) (fun κ:Ev.Ren=>(.slice none 0 0)) (fun κ:Ev.Ren=>(ki3a35 s)):=(trE (c:=⟨s.W0,s.F0⟩) 5 (kn [iN (s.st),iz (s.a0),iz (s.a1),iz (s.a2),iz (s.a3),iz (s.a4),iz (s.a5),iz (s.a6),uz (s.nx),uz (s.was),iz (s.g)] fr [] [] [] fn fn fn s.W0 s.F0 [[]] [] []) fn fn rfl [(4,s.bx)] ki3a32 ki3a32 0 rfl rfl ki3a1 (.slice none 0 0))
theorem nrF (s:GP) (c:Cfg) (p:Nat) (hp:p < c.n) (bp:Nat) (x:PutS) (hx:PutOk c x) : Ev.PieE Try.prog 29 [] 0 12 ⟨s.W0,s.F0⟩ [(0,(pz s.bx))] (ki3a38 s c p bp x) (fun κ:Ev.Ren=>(dv κ 403)) (fun κ:Ev.Ren=>[(ki3a37 s bp),isA (dv κ 403) (if x.st=0 then x.hs else []),putA c p bp x]):=(trE (c:=⟨s.W0,s.F0⟩) 5 (kn [pz bp,iN (s.st),iz (s.a0),iz (s.a1),iz (s.a2),iz (s.a3),iz (s.a4),iz (s.a5),iz (s.a6),uz (s.nx),uz (s.was),iz (s.g)] fr [] [] [] fn fn fn s.W0 s.F0 [[putA c p bp x],[Ev.atD 403 (fun v=>isA v (if x.st=0 then x.hs else [])),Ev.atD 403 (fun v=>putA c p bp x)]] [⟨[21,87],[sy 0,.pointer none],none,0,none,.bool true,none⟩] [⟨51,[sy 0],0,some 403,.complex .f32 403 0,some 1⟩]) (fc (Ev.ptr_neq rfl (by kernel_rfl)) fn) (fc (cd rfl [fun v=>isA v (if x.st=0 then x.hs else []),fun v=>putA c p bp x] [0] [] (fun w F ho hn hF=>put_over hp hx hn)) fn) rfl [(4,s.bx)] ki3a28 ki3a28 1 rfl rfl ki3a1 (.complex .f32 403 0)).conv (fun κ w=>⟨(fun _ h=>h),(fun _ h=>Ev.undy (a:=fun v=>isA v (if x.st=0 then x.hs else [])) (fun _ _ _ _ _ h=>h) h),(fun _ h=>Ev.undy (a:=fun v=>putA c p bp x) (fun _ _ _ _ _ h=>h) h),trivial⟩)
theorem nrZ (s:GP) : Ev.PieE Try.prog 90 [] 0 14 ⟨s.W0,s.F0⟩ [(0,(pz s.bx)),(1,(pz s.bm))] (ki3a27 s) (fun κ:Ev.Ren=>(.bool true)) (fun κ:Ev.Ren=>(ki3a27 s)):=(trE (c:=⟨s.W0,s.F0⟩) 3 (kn [s.pv,pz s.bm,iz (s.a0),iz (s.a1),iz (s.a2),iz (s.a3),iz (s.a4),iz (s.a5),iz (s.a6),uz (s.nx),uz (s.was),iz (s.g)] (fc s.lpv fr) [] [] [] fn fn fn s.W0 s.F0 [[]] [] []) fn fn rfl [(4,s.bx)] ki3a60 ki3a60 0 rfl rfl [(0,.pointer (some ⟨4,0,none⟩)),(1,sy 1)] (.bool true))
end Go.Proofs.Ytbcnbofkgkheeaa
namespace Go.Proofs.Ytbcnbofkgkheeaa
open Go.RowKit
open Go.Ev (sy)
set_option linter.unusedVariables false
set_option linter.unusedSimpArgs false
set_option maxRecDepth 8000
theorem mach_any {c:Cfg} {p bx:Nat} {k:KickS} {ctx:Ev.Ctx} {l:List Ev.Asr} {w:World} (h:Ev.Hold ctx (machA c p bx k::l) w) :
  ∃ pv,Ev.leafV pv=true∧∃ rest,Ev.Hold ctx (Ev.blkA bx (kickC c p k pv) (kickT k.dem)::(rest++l)) w∧∀ w',Ev.Hold ctx (Ev.blkA bx (kickC c p k pv) (kickT k.dem)::(rest++l)) w'→Ev.Hold ctx (machA c p bx k::l) w':=by
 cases hp:k.put with
 | none=>exact ⟨.pointer none,rfl,[],mach_none hp h,fun w' h'=>none_mach hp h'⟩
 | some x =>
  obtain ⟨bp,hh⟩:=mach_some hp h
  exact ⟨.pointer (some ⟨bp,0,none⟩),rfl,[putA c p bp x],hh,fun w' h'=>some_mach hp h'⟩
section
variable {w:World} {F:Nat→Prop} {c:Cfg} {p:Nat} {k:KickS} {bx:Nat}
theorem demote_kicked (hp:p < c.n) (hd:k.dem=true) (hk:KickOk c k) (h:Ev.Now [machA c p bx k] F w) :
  Calls Try.prog 120 #[.pointer (some ⟨bx,0,none⟩)] w fun e w'=>e=.returned (.bool k.put.isSome)∧Ev.Hold ⟨w,F⟩ [machA c p bx k] w':=by
 obtain ⟨dem,gg,st,was,put⟩:=k
 have hd':dem=true:=hd
 subst hd'
 cases put with
 | none =>
  obtain ⟨F',n1,n2,n3⟩:=(mach_none rfl (Ev.Hold.start h)).ex
  exact startP (ndC ⟨w,F',c.n,c.q,c.g,c.m,c.t,c.s,p,KickS.nx ⟨true,gg,st,was,none⟩,st,was,gg,.pointer none,rfl,bx,0,hk.st⟩) (by kernel_rfl) n1 (by simp) (by simp) (fun κ w1 h1=>⟨rfl,none_mach (k:=⟨true,gg,st,was,none⟩) rfl (h1.into (l:=[]) n2 n3)⟩)
 | some x =>
  obtain ⟨bp,hh⟩:=mach_some rfl (Ev.Hold.start h)
  obtain ⟨F',n1,n2,n3⟩:=hh.ex
  exact startP (ndD ⟨w,F',c.n,c.q,c.g,c.m,c.t,c.s,p,KickS.nx ⟨true,gg,st,was,some x⟩,st,was,gg,.pointer none,rfl,bx,0,hk.st⟩ c p hp bp x (hk.put x rfl)) (by kernel_rfl) n1 (by simp) (by simp) (fun κ w1 h1=>⟨rfl,some_mach (k:=⟨true,gg,st,was,some x⟩) rfl (h1.into (l:=[]) n2 n3)⟩)
theorem demote_over (hp:p < c.n) (hd:k.dem=true) (hk:KickOk c k) (h:Ev.Now [machA c p bx k] F w) :
  Calls Try.prog 121 #[.pointer (some ⟨bx,0,none⟩)] w fun e w'=>∃ v cd,Ev.dec cd=v∧e=.returned v∧Ev.Hold ⟨w,F⟩ [isA v k.over,machA c p bx k] w':=by
 obtain ⟨dem,gg,st,was,put⟩:=k
 have hd':dem=true:=hd
 subst hd'
 cases put with
 | none =>
  obtain ⟨F',n1,n2,n3⟩:=(mach_none rfl (Ev.Hold.start h)).ex
  exact startP (ndE ⟨w,F',c.n,c.q,c.g,c.m,c.t,c.s,p,KickS.nx ⟨true,gg,st,was,none⟩,st,was,gg,.pointer none,rfl,bx,0,hk.st⟩) (by kernel_rfl) n1 (by simp) (by simp) (fun κ w1 h1=>⟨_,_,Ev.dec_slice0,rfl,(none_mach (k:=⟨true,gg,st,was,none⟩) rfl (h1.into (l:=[]) n2 n3)).nilSl (e := 3) (sz:=1)⟩)
 | some x =>
  obtain ⟨bp,hh⟩:=mach_some rfl (Ev.Hold.start h)
  obtain ⟨F',n1,n2,n3⟩:=hh.ex
  refine startP (ndF ⟨w,F',c.n,c.q,c.g,c.m,c.t,c.s,p,KickS.nx ⟨true,gg,st,was,some x⟩,st,was,gg,.pointer none,rfl,bx,0,hk.st⟩ c p hp bp x (hk.put x rfl)) (by kernel_rfl) n1 (by simp) (by simp) (fun κ w1 h1=>⟨_,_,rfl,rfl,?_⟩)
  exact (some_mach (k:=⟨true,gg,st,was,some x⟩) rfl ((h1.into (l:=[]) n2 n3).sel [0,2,1] (by kernel_rfl))).sel [1,0] (by kernel_rfl)
end
section
variable {w:World} {F:Nat→Prop} {c:Cfg} {p:Nat} {k:KickS} {bx:Nat}
theorem ready_kicked (hp:p < c.n) (hd:k.dem=false) (hk:KickOk c k) (h:Ev.Now [machA c p bx k] F w) :
  Calls Try.prog 50 #[.pointer (some ⟨bx,0,none⟩)] w fun e w'=>e=.returned (.bool k.put.isSome)∧Ev.Hold ⟨w,F⟩ [machA c p bx k] w':=by
 obtain ⟨dem,gg,st,was,put⟩:=k
 have hd':dem=false:=hd
 subst hd'
 cases put with
 | none =>
  obtain ⟨F',n1,n2,n3⟩:=(mach_none rfl (Ev.Hold.start h)).ex
  exact startP (nrC ⟨w,F',c.n,c.q,c.g,c.m,c.t,c.s,p,KickS.nx ⟨false,gg,st,was,none⟩,st,was,gg,.pointer none,rfl,bx,0,hk.st⟩) (by kernel_rfl) n1 (by simp) (by simp) (fun κ w1 h1=>⟨rfl,none_mach (k:=⟨false,gg,st,was,none⟩) rfl (h1.into (l:=[]) n2 n3)⟩)
 | some x =>
  obtain ⟨bp,hh⟩:=mach_some rfl (Ev.Hold.start h)
  obtain ⟨F',n1,n2,n3⟩:=hh.ex
  exact startP (nrD ⟨w,F',c.n,c.q,c.g,c.m,c.t,c.s,p,KickS.nx ⟨false,gg,st,was,some x⟩,st,was,gg,.pointer none,rfl,bx,0,hk.st⟩ c p hp bp x (hk.put x rfl)) (by kernel_rfl) n1 (by simp) (by simp) (fun κ w1 h1=>⟨rfl,some_mach (k:=⟨false,gg,st,was,some x⟩) rfl (h1.into (l:=[]) n2 n3)⟩)
theorem ready_over (hp:p < c.n) (hd:k.dem=false) (hk:KickOk c k) (h:Ev.Now [machA c p bx k] F w) :
  Calls Try.prog 29 #[.pointer (some ⟨bx,0,none⟩)] w fun e w'=>∃ v cd,Ev.dec cd=v∧e=.returned v∧Ev.Hold ⟨w,F⟩ [isA v k.over,machA c p bx k] w':=by
 obtain ⟨dem,gg,st,was,put⟩:=k
 have hd':dem=false:=hd
 subst hd'
 cases put with
 | none =>
  obtain ⟨F',n1,n2,n3⟩:=(mach_none rfl (Ev.Hold.start h)).ex
  exact startP (nrE ⟨w,F',c.n,c.q,c.g,c.m,c.t,c.s,p,KickS.nx ⟨false,gg,st,was,none⟩,st,was,gg,.pointer none,rfl,bx,0,hk.st⟩) (by kernel_rfl) n1 (by simp) (by simp) (fun κ w1 h1=>⟨_,_,Ev.dec_slice0,rfl,(none_mach (k:=⟨false,gg,st,was,none⟩) rfl (h1.into (l:=[]) n2 n3)).nilSl (e := 3) (sz:=1)⟩)
 | some x =>
  obtain ⟨bp,hh⟩:=mach_some rfl (Ev.Hold.start h)
  obtain ⟨F',n1,n2,n3⟩:=hh.ex
  refine startP (nrF ⟨w,F',c.n,c.q,c.g,c.m,c.t,c.s,p,KickS.nx ⟨false,gg,st,was,some x⟩,st,was,gg,.pointer none,rfl,bx,0,hk.st⟩ c p hp bp x (hk.put x rfl)) (by kernel_rfl) n1 (by simp) (by simp) (fun κ w1 h1=>⟨_,_,rfl,rfl,?_⟩)
  exact (some_mach (k:=⟨false,gg,st,was,some x⟩) rfl ((h1.into (l:=[]) n2 n3).sel [0,2,1] (by kernel_rfl))).sel [1,0] (by kernel_rfl)
end
end Go.Proofs.Ytbcnbofkgkheeaa
namespace Go.Proofs.Ytbcnbofkgkheeaa
open Go.RowKit
open Go.Ev (sy iz uz wz iN uN wN pz dv fc fn ak vk vd kn pc cc cr cm cd fr)
set_option linter.unusedVariables false
set_option linter.unusedSimpArgs false
set_option maxRecDepth 8000
attribute [local irreducible] Ev.wpL
abbrev ki5a1:List (Nat×Value):=[(0,.agg #[sy 0,sy 1,sy 2,sy 3,sy 4,sy 5]),(1,sy 6)]
abbrev ki5a2 (c:Cfg) : Value:=(.agg #[(iN (c.n)),(iN (c.q)),(iz (c.g)),(iz (c.m)),(iz (c.t)),(iz (c.s))])
abbrev ki5a12:List (Nat×Value):=[(0,.agg #[sy 0,sy 1,sy 2,sy 3,sy 4,sy 5]),(1,sy 6),(2,sy 7)]
theorem nwdok (W0:World) (F0:Nat→Prop) (c:Cfg) (p:Nat) (hp:p < c.n) : Ev.PieE Try.prog 21 [] 0 10 ⟨W0,F0⟩ [(0,(ki5a2 c)),(1,(iN (p)))] [] (fun κ:Ev.Ren=>(pz ((κ 416).getD 0))) (fun κ:Ev.Ren=>[Ev.blkA ((κ 416).getD 0) [(iN (c.n)),(iN (c.q)),(iz (c.g)),(iz (c.m)),(iz (c.t)),(iz (c.s)),(iN (p)),(.int .u64 0),(.bool true),(.int .i64 1),(.int .u64 0),(.pointer none)] 95]):=(trE (c:=⟨W0,F0⟩) 3 (kn [iN (c.n),iN (c.q),iz (c.g),iz (c.m),iz (c.t),iz (c.s),iN (p),iN (c.word p)] fr [(.geq,sy 7,.int .i64 0,.bool true)] [] [] (fc (fun _ _ _=>Ev.bt_geq (by have q0:=c.z hp; first | (simp; done) | (simp; omega))) fn) fn fn W0 F0 [[]] [] [⟨26,[.agg #[sy 0,sy 1,sy 2,sy 3,sy 4,sy 5],sy 6],0,none,sy 7,none⟩]) fn (fc (pc rfl (fun w hb=>word_ok c p hp w)) fn) rfl [] [] [(416,[sy 0,sy 1,sy 2,sy 3,sy 4,sy 5,sy 6,.int .u64 0,.bool true,.int .i64 1,.int .u64 0,.pointer none],95)] 0 rfl rfl ki5a1 (.pointer (some ⟨416,0,none⟩)))
theorem nwrok (W0:World) (F0:Nat→Prop) (c:Cfg) (p:Nat) (hp:p < c.n) (gg:Int) (hg:0≤gg∧gg≤9223372036854775807) : Ev.PieE Try.prog 18 [] 0 20 ⟨W0,F0⟩ [(0,(ki5a2 c)),(1,(iN (p))),(2,(iz (gg)))] [] (fun κ:Ev.Ren=>(pz ((κ 416).getD 0))) (fun κ:Ev.Ren=>[Ev.blkA ((κ 416).getD 0) [(iN (c.n)),(iN (c.q)),(iz (c.g)),(iz (c.m)),(iz (c.t)),(iz (c.s)),(iN (p)),(uz (gg+1)),(.bool false),(.int .i64 1),(.int .u64 0),(.pointer none),(iz (gg))] 91]):=(trE (c:=⟨W0,F0⟩) 5 (kn [iN (c.n),iN (c.q),iz (c.g),iz (c.m),iz (c.t),iz (c.s),iN (p),iz (gg),uz (gg),uz (gg+1),iN (c.word p)] fr [(.lss,sy 7,.int .i64 0,.bool false),(.add,sy 8,.int .u64 1,sy 9),(.geq,sy 10,.int .i64 0,.bool true)] [] [(.u64,sy 7,sy 8)] (fc (fun _ _ _=>Ev.bt_lss (by have q0:=c.z hp; first | (simp; done) | (simp; omega))) (fc (fun _ _ _=>Ev.bt_add (wrapU (by omega) (by omega))) (fc (fun _ _ _=>Ev.bt_geq (by have q0:=c.z hp; first | (simp; done) | (simp; omega))) fn))) fn (fc (Ev.ct_in rfl rfl (wrapU (by omega) (by omega))) fn) W0 F0 [[]] [] [⟨26,[.agg #[sy 0,sy 1,sy 2,sy 3,sy 4,sy 5],sy 6],0,none,sy 10,none⟩]) fn (fc (pc rfl (fun w hb=>word_ok c p hp w)) fn) rfl [] [] [(416,[sy 0,sy 1,sy 2,sy 3,sy 4,sy 5,sy 6,sy 9,.bool false,.int .i64 1,.int .u64 0,.pointer none,sy 7],91)] 0 rfl rfl ki5a12 (.pointer (some ⟨416,0,none⟩)))
end Go.Proofs.Ytbcnbofkgkheeaa
