/- Part of a proof: see the last text. -/
import Derived.Test.YtbcnbofkgkheeaaZk16
namespace Go.Proofs.Ytbcnbofkgkheeaa
open Go.RowKit
open Go.Ev (sy iz uz wz iN uN wN pz dv fc fn ak vk vd kn pc cc cr cm cd fr)
set_option linter.unusedVariables false
set_option linter.unusedSimpArgs false
set_option maxRecDepth 8000
attribute [local irreducible] Ev.wpL
abbrev sm1a18 (a:Value) (b:Value) (xs:List Int) (ys:List Int) : List Ev.Asr:=[Ev.slA 3 1 (a) (xs.length) (ints xs),Ev.slA 3 1 (b) (ys.length) (ints ys)]
abbrev sm1a23 (a:Value) (b:Value) (xs:List Int) (ys:List Int) (us:List Int) : List Ev.Asr:=[Ev.slA 3 1 (a) (xs.length) (ints us),Ev.slA 3 1 (b) (ys.length) (ints ys)]
theorem siAY (W0:World) (F0:Nat→Prop) (a b:Value) (la:Ev.leafV a=true) (lb:Ev.leafV b=true) (xs ys:List Int) (hx:xs.length≤1000000) (hy:ys.length≤1000000) (h1:¬ ((xs.length:Nat) : Int) ≠ ((ys.length:Nat) : Int)) : Ev.Pie Try.prog 16 [] 0 4 26 ⟨W0,F0⟩ [(0,(a)),(1,(b))] (sm1a18 a b xs ys) .normal (fun κ:Ev.Ren=>[(0,(a)),(1,(b)),(5,(.int .i64 0))]) (fun κ:Ev.Ren=>(sm1a18 a b xs ys)):=(tr (c:=⟨W0,F0⟩) (kn [a,b,iN (xs.length),iN (ys.length)] (fc (by assumption) (fc (by assumption) fr)) [(.neq,sy 2,sy 3,.bool false)] [] [] (fc (fun _ _ _=>Ev.bt_neq (by first | (simpa using h1) | (simp; omega))) fn) fn fn W0 F0 [(sm1a18 a b xs ys)] [⟨[10,36],[sy 0],none,0,none,sy 2,none⟩,⟨[10,36],[sy 1],none,0,none,sy 3,none⟩] []) (fc (by obtain ⟨i,i1,i2,i3,i4⟩:=infInt; exact Ev.sl_len (ci:=1) rfl rfl Try.underlying36 i2 rfl rfl) (fc (by obtain ⟨i,i1,i2,i3,i4⟩:=infInt; exact Ev.sl_len (ci:=2) rfl rfl Try.underlying36 i2 rfl rfl) fn)) fn rfl [] [] [] 0 rfl rfl [(0,sy 0),(1,sy 1)] [(0,sy 0),(1,sy 1),(5,.int .i64 0)] .normal)
theorem siBY (W0:World) (F0:Nat→Prop) (a b:Value) (la:Ev.leafV a=true) (lb:Ev.leafV b=true) (xs ys:List Int) (hx:xs.length≤1000000) (hy:ys.length≤1000000) (us:List Int) (hu:us.length=xs.length) (hxy:xs.length=ys.length) (j:Nat) (hj:j < xs.length) (x y:Int) (hxj:us[j]? = some x) (hyj:ys[j]? = some y) (h1:¬ (x) ≠ (y)) : Ev.Pie Try.prog 16 [8,0] 0 4 26 ⟨W0,F0⟩ [(0,(a)),(1,(b)),(5,(iN (j)))] (sm1a23 a b xs ys us) .normal (fun κ:Ev.Ren=>[(0,(a)),(1,(b)),(5,(iN ((j)+1)))]) (fun κ:Ev.Ren=>(sm1a23 a b xs ys us)):=(tr (c:=⟨W0,F0⟩) (kn [a,b,Ev.ptrR (a) ((j) * 1),Ev.ptrR (b) ((j) * 1),iN (j),iN (xs.length),iz (x),iz (y),iN ((j)+1)] (fc (by assumption) (fc (by assumption) (fc (Ev.ptrR_leaf _ _) (fc (Ev.ptrR_leaf _ _) fr)))) [(.lss,sy 4,sy 5,.bool true),(.neq,sy 6,sy 7,.bool false),(.add,sy 4,.int .i64 1,sy 8)] [] [] (fc (fun _ _ _=>Ev.bt_lss (by have z1:=hx; have z2:=hy; have z3:=hu; have z4:=hxy; first | (simp; done) | (simp; omega))) (fc (fun _ _ _=>Ev.bt_neq (by have z1:=hx; have z2:=hy; have z3:=hu; have z4:=hxy; first | (simpa using h1) | (simp; omega))) (fc (fun _ _ _=>Ev.bt_add (by have z1:=hx; have z2:=hy; have z3:=hu; have z4:=hxy; rw [wrap_ok (by omega) (by omega)]; omega)) fn))) fn fn W0 F0 [(sm1a23 a b xs ys us)] [⟨[10,36],[sy 0],none,0,none,sy 5,none⟩,⟨[3,36],[sy 0,sy 4],none,0,none,sy 2,none⟩,⟨[1,3],[sy 2],none,0,none,sy 6,none⟩,⟨[3,36],[sy 1,sy 4],none,0,none,sy 3,none⟩,⟨[1,3],[sy 3],none,0,none,sy 7,none⟩] []) (fc (by obtain ⟨i,i1,i2,i3,i4⟩:=infInt; exact Ev.sl_len (ci:=1) rfl rfl Try.underlying36 i2 rfl rfl) (fc (by obtain ⟨i,i1,i2,i3,i4⟩:=infInt; have z1:=hx; have z2:=hy; have z3:=hu; have z4:=hxy; exact Ev.sl_index (ci:=1) (j:=(j)) rfl rfl Try.underlying36 i1 i2 rfl rfl (by omega) rfl) (fc (by have z1:=hx; have z2:=hy; have z3:=hu; have z4:=hxy; exact Ev.sl_load (ci:=1) (m:=(j) * 1) (x:=(iz (x))) rfl rfl loadInt (by simp [ints,List.getElem?_map,hxj]) (by simp; omega) rfl (fun ι=>(vk (by kernel_rfl) (by kernel_rfl)))) (fc (by obtain ⟨i,i1,i2,i3,i4⟩:=infInt; have z1:=hx; have z2:=hy; have z3:=hu; have z4:=hxy; exact Ev.sl_index (ci:=2) (j:=(j)) rfl rfl Try.underlying36 i1 i2 rfl rfl (by omega) rfl) (fc (by have z1:=hx; have z2:=hy; have z3:=hu; have z4:=hxy; exact Ev.sl_load (ci:=2) (m:=(j) * 1) (x:=(iz (y))) rfl rfl loadInt (by simp [ints,List.getElem?_map,hyj]) (by simp; omega) rfl (fun ι=>(vk (by kernel_rfl) (by kernel_rfl)))) fn))))) fn rfl [] [] [] 0 rfl rfl [(0,sy 0),(1,sy 1),(5,sy 4)] [(0,sy 0),(1,sy 1),(5,sy 8)] .normal)
theorem siCE (W0:World) (F0:Nat→Prop) (a b:Value) (la:Ev.leafV a=true) (lb:Ev.leafV b=true) (xs ys:List Int) (hx:xs.length≤1000000) (hy:ys.length≤1000000) (us:List Int) (hu:us.length=xs.length) : Ev.Pie Try.prog 16 [8,0] 0 4 26 ⟨W0,F0⟩ [(0,(a)),(1,(b)),(5,(iN (xs.length)))] (sm1a23 a b xs ys us) (.exit 0) (fun κ:Ev.Ren=>[(0,(a)),(1,(b))]) (fun κ:Ev.Ren=>(sm1a23 a b xs ys us)):=(tr (c:=⟨W0,F0⟩) (kn [a,b,iN (xs.length)] (fc (by assumption) (fc (by assumption) fr)) [(.lss,sy 2,sy 2,.bool false)] [] [] (fc (fun _ _ _=>Ev.bt_lss (by have z3:=hu; first | (simp; done) | (simp; omega))) fn) fn fn W0 F0 [(sm1a23 a b xs ys us)] [⟨[10,36],[sy 0],none,0,none,sy 2,none⟩] []) (fc (by obtain ⟨i,i1,i2,i3,i4⟩:=infInt; exact Ev.sl_len (ci:=1) rfl rfl Try.underlying36 i2 rfl rfl) fn) fn rfl [] [] [] 0 rfl rfl [(0,sy 0),(1,sy 1),(5,sy 2)] [(0,sy 0),(1,sy 1)] (.exit 0))
theorem siCL (W0:World) (F0:Nat→Prop) (a b:Value) (la:Ev.leafV a=true) (lb:Ev.leafV b=true) (xs ys:List Int) (hx:xs.length≤1000000) (hy:ys.length≤1000000) (us:List Int) (hu:us.length=xs.length) : Ev.Pie Try.prog 16 [] 5 2 26 ⟨W0,F0⟩ [(0,(a)),(1,(b))] (sm1a23 a b xs ys us) .ret (fun κ:Ev.Ren=>[(4,(.bool true))]) (fun κ:Ev.Ren=>(sm1a23 a b xs ys us)):=(tr (c:=⟨W0,F0⟩) (kn [a,b,iN (xs.length)] (fc (by assumption) (fc (by assumption) fr)) [] [] [] fn fn fn W0 F0 [(sm1a23 a b xs ys us)] [] []) fn fn rfl [] [] [] 0 rfl rfl [(0,sy 0),(1,sy 1)] [(4,.bool true)] .ret)
end Go.Proofs.Ytbcnbofkgkheeaa
namespace Go.Proofs.Ytbcnbofkgkheeaa
open Go.RowKit
open Go.Ev (sy)
set_option linter.unusedVariables false
set_option linter.unusedSimpArgs false
set_option maxRecDepth 8000
theorem same_ints {w:World} {F:Nat→Prop} {a b:Value} (la:Ev.leafV a=true) (lb:Ev.leafV b=true) {xs:List Int} (hx:xs.length≤1000000) (h:Ev.Now [Ev.slA 3 1 a xs.length (ints xs),Ev.slA 3 1 b xs.length (ints xs)] F w) :
  Calls Try.prog 16 #[a,b] w fun e w'=>e=.returned (.bool true)∧Ev.Hold ⟨w,F⟩ [Ev.slA 3 1 a xs.length (ints xs),Ev.slA 3 1 b xs.length (ints xs)] w':=by
 refine Ev.con_start (N:=26) (tm:=[(0,a),(1,b)]) (by kernel_rfl) h (by simp) (by simp) (fun A hA=>?_)
 refine siAY w F a b la lb xs xs hx hx (by simp) A w _ hA ?_
 intro κ A1 w1 h1
 refine Ev.in_block (id:=0) (by kernel_rfl) ?_
 refine Ev.loop_st (by kernel_rfl) (fun (j:Nat) A w'=>Ev.At ⟨w,F⟩ 26 [(0,a),(1,b),(5,.int .i64 (j:Int))] [Ev.slA 3 1 a xs.length (ints xs),Ev.slA 3 1 b xs.length (ints xs)] A w'∧j≤xs.length) (fun j=>xs.length - j) (x:=0) ⟨h1,by omega⟩ ?_
 clear h1 hA A1 w1
 rintro j A1 w1 ⟨h1,hj⟩
 by_cases hlt:j < xs.length
 ·refine siBY w F a b la lb xs xs hx hx xs rfl rfl j hlt xs[j] xs[j] (List.getElem?_eq_getElem hlt) (List.getElem?_eq_getElem hlt) (by simp) A1 w1 _ h1 ?_
  intro κ A2 w2 h2
  exact Ev.wpL_nil (by kernel_rfl) ⟨j+1,⟨h2,hlt⟩,by omega⟩
 ·obtain rfl:j=xs.length:=by omega
  refine siCE w F a b la lb xs xs hx hx xs rfl A1 w1 _ h1 ?_
  intro κ A2 w2 h2
  refine siCL w F a b la lb xs xs hx hx xs rfl A2 w2 _ h2 ?_
  intro κ A3 w3 h3
  exact h3.ret (by kernel_rfl) (List.mem_singleton.2 rfl) (fun hh=>⟨rfl,hh⟩)
end Go.Proofs.Ytbcnbofkgkheeaa
namespace Go.Proofs.Ytbcnbofkgkheeaa
open Go.RowKit
open Go.Ev (sy iz uz wz iN uN wN pz dv fc fn ak vk vd kn pc cc cr cm cd fr)
set_option linter.unusedVariables false
set_option linter.unusedSimpArgs false
set_option maxRecDepth 8000
attribute [local irreducible] Ev.wpL
theorem slA_leaf {l:List Ev.Asr} {F:Nat→Prop} {w:World} (h:Ev.Now l F w) {i:Nat} {e:TypeId} {sz n:Nat} {v:Value} {xs:List Value} (hi:l[i]? = some (Ev.slA e sz v n xs)) : Ev.leafV v=true:=by
 obtain ⟨f,hf⟩:=h.part hi
 exact Ev.SlV.leaf hf
end Go.Proofs.Ytbcnbofkgkheeaa
namespace Go.Proofs.Ytbcnbofkgkheeaa
open Go.RowKit
open Go.Ev (sy iz uz wz iN uN wN pz dv fc fn ak vk vd kn pc cc cr cm cd fr)
set_option linter.unusedVariables false
set_option linter.unusedSimpArgs false
set_option maxRecDepth 8000
attribute [local irreducible] Ev.wpL
structure SP where
 W0:World
 F0:Nat→Prop
 c:Cfg
 p:Nat
 hp:p < c.n
 gg:Int
 hg:0≤gg∧gg≤9223372036854775807
 w:Int
 hw:U64 w
 k:Int
 bp:Nat
 bm:Nat
 m:MemM
 tk:Value
 hd:Value
 ltk:Ev.leafV tk=true
 lhd:Ev.leafV hd=true
 ts:List Int
 hs:List Int
 hl:m.cells.length=4+c.off c.n
 hts:ts.length≤64
theorem mem_bd {xs:List Int} {a:Nat} {x:Int} (h:xs[a]? = some x) (hl:xs.length≤1000000) : (a:Int)≤9223372036854775807:=by
 have:=(List.getElem?_eq_some_iff.1 h).1
 omega
abbrev SP.i4 (s:SP) : Int:=IntKind.u32.wrap (tlW s.w+IntKind.u32.wrap (((s.ts.length:Nat) : Int) - ((s.c.q / 2:Nat) : Int)))
abbrev pu1a0 (s:SP) : Value:=(.agg #[(iN (s.c.n)),(iN (s.c.q)),(iz (s.c.g)),(iz (s.c.m)),(iz (s.c.t)),(iz (s.c.s))])
abbrev pu1a1:List Ev.Blk:=[(4,[sy 9,sy 2,sy 10,sy 11,sy 12,sy 13,sy 14,.int .i64 1,sy 15,sy 16,sy 6,sy 0,sy 1],122)]
abbrev pu1a3:List (Nat×Value):=[(0,.pointer (some ⟨4,0,none⟩)),(1,sy 17)]
abbrev pu1a4 (s:SP) : Ev.Asr:=Ev.slA 3 1 (s.tk) (s.ts.length) (ints s.ts)
abbrev pu1a5 (s:SP) : Ev.Asr:=Ev.slA 3 1 (s.hd) (s.hs.length) (ints s.hs)
abbrev pu1a6 (s:SP) : List Ev.Asr:=[memA s.bm s.m,(pu1a4 s),(pu1a5 s)]
abbrev pu1a7 (s:SP) : List Ev.Asr:=[memA s.bm s.m.tick,(pu1a4 s),(pu1a5 s)]
abbrev pu1a8 (s:SP) : List (Nat×Value):=[(0,(pz s.bp)),(1,(pz s.bm))]
abbrev pu1a10 (s:SP) : Ev.Asr:=Ev.blkA s.bp [(iN (s.c.n)),(iN (s.c.q)),(iz (s.c.g)),(iz (s.c.m)),(iz (s.c.t)),(iz (s.c.s)),(iN (s.p)),(.int .i64 1),(uz (s.w)),(wz (s.k)),(iz (s.gg)),(s.tk),(s.hd)] 122
abbrev pu1a11 (s:SP) : List Ev.Asr:=[(pu1a10 s),memA s.bm s.m,(pu1a4 s),(pu1a5 s)]
abbrev pu1a20:List Ev.Blk:=[(4,[sy 9,sy 2,sy 10,sy 11,sy 12,sy 13,sy 14,.int .i64 3,sy 15,sy 16,sy 6,sy 0,sy 1],122)]
abbrev pu1a27 (s:SP) : Ev.Asr:=Ev.blkA s.bp [(iN (s.c.n)),(iN (s.c.q)),(iz (s.c.g)),(iz (s.c.m)),(iz (s.c.t)),(iz (s.c.s)),(iN (s.p)),(.int .i64 3),(uz (s.w)),(wz (s.k)),(iz (s.gg)),(s.tk),(s.hd)] 122
abbrev pu1a29 (s:SP) : List Ev.Asr:=[(pu1a27 s),memA s.bm s.m,(pu1a4 s),(pu1a5 s)]
abbrev pu1a30 (s:SP) : List Ev.Asr:=[(pu1a10 s),memA s.bm s.m.tick,(pu1a4 s),(pu1a5 s)]
abbrev pu1a37:List Ev.Blk:=[(4,[sy 9,sy 2,sy 10,sy 11,sy 12,sy 13,sy 14,.int .i64 4,sy 15,sy 16,sy 6,sy 0,sy 1],122)]
abbrev pu1a40 (s:SP) (x:Int) : List Ev.Asr:=[memA s.bm s.m.tick,Ev.atD 415 (fun v=>Ev.slA 3 1 v (s.ts.length+1) ((ints s.ts)++[(iz (IntKind.i64.wrap (x)))])),(pu1a5 s)]
abbrev pu1a43 (s:SP) : List Ev.Asr:=[Ev.blkA s.bp [(iN (s.c.n)),(iN (s.c.q)),(iz (s.c.g)),(iz (s.c.m)),(iz (s.c.t)),(iz (s.c.s)),(iN (s.p)),(.int .i64 4),(uz (s.w)),(wz (s.k)),(iz (s.gg)),(s.tk),(s.hd)] 122,memA s.bm s.m,(pu1a4 s),(pu1a5 s)]
abbrev pu1a45:List Ev.Blk:=[(4,[sy 9,sy 2,sy 10,sy 11,sy 12,sy 13,sy 14,.int .i64 5,sy 15,sy 16,sy 6,sy 0,sy 1],122)]
abbrev pu1a48 (s:SP) : List Ev.Asr:=[Ev.blkA s.bp [(iN (s.c.n)),(iN (s.c.q)),(iz (s.c.g)),(iz (s.c.m)),(iz (s.c.t)),(iz (s.c.s)),(iN (s.p)),(.int .i64 5),(uz (s.w)),(wz (s.k)),(iz (s.gg)),(s.tk),(s.hd)] 122,memA s.bm s.m,(pu1a4 s),(pu1a5 s)]
abbrev pu1a50 (s:SP) : Ev.Asr:=memA s.bm (s.m.put (s.c.word s.p) (mvW s.w (-((s.c.q / 2:Nat) : Int))))
theorem pua (s:SP) (x:Int) (hxu:U64 x) (hxa:s.m.cells[s.c.word s.p]? = some x) (h1:(szW (x)) ≥ ((s.c.q:Nat) : Int)) : Ev.PieE Try.prog 98 [] 0 20 ⟨s.W0,s.F0⟩ (pu1a8 s) (pu1a11 s) (fun κ:Ev.Ren=>(.bool false)) (fun κ:Ev.Ren=>[Ev.blkA s.bp [(iN (s.c.n)),(iN (s.c.q)),(iz (s.c.g)),(iz (s.c.m)),(iz (s.c.t)),(iz (s.c.s)),(iN (s.p)),(.int .i64 4),(uz (x)),(.int .u32 0),(iz (s.gg)),(.slice none 0 0),(s.hd)] 122,memA s.bm s.m.tick,(pu1a4 s),(pu1a5 s)]):=(trE (c:=⟨s.W0,s.F0⟩) 5 (kn [s.tk,s.hd,iN (s.c.q),iN (s.c.q / 2),wN (s.c.q / 2),wN (s.c.q),iz (s.gg),uz (s.gg),wz (tlW (s.w)),iN (s.c.n),iz (s.c.g),iz (s.c.m),iz (s.c.t),iz (s.c.s),iN (s.p),uz (s.w),wz (s.k),pz s.bm,iN (s.c.word s.p),uz (x),wz (szW (x))] (fc s.ltk (fc s.lhd fr)) [(.geq,sy 20,sy 5,.bool true)] [] [(.u32,sy 2,sy 5)] (fc (fun _ _ _=>Ev.bt_geq (by have q0:=s.c.z s.hp; have q6:=s.hl; have q8:=s.hg; have q9:=s.hts; first | (simpa using h1) | (simp; omega))) fn) fn (fc (Ev.ct_in rfl rfl (by have q2:=s.c.qb; rw [wrap32]; omega)) fn) s.W0 s.F0 [(pu1a6 s),(pu1a7 s)] [] [⟨26,[.agg #[sy 9,sy 2,sy 10,sy 11,sy 12,sy 13],sy 14],0,none,sy 18,none⟩,⟨12,[sy 17,sy 18],0,none,sy 19,some 1⟩,⟨112,[sy 19],1,none,sy 20,none⟩]) fn (fc (pc rfl (fun w hb=>word_ok s.c s.p s.hp w)) (fc (cc rfl [memA s.bm s.m.tick] [0] [1,2] (fun w F ho hn hF=>mem_loadH hn hxa (mem_bd hxa (by have q0:=s.c.z s.hp; have q6:=s.hl; have q8:=s.hg; have q9:=s.hts; omega)))) (fc (pc (args:=[(uz (x))]) rfl (fun w hb=>below_of (wLen _ hxu w))) fn))) rfl [(4,s.bp)] pu1a1 [(4,[sy 9,sy 2,sy 10,sy 11,sy 12,sy 13,sy 14,.int .i64 4,sy 19,.int .u32 0,sy 6,.slice none 0 0,sy 1],122)] 1 rfl rfl pu1a3 (.bool false))
theorem pub (s:SP) (x:Int) (hxu:U64 x) (hxa:s.m.cells[s.c.word s.p]? = some x) (h1:¬ (szW (x)) ≥ ((s.c.q:Nat) : Int)) : Ev.PieE Try.prog 98 [] 0 20 ⟨s.W0,s.F0⟩ (pu1a8 s) (pu1a11 s) (fun κ:Ev.Ren=>(.bool false)) (fun κ:Ev.Ren=>[Ev.blkA s.bp [(iN (s.c.n)),(iN (s.c.q)),(iz (s.c.g)),(iz (s.c.m)),(iz (s.c.t)),(iz (s.c.s)),(iN (s.p)),(.int .i64 2),(uz (x)),(.int .u32 0),(iz (s.gg)),(.slice none 0 0),(s.hd)] 122,memA s.bm s.m.tick,(pu1a4 s),(pu1a5 s)]):=(trE (c:=⟨s.W0,s.F0⟩) 5 (kn [s.tk,s.hd,iN (s.c.q),iN (s.c.q / 2),wN (s.c.q / 2),wN (s.c.q),iz (s.gg),uz (s.gg),wz (tlW (s.w)),iN (s.c.n),iz (s.c.g),iz (s.c.m),iz (s.c.t),iz (s.c.s),iN (s.p),uz (s.w),wz (s.k),pz s.bm,iN (s.c.word s.p),uz (x),wz (szW (x))] (fc s.ltk (fc s.lhd fr)) [(.geq,sy 20,sy 5,.bool false)] [] [(.u32,sy 2,sy 5)] (fc (fun _ _ _=>Ev.bt_geq (by have q0:=s.c.z s.hp; have q6:=s.hl; have q8:=s.hg; have q9:=s.hts; first | (simpa using h1) | (simp; omega))) fn) fn (fc (Ev.ct_in rfl rfl (by have q2:=s.c.qb; rw [wrap32]; omega)) fn) s.W0 s.F0 [(pu1a6 s),(pu1a7 s)] [] [⟨26,[.agg #[sy 9,sy 2,sy 10,sy 11,sy 12,sy 13],sy 14],0,none,sy 18,none⟩,⟨12,[sy 17,sy 18],0,none,sy 19,some 1⟩,⟨112,[sy 19],1,none,sy 20,none⟩]) fn (fc (pc rfl (fun w hb=>word_ok s.c s.p s.hp w)) (fc (cc rfl [memA s.bm s.m.tick] [0] [1,2] (fun w F ho hn hF=>mem_loadH hn hxa (mem_bd hxa (by have q0:=s.c.z s.hp; have q6:=s.hl; have q8:=s.hg; have q9:=s.hts; omega)))) (fc (pc (args:=[(uz (x))]) rfl (fun w hb=>below_of (wLen _ hxu w))) fn))) rfl [(4,s.bp)] pu1a1 [(4,[sy 9,sy 2,sy 10,sy 11,sy 12,sy 13,sy 14,.int .i64 2,sy 19,.int .u32 0,sy 6,.slice none 0 0,sy 1],122)] 1 rfl rfl pu1a3 (.bool false))
theorem puc (s:SP) (ha:s.c.slot s.p (tlW s.w) < s.m.cells.length) : Ev.PieE Try.prog 98 [] 0 20 ⟨s.W0,s.F0⟩ (pu1a8 s) [Ev.blkA s.bp [(iN (s.c.n)),(iN (s.c.q)),(iz (s.c.g)),(iz (s.c.m)),(iz (s.c.t)),(iz (s.c.s)),(iN (s.p)),(.int .i64 2),(uz (s.w)),(wz (s.k)),(iz (s.gg)),(s.tk),(s.hd)] 122,memA s.bm s.m,(pu1a4 s),(pu1a5 s)] (fun κ:Ev.Ren=>(.bool false)) (fun κ:Ev.Ren=>[(pu1a27 s),memA s.bm (s.m.put (s.c.slot s.p (tlW (s.w))) (s.gg)),(pu1a4 s),(pu1a5 s)]):=(trE (c:=⟨s.W0,s.F0⟩) 5 (kn [s.tk,s.hd,iN (s.c.q),iN (s.c.q / 2),wN (s.c.q / 2),wN (s.c.q),iz (s.gg),uz (s.gg),wz (tlW (s.w)),iN (s.c.n),iz (s.c.g),iz (s.c.m),iz (s.c.t),iz (s.c.s),iN (s.p),uz (s.w),wz (s.k),pz s.bm,iN (s.c.slot s.p (tlW (s.w)))] (fc s.ltk (fc s.lhd fr)) [(.add,sy 8,.int .u32 0,sy 8)] [] [(.u64,sy 6,sy 7)] (fc (fun _ _ _=>Ev.bt_add (by have:=tlW_bd s.w; rw [wrap32]; omega)) fn) fn (fc (Ev.ct_in rfl rfl (wrapU (by have q8:=s.hg; omega) (by have q8:=s.hg; omega))) fn) s.W0 s.F0 [(pu1a6 s),[memA s.bm (s.m.put (s.c.slot s.p (tlW (s.w))) (s.gg)),(pu1a4 s),(pu1a5 s)]] [] [⟨113,[sy 15],0,none,sy 8,none⟩,⟨27,[.agg #[sy 9,sy 2,sy 10,sy 11,sy 12,sy 13],sy 14,sy 8],0,none,sy 18,none⟩,⟨25,[sy 17,sy 18,sy 7],0,none,.tuple #[],some 1⟩]) fn (fc (pc (args:=[(uz (s.w))]) rfl (fun w hb=>below_of (wTail _ s.hw w))) (fc (pc (args:=[(pu1a0 s),(iN (s.p)),(wz (tlW (s.w)))]) rfl (fun w hb=>slot_ok s.c s.p s.hp (tlW (s.w)) (by first | exact (tlW_bd _).1 | exact wrap_nn _) w)) (fc (cc rfl [memA s.bm (s.m.put (s.c.slot s.p (tlW (s.w))) (s.gg))] [0] [1,2] (fun w F ho hn hF=>mem_storeH hn ha (by have q0:=s.c.z s.hp; have q6:=s.hl; have q8:=s.hg; have q9:=s.hts; omega) (s.gg))) fn))) rfl [(4,s.bp)] [(4,[sy 9,sy 2,sy 10,sy 11,sy 12,sy 13,sy 14,.int .i64 2,sy 15,sy 16,sy 6,sy 0,sy 1],122)] pu1a20 1 rfl rfl pu1a3 (.bool false))
theorem pud (s:SP) (x:Int) (hxu:U64 x) (hxa:s.m.cells[s.c.word s.p]? = some x) (hc:x ≠ s.w) : Ev.PieE Try.prog 98 [] 0 20 ⟨s.W0,s.F0⟩ (pu1a8 s) (pu1a29 s) (fun κ:Ev.Ren=>(.bool false)) (fun κ:Ev.Ren=>(pu1a30 s)):=(trE (c:=⟨s.W0,s.F0⟩) 5 (kn [s.tk,s.hd,iN (s.c.q),iN (s.c.q / 2),wN (s.c.q / 2),wN (s.c.q),iz (s.gg),uz (s.gg),wz (tlW (s.w)),iN (s.c.n),iz (s.c.g),iz (s.c.m),iz (s.c.t),iz (s.c.s),iN (s.p),uz (s.w),wz (s.k),pz s.bm,uz (mvW s.w 1),iN (s.c.word s.p)] (fc s.ltk (fc s.lhd fr)) [] [] [] fn fn fn s.W0 s.F0 [(pu1a6 s),(pu1a7 s)] [] [⟨109,[sy 15,.int .u32 1],0,none,sy 18,none⟩,⟨26,[.agg #[sy 9,sy 2,sy 10,sy 11,sy 12,sy 13],sy 14],0,none,sy 19,none⟩,⟨114,[sy 17,sy 19,sy 15,sy 18],0,none,.bool false,some 1⟩]) fn (fc (pc (args:=[(uz (s.w)),(.int .u32 1)]) rfl (fun w hb=>below_of (wGrow _ 1 s.hw w))) (fc (pc rfl (fun w hb=>word_ok s.c s.p s.hp w)) (fc (cc rfl [memA s.bm s.m.tick] [0] [1,2] (fun w F ho hn hF=>mem_noH hn hxa (by have q0:=s.c.z s.hp; have q6:=s.hl; have q8:=s.hg; have q9:=s.hts; omega) s.w (mvW s.w 1) hc)) fn))) rfl [(4,s.bp)] pu1a20 pu1a1 1 rfl rfl pu1a3 (.bool false))
theorem pue (s:SP) (x:Int) (hxu:U64 x) (hxa:s.m.cells[s.c.word s.p]? = some x) (hc:x=s.w) : Ev.PieE Try.prog 98 [] 0 20 ⟨s.W0,s.F0⟩ (pu1a8 s) (pu1a29 s) (fun κ:Ev.Ren=>(.bool true)) (fun κ:Ev.Ren=>[Ev.blkA s.bp [(iN (s.c.n)),(iN (s.c.q)),(iz (s.c.g)),(iz (s.c.m)),(iz (s.c.t)),(iz (s.c.s)),(iN (s.p)),(.int .i64 0),(uz (s.w)),(wz (s.k)),(iz (s.gg)),(s.tk),(.slice none 0 0)] 122,memA s.bm (s.m.put (s.c.word s.p) (mvW s.w 1)),(pu1a4 s),(pu1a5 s)]):=(trE (c:=⟨s.W0,s.F0⟩) 5 (kn [s.tk,s.hd,iN (s.c.q),iN (s.c.q / 2),wN (s.c.q / 2),wN (s.c.q),iz (s.gg),uz (s.gg),wz (tlW (s.w)),iN (s.c.n),iz (s.c.g),iz (s.c.m),iz (s.c.t),iz (s.c.s),iN (s.p),uz (s.w),wz (s.k),pz s.bm,uz (mvW s.w 1),iN (s.c.word s.p)] (fc s.ltk (fc s.lhd fr)) [] [] [] fn fn fn s.W0 s.F0 [(pu1a6 s),[memA s.bm (s.m.put (s.c.word s.p) (mvW s.w 1)),(pu1a4 s),(pu1a5 s)]] [] [⟨109,[sy 15,.int .u32 1],0,none,sy 18,none⟩,⟨26,[.agg #[sy 9,sy 2,sy 10,sy 11,sy 12,sy 13],sy 14],0,none,sy 19,none⟩,⟨114,[sy 17,sy 19,sy 15,sy 18],0,none,.bool true,some 1⟩]) fn (fc (pc (args:=[(uz (s.w)),(.int .u32 1)]) rfl (fun w hb=>below_of (wGrow _ 1 s.hw w))) (fc (pc rfl (fun w hb=>word_ok s.c s.p s.hp w)) (fc (cc rfl [memA s.bm (s.m.put (s.c.word s.p) (mvW s.w 1))] [0] [1,2] (fun w F ho hn hF=>mem_yesH hn hxa (by have q0:=s.c.z s.hp; have q6:=s.hl; have q8:=s.hg; have q9:=s.hts; omega) s.w (mvW s.w 1) hc)) fn))) rfl [(4,s.bp)] pu1a20 [(4,[sy 9,sy 2,sy 10,sy 11,sy 12,sy 13,sy 14,.int .i64 0,sy 15,sy 16,sy 6,sy 0,.slice none 0 0],122)] 1 rfl rfl pu1a3 (.bool true))
theorem puf (s:SP) (x:Int) (hxu:U64 x) (hxa:s.m.cells[s.c.slot s.p s.i4]? = some x) (h1:((s.ts.length+1:Nat) : Int)=((s.c.q / 2:Nat) : Int)) : Ev.PieE Try.prog 98 [] 0 20 ⟨s.W0,s.F0⟩ (pu1a8 s) (pu1a43 s) (fun κ:Ev.Ren=>(.bool false)) (fun κ:Ev.Ren=>[Ev.blkA s.bp [(iN (s.c.n)),(iN (s.c.q)),(iz (s.c.g)),(iz (s.c.m)),(iz (s.c.t)),(iz (s.c.s)),(iN (s.p)),(.int .i64 5),(uz (s.w)),(wz (s.k)),(iz (s.gg)),(dv κ 415),(s.hd)] 122,memA s.bm s.m.tick,Ev.slA 3 1 (dv κ 415) (s.ts.length+1) ((ints s.ts)++[(iz (IntKind.i64.wrap (x)))]),(pu1a5 s)]):=(trE (c:=⟨s.W0,s.F0⟩) 5 (kn [s.tk,s.hd,iN (s.c.q),iN (s.c.q / 2),wN (s.c.q / 2),wN (s.c.q),iz (s.gg),uz (s.gg),wz (tlW (s.w)),iN (s.c.n),iz (s.c.g),iz (s.c.m),iz (s.c.t),iz (s.c.s),iN (s.p),uz (s.w),wz (s.k),pz s.bm,iN (s.ts.length),iz (((s.ts.length:Nat) : Int) - ((s.c.q / 2:Nat) : Int)),wz (IntKind.u32.wrap (((s.ts.length:Nat) : Int) - ((s.c.q / 2:Nat) : Int))),wz (IntKind.u32.wrap ((tlW (s.w))+(IntKind.u32.wrap (((s.ts.length:Nat) : Int) - ((s.c.q / 2:Nat) : Int))))),iN (s.c.slot s.p (IntKind.u32.wrap ((tlW (s.w))+(IntKind.u32.wrap (((s.ts.length:Nat) : Int) - ((s.c.q / 2:Nat) : Int)))))),uz (x),iz (IntKind.i64.wrap (x)),iN (s.ts.length+1)] (fc s.ltk (fc s.lhd fr)) [(.quo,sy 2,.int .i64 2,sy 3),(.sub,sy 18,sy 3,sy 19),(.add,sy 8,sy 20,sy 21),(.eql,sy 25,sy 3,.bool true)] [] [(.u32,sy 3,sy 4),(.i64,sy 4,sy 3),(.u32,sy 19,sy 20),(.i64,sy 23,sy 24)] (fc (fun _ _ _=>Ev.bt_quo (by decide) (half_quo s.c)) (fc (fun _ _ _=>Ev.bt_sub (by have q0:=s.c.z s.hp; have q6:=s.hl; have q8:=s.hg; have q9:=s.hts; exact wrap_ok (by omega) (by omega))) (fc (fun _ _ _=>Ev.bt_add rfl) (fc (fun _ _ _=>Ev.bt_eql (by have q0:=s.c.z s.hp; have q6:=s.hl; have q8:=s.hg; have q9:=s.hts; first | (simpa using h1) | (simp; omega))) fn)))) fn (fc (Ev.ct_in rfl rfl (by have q2:=s.c.qb; rw [wrap32]; omega)) (fc (Ev.ct_in rfl rfl (by have q2:=s.c.qb; exact wrap_ok (by omega) (by omega))) (fc ⟨.i64,_,rfl,rfl⟩ (fc ⟨.u64,_,rfl,rfl⟩ fn)))) s.W0 s.F0 [(pu1a6 s),(pu1a7 s),(pu1a40 s x)] [⟨[10,36],[sy 0],none,0,none,sy 18,none⟩,⟨[11,36,36],[sy 0],some (1,1,[sy 24]),1,some 415,.complex .f32 415 0,some 2⟩,⟨[10,36],[.complex .f32 415 0],none,2,none,sy 25,none⟩] [⟨113,[sy 15],0,none,sy 8,none⟩,⟨27,[.agg #[sy 9,sy 2,sy 10,sy 11,sy 12,sy 13],sy 14,sy 21],0,none,sy 22,none⟩,⟨12,[sy 17,sy 22],0,none,sy 23,some 1⟩]) (fc (by obtain ⟨i,i1,i2,i3,i4⟩:=infInt; exact Ev.sl_len (ci:=2) rfl rfl Try.underlying36 i2 rfl rfl) (fc (by obtain ⟨i,i1,i2,i3,i4⟩:=infInt; have q0:=s.c.z s.hp; have q6:=s.hl; have q8:=s.hg; have q9:=s.hts; exact Ev.sl_append (ci:=2) (m:=1) (cs:=[(iz (IntKind.i64.wrap (x)))]) rfl rfl rfl Try.underlying36 Try.underlying36 i1 i2 (by omega) i3 (by rw [i2]; rfl) (by rw [i4]; omega) (by omega) rfl rfl (ak (by kernel_rfl) (by kernel_rfl))) (fc (by obtain ⟨i,i1,i2,i3,i4⟩:=infInt; exact Ev.sl_lenD (ci:=2) rfl rfl Try.underlying36 i2 rfl) fn))) (fc (pc (args:=[(uz (s.w))]) rfl (fun w hb=>below_of (wTail _ s.hw w))) (fc (pc (args:=[(pu1a0 s),(iN (s.p)),(wz (IntKind.u32.wrap ((tlW (s.w))+(IntKind.u32.wrap (((s.ts.length:Nat) : Int) - ((s.c.q / 2:Nat) : Int))))))]) rfl (fun w hb=>slot_ok s.c s.p s.hp (IntKind.u32.wrap ((tlW (s.w))+(IntKind.u32.wrap (((s.ts.length:Nat) : Int) - ((s.c.q / 2:Nat) : Int))))) (by first | exact (tlW_bd _).1 | exact wrap_nn _) w)) (fc (cc rfl [memA s.bm s.m.tick] [0] [1,2] (fun w F ho hn hF=>mem_loadH hn hxa (mem_bd hxa (by have q0:=s.c.z s.hp; have q6:=s.hl; have q8:=s.hg; have q9:=s.hts; omega)))) fn))) rfl [(4,s.bp)] pu1a37 [(4,[sy 9,sy 2,sy 10,sy 11,sy 12,sy 13,sy 14,.int .i64 5,sy 15,sy 16,sy 6,.complex .f32 415 0,sy 1],122)] 2 rfl rfl pu1a3 (.bool false)).conv (fun κ w=>⟨(fun _ h=>h),(fun _ h=>h),(fun _ h=>Ev.undy (a:=fun v=>Ev.slA 3 1 v (s.ts.length+1) ((ints s.ts)++[(iz (IntKind.i64.wrap (x)))])) (fun _ _ _ _ _ h=>h) h),(fun _ h=>h),trivial⟩)
theorem pug (s:SP) (x:Int) (hxu:U64 x) (hxa:s.m.cells[s.c.slot s.p s.i4]? = some x) (h1:¬ ((s.ts.length+1:Nat) : Int)=((s.c.q / 2:Nat) : Int)) : Ev.PieE Try.prog 98 [] 0 20 ⟨s.W0,s.F0⟩ (pu1a8 s) (pu1a43 s) (fun κ:Ev.Ren=>(.bool false)) (fun κ:Ev.Ren=>[Ev.blkA s.bp [(iN (s.c.n)),(iN (s.c.q)),(iz (s.c.g)),(iz (s.c.m)),(iz (s.c.t)),(iz (s.c.s)),(iN (s.p)),(.int .i64 4),(uz (s.w)),(wz (s.k)),(iz (s.gg)),(dv κ 415),(s.hd)] 122,memA s.bm s.m.tick,Ev.slA 3 1 (dv κ 415) (s.ts.length+1) ((ints s.ts)++[(iz (IntKind.i64.wrap (x)))]),(pu1a5 s)]):=(trE (c:=⟨s.W0,s.F0⟩) 5 (kn [s.tk,s.hd,iN (s.c.q),iN (s.c.q / 2),wN (s.c.q / 2),wN (s.c.q),iz (s.gg),uz (s.gg),wz (tlW (s.w)),iN (s.c.n),iz (s.c.g),iz (s.c.m),iz (s.c.t),iz (s.c.s),iN (s.p),uz (s.w),wz (s.k),pz s.bm,iN (s.ts.length),iz (((s.ts.length:Nat) : Int) - ((s.c.q / 2:Nat) : Int)),wz (IntKind.u32.wrap (((s.ts.length:Nat) : Int) - ((s.c.q / 2:Nat) : Int))),wz (IntKind.u32.wrap ((tlW (s.w))+(IntKind.u32.wrap (((s.ts.length:Nat) : Int) - ((s.c.q / 2:Nat) : Int))))),iN (s.c.slot s.p (IntKind.u32.wrap ((tlW (s.w))+(IntKind.u32.wrap (((s.ts.length:Nat) : Int) - ((s.c.q / 2:Nat) : Int)))))),uz (x),iz (IntKind.i64.wrap (x)),iN (s.ts.length+1)] (fc s.ltk (fc s.lhd fr)) [(.quo,sy 2,.int .i64 2,sy 3),(.sub,sy 18,sy 3,sy 19),(.add,sy 8,sy 20,sy 21),(.eql,sy 25,sy 3,.bool false)] [] [(.u32,sy 3,sy 4),(.i64,sy 4,sy 3),(.u32,sy 19,sy 20),(.i64,sy 23,sy 24)] (fc (fun _ _ _=>Ev.bt_quo (by decide) (half_quo s.c)) (fc (fun _ _ _=>Ev.bt_sub (by have q0:=s.c.z s.hp; have q6:=s.hl; have q8:=s.hg; have q9:=s.hts; exact wrap_ok (by omega) (by omega))) (fc (fun _ _ _=>Ev.bt_add rfl) (fc (fun _ _ _=>Ev.bt_eql (by have q0:=s.c.z s.hp; have q6:=s.hl; have q8:=s.hg; have q9:=s.hts; first | (simpa using h1) | (simp; omega))) fn)))) fn (fc (Ev.ct_in rfl rfl (by have q2:=s.c.qb; rw [wrap32]; omega)) (fc (Ev.ct_in rfl rfl (by have q2:=s.c.qb; exact wrap_ok (by omega) (by omega))) (fc ⟨.i64,_,rfl,rfl⟩ (fc ⟨.u64,_,rfl,rfl⟩ fn)))) s.W0 s.F0 [(pu1a6 s),(pu1a7 s),(pu1a40 s x)] [⟨[10,36],[sy 0],none,0,none,sy 18,none⟩,⟨[11,36,36],[sy 0],some (1,1,[sy 24]),1,some 415,.complex .f32 415 0,some 2⟩,⟨[10,36],[.complex .f32 415 0],none,2,none,sy 25,none⟩] [⟨113,[sy 15],0,none,sy 8,none⟩,⟨27,[.agg #[sy 9,sy 2,sy 10,sy 11,sy 12,sy 13],sy 14,sy 21],0,none,sy 22,none⟩,⟨12,[sy 17,sy 22],0,none,sy 23,some 1⟩]) (fc (by obtain ⟨i,i1,i2,i3,i4⟩:=infInt; exact Ev.sl_len (ci:=2) rfl rfl Try.underlying36 i2 rfl rfl) (fc (by obtain ⟨i,i1,i2,i3,i4⟩:=infInt; have q0:=s.c.z s.hp; have q6:=s.hl; have q8:=s.hg; have q9:=s.hts; exact Ev.sl_append (ci:=2) (m:=1) (cs:=[(iz (IntKind.i64.wrap (x)))]) rfl rfl rfl Try.underlying36 Try.underlying36 i1 i2 (by omega) i3 (by rw [i2]; rfl) (by rw [i4]; omega) (by omega) rfl rfl (ak (by kernel_rfl) (by kernel_rfl))) (fc (by obtain ⟨i,i1,i2,i3,i4⟩:=infInt; exact Ev.sl_lenD (ci:=2) rfl rfl Try.underlying36 i2 rfl) fn))) (fc (pc (args:=[(uz (s.w))]) rfl (fun w hb=>below_of (wTail _ s.hw w))) (fc (pc (args:=[(pu1a0 s),(iN (s.p)),(wz (IntKind.u32.wrap ((tlW (s.w))+(IntKind.u32.wrap (((s.ts.length:Nat) : Int) - ((s.c.q / 2:Nat) : Int))))))]) rfl (fun w hb=>slot_ok s.c s.p s.hp (IntKind.u32.wrap ((tlW (s.w))+(IntKind.u32.wrap (((s.ts.length:Nat) : Int) - ((s.c.q / 2:Nat) : Int))))) (by first | exact (tlW_bd _).1 | exact wrap_nn _) w)) (fc (cc rfl [memA s.bm s.m.tick] [0] [1,2] (fun w F ho hn hF=>mem_loadH hn hxa (mem_bd hxa (by have q0:=s.c.z s.hp; have q6:=s.hl; have q8:=s.hg; have q9:=s.hts; omega)))) fn))) rfl [(4,s.bp)] pu1a37 [(4,[sy 9,sy 2,sy 10,sy 11,sy 12,sy 13,sy 14,.int .i64 4,sy 15,sy 16,sy 6,.complex .f32 415 0,sy 1],122)] 2 rfl rfl pu1a3 (.bool false)).conv (fun κ w=>⟨(fun _ h=>h),(fun _ h=>h),(fun _ h=>Ev.undy (a:=fun v=>Ev.slA 3 1 v (s.ts.length+1) ((ints s.ts)++[(iz (IntKind.i64.wrap (x)))])) (fun _ _ _ _ _ h=>h) h),(fun _ h=>h),trivial⟩)
theorem puh (s:SP) (x:Int) (hxu:U64 x) (hxa:s.m.cells[s.c.word s.p]? = some x) (hc:x ≠ s.w) : Ev.PieE Try.prog 98 [] 0 20 ⟨s.W0,s.F0⟩ (pu1a8 s) (pu1a48 s) (fun κ:Ev.Ren=>(.bool false)) (fun κ:Ev.Ren=>(pu1a30 s)):=(trE (c:=⟨s.W0,s.F0⟩) 5 (kn [s.tk,s.hd,iN (s.c.q),iN (s.c.q / 2),wN (s.c.q / 2),wN (s.c.q),iz (s.gg),uz (s.gg),wz (tlW (s.w)),iN (s.c.n),iz (s.c.g),iz (s.c.m),iz (s.c.t),iz (s.c.s),iN (s.p),uz (s.w),wz (s.k),pz s.bm,uz (mvW s.w (-((s.c.q / 2:Nat) : Int))),iN (s.c.word s.p)] (fc s.ltk (fc s.lhd fr)) [(.quo,sy 2,.int .i64 2,sy 3)] [] [(.u32,sy 3,sy 4)] (fc (fun _ _ _=>Ev.bt_quo (by decide) (half_quo s.c)) fn) fn (fc (Ev.ct_in rfl rfl (by have q2:=s.c.qb; rw [wrap32]; omega)) fn) s.W0 s.F0 [(pu1a6 s),(pu1a7 s)] [] [⟨111,[sy 15,sy 4],0,none,sy 18,none⟩,⟨26,[.agg #[sy 9,sy 2,sy 10,sy 11,sy 12,sy 13],sy 14],0,none,sy 19,none⟩,⟨114,[sy 17,sy 19,sy 15,sy 18],0,none,.bool false,some 1⟩]) fn (fc (pc (args:=[(uz (s.w)),(wN (s.c.q / 2))]) rfl (fun w hb=>below_of (wDrop _ _ s.hw w))) (fc (pc rfl (fun w hb=>word_ok s.c s.p s.hp w)) (fc (cc rfl [memA s.bm s.m.tick] [0] [1,2] (fun w F ho hn hF=>mem_noH hn hxa (by have q0:=s.c.z s.hp; have q6:=s.hl; have q8:=s.hg; have q9:=s.hts; omega) s.w (mvW s.w (-((s.c.q / 2:Nat) : Int))) hc)) fn))) rfl [(4,s.bp)] pu1a45 pu1a1 1 rfl rfl pu1a3 (.bool false))
theorem pui (s:SP) (x:Int) (hxu:U64 x) (hxa:s.m.cells[s.c.word s.p]? = some x) (hc:x=s.w) : Ev.PieE Try.prog 98 [] 0 20 ⟨s.W0,s.F0⟩ (pu1a8 s) (pu1a48 s) (fun κ:Ev.Ren=>(.bool true)) (fun κ:Ev.Ren=>[Ev.blkA s.bp [(iN (s.c.n)),(iN (s.c.q)),(iz (s.c.g)),(iz (s.c.m)),(iz (s.c.t)),(iz (s.c.s)),(iN (s.p)),(.int .i64 0),(uz (s.w)),(wz (s.k)),(iz (s.gg)),(s.tk),(dv κ 415)] 122,(pu1a50 s),Ev.slA 3 1 (dv κ 415) (s.ts.length+1) ((ints s.ts)++[(iz (s.gg))]),(pu1a5 s)]):=(trE (c:=⟨s.W0,s.F0⟩) 5 (kn [s.tk,s.hd,iN (s.c.q),iN (s.c.q / 2),wN (s.c.q / 2),wN (s.c.q),iz (s.gg),uz (s.gg),wz (tlW (s.w)),iN (s.c.n),iz (s.c.g),iz (s.c.m),iz (s.c.t),iz (s.c.s),iN (s.p),uz (s.w),wz (s.k),pz s.bm,uz (mvW s.w (-((s.c.q / 2:Nat) : Int))),iN (s.c.word s.p)] (fc s.ltk (fc s.lhd fr)) [(.quo,sy 2,.int .i64 2,sy 3)] [] [(.u32,sy 3,sy 4)] (fc (fun _ _ _=>Ev.bt_quo (by decide) (half_quo s.c)) fn) fn (fc (Ev.ct_in rfl rfl (by have q2:=s.c.qb; rw [wrap32]; omega)) fn) s.W0 s.F0 [(pu1a6 s),[(pu1a50 s),(pu1a4 s),(pu1a5 s)],[(pu1a50 s),Ev.atD 415 (fun v=>Ev.slA 3 1 v (s.ts.length+1) ((ints s.ts)++[(iz (s.gg))])),(pu1a5 s)]] [⟨[11,36,36],[sy 0],some (1,1,[sy 6]),1,some 415,.complex .f32 415 0,some 2⟩] [⟨111,[sy 15,sy 4],0,none,sy 18,none⟩,⟨26,[.agg #[sy 9,sy 2,sy 10,sy 11,sy 12,sy 13],sy 14],0,none,sy 19,none⟩,⟨114,[sy 17,sy 19,sy 15,sy 18],0,none,.bool true,some 1⟩]) (fc (by obtain ⟨i,i1,i2,i3,i4⟩:=infInt; have q0:=s.c.z s.hp; have q6:=s.hl; have q8:=s.hg; have q9:=s.hts; exact Ev.sl_append (ci:=2) (m:=1) (cs:=[(iz (s.gg))]) rfl rfl rfl Try.underlying36 Try.underlying36 i1 i2 (by omega) i3 (by rw [i2]; rfl) (by rw [i4]; omega) (by omega) rfl rfl (ak (by kernel_rfl) (by kernel_rfl))) fn) (fc (pc (args:=[(uz (s.w)),(wN (s.c.q / 2))]) rfl (fun w hb=>below_of (wDrop _ _ s.hw w))) (fc (pc rfl (fun w hb=>word_ok s.c s.p s.hp w)) (fc (cc rfl [memA s.bm (s.m.put (s.c.word s.p) (mvW s.w (-((s.c.q / 2:Nat) : Int))))] [0] [1,2] (fun w F ho hn hF=>mem_yesH hn hxa (by have q0:=s.c.z s.hp; have q6:=s.hl; have q8:=s.hg; have q9:=s.hts; omega) s.w (mvW s.w (-((s.c.q / 2:Nat) : Int))) hc)) fn))) rfl [(4,s.bp)] pu1a45 [(4,[sy 9,sy 2,sy 10,sy 11,sy 12,sy 13,sy 14,.int .i64 0,sy 15,sy 16,sy 6,sy 0,.complex .f32 415 0],122)] 2 rfl rfl pu1a3 (.bool true)).conv (fun κ w=>⟨(fun _ h=>h),(fun _ h=>h),(fun _ h=>Ev.undy (a:=fun v=>Ev.slA 3 1 v (s.ts.length+1) ((ints s.ts)++[(iz (s.gg))])) (fun _ _ _ _ _ h=>h) h),(fun _ h=>h),trivial⟩)
end Go.Proofs.Ytbcnbofkgkheeaa
namespace Go.Proofs.Ytbcnbofkgkheeaa
open Go.RowKit
set_option linter.unusedVariables false
set_option linter.unusedSimpArgs false
structure PutS where
 st:Nat
 gg:Int
 w:Int
 ts:List Int
 hs:List Int
def ld (m:MemM) (a:Nat) : Int:=m.cells.getD a 0
def tkI (c:Cfg) (w:Int) (n:Nat) : Int:=(tlW w - ((c.q / 2:Nat) : Int)+(n:Int)) % 4294967296
def putStep (c:Cfg) (p:Nat) (x:PutS) (m:MemM) : PutS×MemM :=
 match x.st with
 | 1=>(⟨if (c.q:Int)≤szW (ld m (c.word p)) then 4 else 2,x.gg,ld m (c.word p),[],x.hs⟩,m.tick)
 | 2=>(⟨3,x.gg,x.w,x.ts,x.hs⟩,m.put (c.slot p (tlW x.w)) x.gg)
 | 3=>if ld m (c.word p)=x.w then (⟨0,x.gg,x.w,x.ts,[]⟩,m.put (c.word p) (mvW x.w 1)) else (⟨1,x.gg,x.w,x.ts,x.hs⟩,m.tick)
 | 4=>(⟨if x.ts.length+1=c.q / 2 then 5 else 4,x.gg,x.w,x.ts++[IntKind.i64.wrap (ld m (c.slot p (tkI c x.w x.ts.length)))],x.hs⟩,m.tick)
 | 5=>if ld m (c.word p)=x.w then (⟨0,x.gg,x.w,x.ts,x.ts++[x.gg]⟩,m.put (c.word p) (mvW x.w (-((c.q / 2:Nat) : Int)))) else (⟨1,x.gg,x.w,x.ts,x.hs⟩,m.tick)
 | _=>(x,m)
structure PutOk (c:Cfg) (x:PutS) : Prop where
 st:x.st≤5
 gg:x.st ≠ 0→0≤x.gg∧x.gg≤9223372036854775807
 w:U64 x.w
 ts:x.ts.length≤c.q / 2
 t4:x.st=4→x.ts.length < c.q / 2
 hs:x.hs.length≤64
structure MemOk (c:Cfg) (m:MemM) : Prop where
 len:m.cells.length=4+c.off c.n
 u:∀ x ∈ m.cells,U64 x
theorem MemOk.lt_word {c:Cfg} {m:MemM} (h:MemOk c m) {p:Nat} (hp:p < c.n) : c.word p < m.cells.length:=by
 have:=c.off_le hp
 have:=h.len
 unfold Cfg.word
 omega
theorem MemOk.lt_next {c:Cfg} {m:MemM} (h:MemOk c m) {p:Nat} (hp:p < c.n) : c.word p+1 < m.cells.length:=by
 have:=c.off_le hp
 have:=h.len
 unfold Cfg.word
 omega
theorem MemOk.lt_slot {c:Cfg} {m:MemM} (h:MemOk c m) {p:Nat} (hp:p < c.n) (i:Int) : c.slot p i < m.cells.length:=by
 have:=c.off_le hp
 have:=h.len
 have:=c.slotI_lt i
 unfold Cfg.slot
 omega
theorem MemOk.get {c:Cfg} {m:MemM} (h:MemOk c m) {a:Nat} (ha:a < m.cells.length) : m.cells[a]? = some (ld m a)∧U64 (ld m a):=by
 unfold ld
 rw [List.getD_eq_getElem?_getD,List.getElem?_eq_getElem ha]
 exact ⟨rfl,h.u _ (List.getElem_mem ha)⟩
theorem MemOk.tick {c:Cfg} {m:MemM} (h:MemOk c m) : MemOk c m.tick:=⟨h.len,h.u⟩
theorem MemOk.put {c:Cfg} {m:MemM} (h:MemOk c m) (a:Nat) {v:Int} (hv:U64 v) : MemOk c (m.put a v) :=
 ⟨by simp only [MemM.put,List.length_set]; exact h.len,fun x hx=>by
  rcases List.mem_or_eq_of_mem_set hx with hx | rfl
  ·exact h.u x hx
  ·exact hv⟩
theorem mvW_u {x:Int} (h:U64 x) (d:Int) : U64 (mvW x d):=by
 have h1:=hdW_bd h
 unfold mvW packW U64
 omega
theorem MemOk.big {c:Cfg} {m:MemM} (h:MemOk c m) : m.cells.length≤564:=by
 have:=c.off_max
 have:=h.len
 omega
theorem putStep_ok {c:Cfg} {p:Nat} (hp:p < c.n) {x:PutS} {m:MemM} (hx:PutOk c x) (hm:MemOk c m) : PutOk c (putStep c p x m).1∧MemOk c (putStep c p x m).2:=by
 have hq:=c.qb
 have hw:=hm.get (hm.lt_word hp)
 obtain ⟨st,gg,w,ts,hs⟩:=x
 have h1:st≤5:=hx.st
 have h2:st ≠ 0→0≤gg∧gg≤9223372036854775807:=hx.gg
 have h3:U64 w:=hx.w
 have h4:ts.length≤c.q / 2:=hx.ts
 have h5:st=4→ts.length < c.q / 2:=hx.t4
 have h6:hs.length≤64:=hx.hs
 match st,h1 with
 | 0,_=>exact ⟨hx,hm⟩
 | 1,_ =>
  refine ⟨⟨?_,fun _=>h2 (by decide),hw.2,Nat.zero_le _,fun _=>?_,h6⟩,hm.tick⟩
  ·show (if (c.q:Int)≤szW (ld m (c.word p)) then 4 else 2)≤5
   split <;> decide
  ·show 0 < c.q / 2
   omega
 | 2,_=>exact ⟨⟨show 3≤5 by decide,fun _=>h2 (by decide),h3,h4,fun h=>(by cases h),h6⟩,hm.put _ (show U64 gg by have:=h2 (by decide); unfold U64; omega)⟩
 | 3,_ =>
  unfold putStep
  simp only
  split
  ·exact ⟨⟨show 0≤5 by decide,fun h=>absurd rfl h,h3,h4,fun h=>(by cases h),Nat.zero_le _⟩,hm.put _ (mvW_u h3 _)⟩
  ·exact ⟨⟨show 1≤5 by decide,fun _=>h2 (by decide),h3,h4,fun h=>(by cases h),h6⟩,hm.tick⟩
 | 4,_ =>
  have:=h5 rfl
  refine ⟨⟨?_,fun _=>h2 (by decide),h3,by show (ts++[_]).length≤_; rw [List.length_append]; exact this,fun h=>?_,h6⟩,hm.tick⟩
  ·show (if ts.length+1=c.q / 2 then 5 else 4)≤5
   split <;> decide
  ·replace h:(if ts.length+1=c.q / 2 then 5 else 4)=4:=h
   show (ts++[_]).length < c.q / 2
   rw [List.length_append]
   split at h
   ·cases h
   ·show ts.length+1 < c.q / 2
    omega
 | 5,_ =>
  unfold putStep
  simp only
  split
  ·exact ⟨⟨show 0≤5 by decide,fun h=>absurd rfl h,h3,h4,fun h=>(by cases h),by show (ts++[gg]).length≤64; rw [List.length_append]; simp; omega⟩,hm.put _ (mvW_u h3 _)⟩
  ·exact ⟨⟨show 1≤5 by decide,fun _=>h2 (by decide),h3,h4,fun h=>(by cases h),h6⟩,hm.tick⟩
theorem tkI_prog (c:Cfg) (w:Int) (n:Nat) : IntKind.u32.wrap (tlW w+IntKind.u32.wrap ((n:Int) - ((c.q / 2:Nat) : Int)))=tkI c w n:=by
 rw [wrap32,wrap32]
 unfold tkI
 omega
end Go.Proofs.Ytbcnbofkgkheeaa
namespace Go.Proofs.Ytbcnbofkgkheeaa
open Go.RowKit
open Go.Ev (sy)
set_option linter.unusedVariables false
set_option linter.unusedSimpArgs false
set_option maxRecDepth 8000
def putV (c:Cfg) (p bp:Nat) (x:PutS) (k:Int) (tk hd:Value) : Ev.Asr:=Ev.blkA bp [.int .i64 (c.n:Int),.int .i64 (c.q:Int),.int .i64 c.g,.int .i64 c.m,.int .i64 c.t,.int .i64 c.s,.int .i64 (p:Int),.int .i64 (x.st:Int),.int .u64 x.w,.int .u32 k,.int .i64 x.gg,tk,hd] 122
def isA (v:Value) (xs:List Int) : Ev.Asr:=Ev.slA 3 1 v xs.length (ints xs)
def putL (c:Cfg) (p bp:Nat) (x:PutS) (e:Int×Value×Value) : List Ev.Asr:=putV c p bp x e.1 e.2.1 e.2.2::isA e.2.2 x.hs::(if x.st=0 then [] else [isA e.2.1 x.ts])
def putA (c:Cfg) (p bp:Nat) (x:PutS) : Ev.Asr:=Ev.exA (fun e:Int×Value×Value=>Ev.leafV e.2.1=true) (fun e=>Ev.grp (putL c p bp x e))
section
variable {c:Cfg} {p bp:Nat} {x:PutS} {k:Int} {tk hd:Value} {ctx:Ev.Ctx} {w:World} {l:List Ev.Asr}
theorem put_close (h0:x.st ≠ 0) (ltk:Ev.leafV tk=true) (h:Ev.Hold ctx (putV c p bp x k tk hd::isA hd x.hs::isA tk x.ts::l) w) : Ev.Hold ctx (putA c p bp x::l) w:=by
 refine Ev.Hold.putX (k,tk,hd) ltk (Ev.Hold.shut ?_)
 simp only [putL,if_neg h0]
 exact h
theorem put_close0 (h0:x.st=0) (ltk:Ev.leafV tk=true) (h:Ev.Hold ctx (putV c p bp x k tk hd::isA hd x.hs::l) w) : Ev.Hold ctx (putA c p bp x::l) w:=by
 refine Ev.Hold.putX (k,tk,hd) ltk (Ev.Hold.shut ?_)
 simp only [putL,if_pos h0]
 exact h
theorem put_open (h0:x.st ≠ 0) (h:Ev.Hold ctx (putA c p bp x::l) w) : ∃ k tk hd,Ev.leafV tk=true∧Ev.leafV hd=true∧Ev.Hold ctx (putV c p bp x k tk hd::isA hd x.hs::isA tk x.ts::l) w:=by
 obtain ⟨⟨k,tk,hd⟩,ltk,hh⟩:=h.getX
 have h2:=hh.open
 simp only [putL,if_neg h0] at h2
 refine ⟨k,tk,hd,ltk,?_,h2⟩
 obtain ⟨F,n1,n2,n3⟩:=h2.ex
 exact slA_leaf n1 (i:=1) rfl
theorem put_open0 (h0:x.st=0) (h:Ev.Hold ctx (putA c p bp x::l) w) : ∃ k tk hd,Ev.leafV tk=true∧Ev.leafV hd=true∧Ev.Hold ctx (putV c p bp x k tk hd::isA hd x.hs::l) w:=by
 obtain ⟨⟨k,tk,hd⟩,ltk,hh⟩:=h.getX
 have h2:=hh.open
 simp only [putL,if_pos h0] at h2
 refine ⟨k,tk,hd,ltk,?_,h2⟩
 obtain ⟨F,n1,n2,n3⟩:=h2.ex
 exact slA_leaf n1 (i:=1) rfl
end
theorem ints_snoc (ts:List Int) (v:Int) : ints (ts++[v])=ints ts++[.int .i64 v]:=by simp [ints]
theorem isA_snoc (v:Value) (ts:List Int) (x:Int) : isA v (ts++[x])=Ev.slA 3 1 v (ts.length+1) (ints ts++[.int .i64 x]):=by
 unfold isA
 rw [ints_snoc,List.length_append]
 rfl
theorem put_step {w:World} {F:Nat→Prop} {c:Cfg} {p:Nat} (hp:p < c.n) {x:PutS} (hx:PutOk c x) (h0:x.st ≠ 0) {m:MemM} (hm:MemOk c m) {bp bm:Nat} (h:Ev.Now [putA c p bp x,memA bm m] F w) :
  Calls Try.prog 98 #[.pointer (some ⟨bp,0,none⟩),.pointer (some ⟨bm,0,none⟩)] w fun e w'=>e=.returned (.bool (decide ((putStep c p x m).1.st=0)))∧Ev.Hold ⟨w,F⟩ [putA c p bp (putStep c p x m).1,memA bm (putStep c p x m).2] w':=by
 obtain ⟨k,tk,hd,ltk,lhd,hh⟩:=put_open h0 (Ev.Hold.start h)
 obtain ⟨F',n1,n2,n3⟩:=(hh.sel [0,3,2,1] (by kernel_rfl)).ex
 have hw:=hm.get (hm.lt_word hp)
 obtain ⟨st,gg,ww,ts,hs⟩:=x
 have hgg:=hx.gg h0
 let s:SP:=⟨w,F',c,p,hp,gg,hgg,ww,hx.w,k,bp,bm,m,tk,hd,ltk,lhd,ts,hs,hm.len,by have:=hx.ts; have:=c.qb; show ts.length≤64; have e:ts.length≤c.q / 2:=hx.ts; omega⟩
 have into:∀ {l:List Ev.Asr} {w1:World},Ev.Hold ⟨w,F'⟩ l w1→Ev.Hold ⟨w,F⟩ l w1:=fun hh=>hh.into (l:=[]) n2 n3
 match st,hx.st with
 | 0,_=>exact absurd rfl h0
 | 1,_ =>
  by_cases hq:(c.q:Int)≤szW (ld m (c.word p))
  ·rw [show putStep c p ⟨1,gg,ww,ts,hs⟩ m=(⟨4,gg,ld m (c.word p),[],hs⟩,m.tick) by simp only [putStep,if_pos hq]]
   refine startP (pua s _ hw.2 hw.1 hq) (by kernel_rfl) n1 (by simp) (by simp [s]) (fun κ w1 h1=>⟨rfl,?_⟩)
   exact put_close (k:=0) (tk:=.slice none 0 0) (hd:=hd) (Nat.succ_ne_zero _) rfl (((into h1).nilSl (e := 3) (sz:=1)).sel [1,4,0,2] (by kernel_rfl))
  ·rw [show putStep c p ⟨1,gg,ww,ts,hs⟩ m=(⟨2,gg,ld m (c.word p),[],hs⟩,m.tick) by simp only [putStep,if_neg hq]]
   refine startP (pub s _ hw.2 hw.1 hq) (by kernel_rfl) n1 (by simp) (by simp [s]) (fun κ w1 h1=>⟨rfl,?_⟩)
   exact put_close (k:=0) (tk:=.slice none 0 0) (hd:=hd) (Nat.succ_ne_zero _) rfl (((into h1).nilSl (e := 3) (sz:=1)).sel [1,4,0,2] (by kernel_rfl))
 | 2,_ =>
  refine startP (puc s (hm.lt_slot hp _)) (by kernel_rfl) n1 (by simp) (by simp [s]) (fun κ w1 h1=>⟨rfl,?_⟩)
  exact put_close (k:=k) (tk:=tk) (hd:=hd) (Nat.succ_ne_zero _) ltk ((into h1).sel [0,3,2,1] (by kernel_rfl))
 | 3,_ =>
  by_cases hc:ld m (c.word p)=ww
  ·rw [show putStep c p ⟨3,gg,ww,ts,hs⟩ m=(⟨0,gg,ww,ts,[]⟩,m.put (c.word p) (mvW ww 1)) by simp only [putStep,if_pos hc]]
   refine startP (pue s _ hw.2 hw.1 hc) (by kernel_rfl) n1 (by simp) (by simp [s]) (fun κ w1 h1=>⟨rfl,?_⟩)
   exact put_close0 (k:=k) (tk:=tk) (hd:=.slice none 0 0) rfl ltk (((into h1).nilSl (e := 3) (sz:=1)).sel [1,0,2] (by kernel_rfl))
  ·rw [show putStep c p ⟨3,gg,ww,ts,hs⟩ m=(⟨1,gg,ww,ts,hs⟩,m.tick) by simp only [putStep,if_neg hc]]
   refine startP (pud s _ hw.2 hw.1 hc) (by kernel_rfl) n1 (by simp) (by simp [s]) (fun κ w1 h1=>⟨rfl,?_⟩)
   exact put_close (k:=k) (tk:=tk) (hd:=hd) (Nat.succ_ne_zero _) ltk ((into h1).sel [0,3,2,1] (by kernel_rfl))
 | 4,_ =>
  have hsl:=hm.get (hm.lt_slot hp (tkI c ww ts.length))
  have ha:m.cells[c.slot p s.i4]? = some (ld m (c.slot p (tkI c ww ts.length))):=by
   rw [show s.i4=tkI c ww ts.length from tkI_prog c ww ts.length]
   exact hsl.1
  by_cases hq:ts.length+1=c.q / 2
  ·rw [show putStep c p ⟨4,gg,ww,ts,hs⟩ m=(⟨5,gg,ww,ts++[IntKind.i64.wrap (ld m (c.slot p (tkI c ww ts.length)))],hs⟩,m.tick) by simp only [putStep,if_pos hq]]
   refine startP (puf s _ hsl.2 ha (by show ((ts.length+1:Nat) : Int)=((c.q / 2:Nat) : Int); rw [hq])) (by kernel_rfl) n1 (by simp) (by simp [s]) (fun κ w1 h1=>⟨rfl,?_⟩)
   have h2:=into h1
   rw [← isA_snoc] at h2
   exact put_close (k:=k) (hd:=hd) (Nat.succ_ne_zero _) (hold_leaf (h2.sel [2] (by kernel_rfl))) (h2.sel [0,3,2,1] (by kernel_rfl))
  ·rw [show putStep c p ⟨4,gg,ww,ts,hs⟩ m=(⟨4,gg,ww,ts++[IntKind.i64.wrap (ld m (c.slot p (tkI c ww ts.length)))],hs⟩,m.tick) by simp only [putStep,if_neg hq]]
   refine startP (pug s _ hsl.2 ha (by show ¬ ((ts.length+1:Nat) : Int)=((c.q / 2:Nat) : Int); omega)) (by kernel_rfl) n1 (by simp) (by simp [s]) (fun κ w1 h1=>⟨rfl,?_⟩)
   have h2:=into h1
   rw [← isA_snoc] at h2
   exact put_close (k:=k) (hd:=hd) (Nat.succ_ne_zero _) (hold_leaf (h2.sel [2] (by kernel_rfl))) (h2.sel [0,3,2,1] (by kernel_rfl))
 | 5,_ =>
  by_cases hc:ld m (c.word p)=ww
  ·rw [show putStep c p ⟨5,gg,ww,ts,hs⟩ m=(⟨0,gg,ww,ts,ts++[gg]⟩,m.put (c.word p) (mvW ww (-((c.q / 2:Nat) : Int)))) by simp only [putStep,if_pos hc]]
   refine startP (pui s _ hw.2 hw.1 hc) (by kernel_rfl) n1 (by simp) (by simp [s]) (fun κ w1 h1=>⟨rfl,?_⟩)
   have h2:=into h1
   rw [← isA_snoc] at h2
   exact put_close0 (k:=k) (tk:=tk) rfl ltk (h2.sel [0,2,1] (by kernel_rfl))
  ·rw [show putStep c p ⟨5,gg,ww,ts,hs⟩ m=(⟨1,gg,ww,ts,hs⟩,m.tick) by simp only [putStep,if_neg hc]]
   refine startP (puh s _ hw.2 hw.1 hc) (by kernel_rfl) n1 (by simp) (by simp [s]) (fun κ w1 h1=>⟨rfl,?_⟩)
   exact put_close (k:=k) (tk:=tk) (hd:=hd) (Nat.succ_ne_zero _) ltk ((into h1).sel [0,3,2,1] (by kernel_rfl))
end Go.Proofs.Ytbcnbofkgkheeaa
namespace Go.Proofs.Ytbcnbofkgkheeaa
open Go.RowKit
open Go.Ev (sy iz uz wz iN uN wN pz dv fc fn ak vk vd kn pc cc cr cm cd fr)
set_option linter.unusedVariables false
set_option linter.unusedSimpArgs false
set_option maxRecDepth 8000
attribute [local irreducible] Ev.wpL
abbrev pu3a6:List Ev.Blk:=[(4,[sy 3,sy 4,sy 5,sy 6,sy 7,sy 8,sy 9,sy 2,sy 10,sy 11,sy 12,sy 0,sy 1],122)]
abbrev pu3a7:List (Nat×Value):=[(0,.pointer (some ⟨4,0,none⟩))]
abbrev pu3a9 (hd:Value) (hs:List Int) : List Ev.Asr:=[Ev.slA 3 1 (hd) (hs.length) (ints hs)]
abbrev pu3a12 (hd:Value) (hs:List Int) : List Ev.Asr:=[Ev.atD 403 (fun v=>Ev.slA 3 1 v hs.length (ints hs)),Ev.atD 403 (fun v=>Ev.slA 3 1 (hd) (hs.length) (ints hs))]
abbrev pu3a15 (c:Cfg) (p:Nat) (bp:Nat) (ww:Int) (k:Int) (gg:Int) (tk:Value) (hd:Value) (hs:List Int) (st:Nat) : List Ev.Asr:=[Ev.blkA bp [(iN (c.n)),(iN (c.q)),(iz (c.g)),(iz (c.m)),(iz (c.t)),(iz (c.s)),(iN (p)),(iN (st)),(uz (ww)),(wz (k)),(iz (gg)),(tk),(hd)] 122,Ev.slA 3 1 (hd) (hs.length) (ints hs)]
abbrev pu3a16:List Ev.Blk:=[(4,[sy 2,sy 3,sy 4,sy 5,sy 6,sy 7,sy 8,.int .i64 0,sy 9,sy 10,sy 11,sy 0,sy 1],122)]
abbrev pu3a19 (c:Cfg) (p:Nat) (bp:Nat) (ww:Int) (k:Int) (gg:Int) (tk:Value) (hd:Value) (hs:List Int) : List Ev.Asr:=[Ev.blkA bp [(iN (c.n)),(iN (c.q)),(iz (c.g)),(iz (c.m)),(iz (c.t)),(iz (c.s)),(iN (p)),(.int .i64 0),(uz (ww)),(wz (k)),(iz (gg)),(tk),(hd)] 122,Ev.slA 3 1 (hd) (hs.length) (ints hs)]
theorem poA (W0:World) (F0:Nat→Prop) (c:Cfg) (p:Nat) (hp:p < c.n) (bp:Nat) (ww k gg:Int) (tk hd:Value) (ltk:Ev.leafV tk=true) (lhd:Ev.leafV hd=true) (hs:List Int) (hhs:hs.length≤1000000) : Ev.PieE Try.prog 51 [] 0 18 ⟨W0,F0⟩ [(0,(pz bp))] (pu3a19 c p bp ww k gg tk hd hs) (fun κ:Ev.Ren=>(dv κ 403)) (fun κ:Ev.Ren=>[Ev.blkA bp [(iN (c.n)),(iN (c.q)),(iz (c.g)),(iz (c.m)),(iz (c.t)),(iz (c.s)),(iN (p)),(.int .i64 0),(uz (ww)),(wz (k)),(iz (gg)),(tk),(hd)] 122,Ev.slA 3 1 (dv κ 403) hs.length (ints hs),Ev.slA 3 1 (hd) (hs.length) (ints hs)]):=(trE (c:=⟨W0,F0⟩) 5 (kn [tk,hd,iN (c.n),iN (c.q),iz (c.g),iz (c.m),iz (c.t),iz (c.s),iN (p),uz (ww),wz (k),iz (gg)] (fc (by assumption) (fc (by assumption) fr)) [] [] [] fn fn fn W0 F0 [(pu3a9 hd hs),(pu3a12 hd hs)] [] [⟨66,[sy 1],0,some 403,.complex .f32 403 0,some 1⟩]) fn (fc (cd rfl [fun v=>Ev.slA 3 1 v hs.length (ints hs),fun v=>Ev.slA 3 1 (hd) (hs.length) (ints hs)] [0] [] (fun w F ho hn hF=>clone_int hhs Ev.one_ints hn)) fn) rfl [(4,bp)] pu3a16 pu3a16 1 rfl rfl pu3a7 (.complex .f32 403 0)).conv (fun κ w=>⟨(fun _ h=>h),(fun _ h=>Ev.undy (a:=fun v=>Ev.slA 3 1 v hs.length (ints hs)) (fun _ _ _ _ _ h=>h) h),(fun _ h=>Ev.undy (a:=fun v=>Ev.slA 3 1 (hd) (hs.length) (ints hs)) (fun _ _ _ _ _ h=>h) h),trivial⟩)
theorem poB (W0:World) (F0:Nat→Prop) (c:Cfg) (p:Nat) (hp:p < c.n) (bp:Nat) (ww k gg:Int) (tk hd:Value) (ltk:Ev.leafV tk=true) (lhd:Ev.leafV hd=true) (hs:List Int) (hhs:hs.length≤1000000) (st:Nat) (hst:st ≠ 0) : Ev.PieE Try.prog 51 [] 0 18 ⟨W0,F0⟩ [(0,(pz bp))] (pu3a15 c p bp ww k gg tk hd hs st) (fun κ:Ev.Ren=>(.slice none 0 0)) (fun κ:Ev.Ren=>(pu3a15 c p bp ww k gg tk hd hs st)):=(trE (c:=⟨W0,F0⟩) 5 (kn [tk,hd,iN (st),iN (c.n),iN (c.q),iz (c.g),iz (c.m),iz (c.t),iz (c.s),iN (p),uz (ww),wz (k),iz (gg)] (fc (by assumption) (fc (by assumption) fr)) [(.neq,sy 2,.int .i64 0,.bool true)] [] [] (fc (fun _ _ _=>Ev.bt_neq (by have q0:=c.z hp; first | (simp; done) | (simp; omega))) fn) fn fn W0 F0 [(pu3a9 hd hs)] [] []) fn fn rfl [(4,bp)] pu3a6 pu3a6 0 rfl rfl pu3a7 (.slice none 0 0))
end Go.Proofs.Ytbcnbofkgkheeaa
namespace Go.Proofs.Ytbcnbofkgkheeaa
open Go.RowKit
set_option linter.unusedVariables false
set_option linter.unusedSimpArgs false
structure KickS where
 dem:Bool
 gg:Int
 st:Nat
 was:Int
 put:Option PutS
def KickS.nx (k:KickS) : Int:=if k.dem then 0 else k.gg+1
def kickStep (c:Cfg) (p:Nat) (k:KickS) (m:MemM) : KickS×MemM :=
 match k.st with
 | 1=>(⟨k.dem,k.gg,if k.dem=true∧ld m (c.word p+1)=0 then 0 else 2,ld m (c.word p+1),k.put⟩,m.tick)
 | 2 =>
  if k.was=0 then (⟨k.dem,k.gg,0,k.was,k.put⟩,m.put (c.word p+1) k.nx)
  else if 0≤IntKind.i64.wrap (k.was - 1) then (⟨k.dem,k.gg,3,k.was,some ⟨1,IntKind.i64.wrap (k.was - 1),0,[],[IntKind.i64.wrap (k.was - 1)]⟩⟩,m.put (c.word p+1) k.nx)
  else (⟨k.dem,k.gg,0,k.was,some ⟨0,IntKind.i64.wrap (k.was - 1),0,[],[]⟩⟩,m.put (c.word p+1) k.nx)
 | 3 =>
  match k.put with
  | some x=>(⟨k.dem,k.gg,if (putStep c p x m).1.st=0 then 0 else 3,k.was,some (putStep c p x m).1⟩,(putStep c p x m).2)
  | none=>(k,m)
 | _=>(k,m)
structure KickOk (c:Cfg) (k:KickS) : Prop where
 st:k.st≤3
 gg:k.dem=false→0≤k.gg∧k.gg≤9223372036854775807
 was:U64 k.was
 put:∀ x,k.put=some x→PutOk c x
 p12:k.st=1∨k.st=2→k.put=none
 p3:k.st=3→∃ x,k.put=some x∧x.st ≠ 0
 p0:k.st=0→∀ x,k.put=some x→x.st=0
theorem KickOk.nx_u {c:Cfg} {k:KickS} (h:KickOk c k) : U64 k.nx:=by
 unfold KickS.nx U64
 cases hd:k.dem with
 | true=>simp
 | false=>have:=h.gg hd; simp; omega
theorem i64_bd (n:Int) : IntKind.i64.wrap n≤9223372036854775807:=by
 unfold IntKind.wrap
 simp [IntKind.signed,IntKind.bits]
 omega
theorem kickStep_ok {c:Cfg} {p:Nat} (hp:p < c.n) {k:KickS} {m:MemM} (hk:KickOk c k) (hm:MemOk c m) : KickOk c (kickStep c p k m).1∧MemOk c (kickStep c p k m).2:=by
 have hq:=c.qb
 have hw:=hm.get (hm.lt_next hp)
 have hn:=hk.nx_u
 have h1:=hk.st
 have h2:=hk.gg
 have h3:=hk.was
 have h4:=hk.put
 have h5:=hk.p12
 have h6:=hk.p3
 have h7:=hk.p0
 obtain ⟨dem,gg,st,was,put⟩:=k
 match st,h1 with
 | 0,_=>exact ⟨hk,hm⟩
 | 1,_ =>
  have e:put=none:=h5 (.inl rfl)
  subst e
  refine ⟨⟨?_,h2,hw.2,fun x hx=>(by cases hx),fun _=>rfl,fun h=>?_,fun _ x hx=>(by cases hx)⟩,hm.tick⟩
  ·show (if dem=true∧ld m (c.word p+1)=0 then 0 else 2)≤3
   split <;> decide
  ·replace h:(if dem=true∧ld m (c.word p+1)=0 then 0 else 2)=3:=h
   split at h <;> cases h
 | 2,_ =>
  have e:put=none:=h5 (.inr rfl)
  subst e
  unfold kickStep
  simp only
  split
  ·exact ⟨⟨Nat.zero_le _,h2,h3,fun x hx=>(by cases hx),fun _=>rfl,fun h=>(by cases h),fun _ x hx=>(by cases hx)⟩,hm.put _ hn⟩
  ·split
   ·rename_i hg
    refine ⟨⟨Nat.le_refl _,h2,h3,fun x hx=>?_,fun h=>(by rcases h with h | h <;> cases h),fun _=>⟨_,rfl,Nat.succ_ne_zero _⟩,fun h=>(by cases h)⟩,hm.put _ hn⟩
    cases hx
    exact ⟨show 1≤5 by decide,fun _=>⟨hg,i64_bd _⟩,show U64 0 by unfold U64; omega,Nat.zero_le _,fun h=>(by cases h),show 1≤64 by decide⟩
   ·refine ⟨⟨Nat.zero_le _,h2,h3,fun x hx=>?_,fun h=>(by rcases h with h | h <;> cases h),fun h=>(by cases h),fun _ x hx=>(by cases hx; rfl)⟩,hm.put _ hn⟩
    cases hx
    exact ⟨Nat.zero_le _,fun h=>absurd rfl h,show U64 0 by unfold U64; omega,Nat.zero_le _,fun h=>(by cases h),Nat.zero_le _⟩
 | 3,_ =>
  obtain ⟨x,e,hx0⟩:=h6 rfl
  have e':put=some x:=e
  subst e'
  have hp2:=putStep_ok hp (h4 x rfl) hm
  refine ⟨⟨?_,h2,h3,fun y hy=>?_,fun h=>?_,fun h=>?_,fun h y hy=>?_⟩,hp2.2⟩
  ·show (if (putStep c p x m).1.st=0 then 0 else 3)≤3
   split <;> decide
  ·cases hy
   exact hp2.1
  ·replace h:(if (putStep c p x m).1.st=0 then 0 else 3)=1∨(if (putStep c p x m).1.st=0 then 0 else 3)=2:=h
   split at h <;> (rcases h with h | h <;> cases h)
  ·replace h:(if (putStep c p x m).1.st=0 then 0 else 3)=3:=h
   refine ⟨_,rfl,fun hz=>?_⟩
   rw [if_pos hz] at h
   cases h
  ·replace h:(if (putStep c p x m).1.st=0 then 0 else 3)=0:=h
   cases hy
   by_cases hz:(putStep c p x m).1.st=0
   ·exact hz
   ·rw [if_neg hz] at h
    cases h
def KickS.holds (k:KickS) : List Int:=match k.put with | some x=>x.hs | none=>[]
def KickS.over (k:KickS) : List Int:=match k.put with | some x=>if x.st=0 then x.hs else [] | none=>[]
end Go.Proofs.Ytbcnbofkgkheeaa
namespace Go.Proofs.Ytbcnbofkgkheeaa
open Go.RowKit
open Go.Ev (sy)
set_option linter.unusedVariables false
set_option linter.unusedSimpArgs false
set_option maxRecDepth 8000
theorem blk_isA {b:Nat} {x:Int} {c:Ev.Ctx} {l:List Ev.Asr} {w:World} (h:Ev.Hold c (Ev.blkA b [.int .i64 x] 3 :: l) w) : Ev.Hold c (isA (.slice (some ⟨b,0,none⟩) 1 1) [x]::l) w :=
 h.head (fun F ⟨h1,h2⟩=>⟨rfl,.inr ⟨b,0,1,_,rfl,h1,h2,fun i hi=>by
  have:i=0:=by simp at hi; omega
  subst this
  rfl,Nat.le_refl _,Nat.le_refl _⟩⟩)
section
variable {w:World} {F:Nat→Prop} {c:Cfg} {p:Nat}
theorem put_over (hp:p < c.n) {x:PutS} (hx:PutOk c x) {bp:Nat} (h:Ev.Now [putA c p bp x] F w) :
  Calls Try.prog 51 #[.pointer (some ⟨bp,0,none⟩)] w fun e w'=>∃ v cd,Ev.dec cd=v∧e=.returned v∧Ev.Hold ⟨w,F⟩ [isA v (if x.st=0 then x.hs else []),putA c p bp x] w':=by
 have hh6:=hx.hs
 by_cases h0:x.st=0
 ·obtain ⟨k,tk,hd,ltk,lhd,hh⟩:=put_open0 h0 (Ev.Hold.start h)
  obtain ⟨F',n1,n2,n3⟩:=hh.ex
  have n1':Ev.Now [Ev.blkA bp [.int .i64 (c.n:Int),.int .i64 (c.q:Int),.int .i64 c.g,.int .i64 c.m,.int .i64 c.t,.int .i64 c.s,.int .i64 (p:Int),.int .i64 0,.int .u64 x.w,.int .u32 k,.int .i64 x.gg,tk,hd] 122,Ev.slA 3 1 hd x.hs.length (ints x.hs)] F' w:=by
   have e:putV c p bp x k tk hd=Ev.blkA bp [.int .i64 (c.n:Int),.int .i64 (c.q:Int),.int .i64 c.g,.int .i64 c.m,.int .i64 c.t,.int .i64 c.s,.int .i64 (p:Int),.int .i64 0,.int .u64 x.w,.int .u32 k,.int .i64 x.gg,tk,hd] 122:=by unfold putV; rw [h0]; rfl
   rw [e] at n1
   exact n1
  refine startP (poA w F' c p hp bp x.w k x.gg tk hd ltk lhd x.hs (by omega)) (by kernel_rfl) n1' (by simp) (by simp) (fun κ w1 h1=>⟨_,_,rfl,rfl,?_⟩)
  rw [if_pos h0]
  have h2:=(h1.into (l:=[]) n2 n3).sel [0,2,1] (by kernel_rfl)
  have h3:Ev.Hold ⟨w,F⟩ [putA c p bp x,isA (Ev.dec ((κ 403).getD 0)) x.hs] w1:=by
   refine put_close0 (k:=k) (tk:=tk) (hd:=hd) h0 ltk ?_
   unfold putV
   rw [h0]
   exact h2
  exact h3.sel [1,0] (by kernel_rfl)
 ·obtain ⟨k,tk,hd,ltk,lhd,hh⟩:=put_open h0 (Ev.Hold.start h)
  obtain ⟨F',n1,n2,n3⟩:=hh.ex
  obtain ⟨F1,F2,k1,k2,k3,k4⟩:=Ev.now_split (l:=[putV c p bp x k tk hd,isA hd x.hs]) n1
  refine startP (poB w F1 c p hp bp x.w k x.gg tk hd ltk lhd x.hs (by omega) x.st h0) (by kernel_rfl) k1 (by simp) (by simp) (fun κ w1 h1=>⟨_,_,Ev.dec_slice0,rfl,?_⟩)
  have h2:=(h1.frame k2 k3).into (l:=[]) n2 (fun j hj=>n3 j ((k4 j).2 hj))
  rw [if_neg h0]
  exact ((put_close (k:=k) (tk:=tk) (hd:=hd) h0 ltk (h2.sel [0,1,2] (by kernel_rfl))).nilSl (e := 3) (sz:=1))
end
end Go.Proofs.Ytbcnbofkgkheeaa
