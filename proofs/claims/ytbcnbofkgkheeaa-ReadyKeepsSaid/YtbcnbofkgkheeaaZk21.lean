/- Part of a proof: see the last text. -/
import Derived.Test.YtbcnbofkgkheeaaZk19
import Derived.Test.YtbcnbofkgkheeaaZk20
import Derived.Test.YtbcnbofkgkheeaaZk17
import Derived.Test.YtbcnbofkgkheeaaZk16
namespace Go.Proofs.Ytbcnbofkgkheeaa
open Go.RowKit
open Go.Ev (sy)
set_option linter.unusedVariables false
set_option linter.unusedSimpArgs false
set_option maxRecDepth 8000
theorem pickN (i:Int) (n:Nat) (h:0 < n) (hn:n≤1000000) (w:World) : Calls Try.prog 8 #[.int .i64 i,.int .i64 (n:Int)] w fun e w'=>e=.returned (.int .i64 (((pick i (n:Int)).toNat:Nat) : Int))∧Below w.heap.size w w':=by
 have hb:=pick_bd i n (by omega)
 have e:(((pick i (n:Int)).toNat:Nat) : Int)=pick i n:=by omega
 rw [e]
 exact pick_any i n (by omega) (by omega) w
theorem pickN_lt (i:Int) (n:Nat) (h:0 < n) : (pick i (n:Int)).toNat < n:=by
 have:=pick_bd i n (by omega)
 omega
def made (c:Cf) : Cfg where
 n:=1+(pick c.n 4).toNat
 q:=2 * 2 ^ (pick c.q 3).toNat
 g:=((1+(pick c.g 20).toNat:Nat) : Int)
 m:=((1+(pick c.n 4).toNat+1+(pick c.m 3).toNat:Nat) : Int)
 t:=((2+(pick c.t 6).toNat:Nat) : Int)
 s:=(((pick c.s 3).toNat:Nat) : Int)
 h:=by
  have h1:=pickN_lt c.n 4 (by omega)
  have h2:=pickN_lt c.q 3 (by omega)
  have h3:=pickN_lt c.g 20 (by omega)
  have h4:=pickN_lt c.m 3 (by omega)
  have h5:=pickN_lt c.t 6 (by omega)
  have h6:=pickN_lt c.s 3 (by omega)
  replace h1:(pick c.n 4).toNat < 4:=h1
  replace h2:(pick c.q 3).toNat < 3:=h2
  replace h3:(pick c.g 20).toNat < 20:=h3
  replace h4:(pick c.m 3).toNat < 3:=h4
  replace h5:(pick c.t 6).toNat < 6:=h5
  replace h6:(pick c.s 3).toNat < 3:=h6
  have hq:(2 * 2 ^ (pick c.q 3).toNat:Nat)=2∨(2 * 2 ^ (pick c.q 3).toNat:Nat)=4∨(2 * 2 ^ (pick c.q 3).toNat:Nat)=8:=by
   generalize (pick c.q 3).toNat=k at *
   match k,h2 with
   | 0,_=>exact .inl rfl
   | 1,_=>exact .inr (.inl rfl)
   | 2,_=>exact .inr (.inr rfl)
  simp only [rightB,wi,Bool.and_eq_true,Bool.or_eq_true,decide_eq_true_eq,beq_iff_eq]
  omega
theorem made_q (c:Cf) : (made c).q≤8:=by
 have h2:=pickN_lt c.q 3 (by omega)
 replace h2:(pick c.q 3).toNat < 3:=h2
 show (2 * 2 ^ (pick c.q 3).toNat:Nat)≤8
 generalize (pick c.q 3).toNat=k at *
 match k,h2 with
 | 0,_=>decide
 | 1,_=>decide
 | 2,_=>decide
theorem bt_shl2 {t:TypeId} {ox oy:Operand} {k:Nat} (h:k < 3) : (do eqGuard .shl t ox oy (.int .i64 2) (.int .i64 (k:Int)); binOp .shl t (.int .i64 2) (.int .i64 (k:Int)) : Sem Value)=pure (.int .i64 ((2 * 2 ^ k:Nat) : Int)):=by
  rw [Ev.guard_int]
  match k,h with
  | 0,_=>rfl
  | 1,_=>rfl
  | 2,_=>rfl
theorem bt_shr32 {t:TypeId} {ox oy:Operand} {x:Int} (h:U64 x) : (do eqGuard .shr t ox oy (.int .u64 x) (.int .u64 32); binOp .shr t (.int .u64 x) (.int .u64 32) : Sem Value)=pure (.int .u64 (hdW x)):=by
  rw [Ev.guard_int]
  show binOp .shr t (.int .u64 x) (.int .u64 32)=_
  have hb:=hdW_bd h
  simp only [binOp]
  have e2:Op.shift .shr .u64 x .u64 32=pure (.int .u64 (x.fdiv (2 ^ 32))):=rfl
  rw [e2,Int.fdiv_eq_ediv_of_nonneg _ (by decide)]
  rfl
abbrev filG (c:Cfg) (v:Value) : Ev.Asr:=Ev.exA (GoodC c) (fun us=>Ev.slA 30 1 v us.length (u64s us))
abbrev twoG (c:Cfg) (v:Value) : Ev.Asr:=Ev.exA (GoodC c) (fun us=>Ev.grp [memV (Ev.subV 0 v) ⟨us,((4+c.off c.n:Nat) : Int)⟩,Ev.slA 30 1 (Ev.subV 1 v) us.length (u64s us)])
section
variable {w:World} {F:Nat→Prop}
theorem filled_G (c:Cfg) {bv:Value} {bs:List Int} (hs:Ev.SlR 1 bv bs.length (u8s bs) w) (hb:bs.length≤1000) (hz:∀ i,0≤bs.getD i 0∧bs.getD i 0 < 256) (h:Ev.Now [] F w) :
  Calls Try.prog 10 #[c.v,bv] w fun e w'=>∃ v cd,Ev.dec cd=v∧e=.returned v∧Ev.Hold ⟨w,F⟩ [filG c v] w':=by
 refine (filled_ok c hs hb hz h).mono ?_
 rintro e w' ⟨v,cd,us,hg,e1,rfl,hh⟩
 exact ⟨v,cd,e1,rfl,Ev.Hold.putX (a:=fun us:List Int=>Ev.slA 30 1 v us.length (u64s us)) us hg hh⟩
theorem docs_memG (c:Cfg) {cv:Value} (h:Ev.Now [filG c cv] F w) :
  Calls Try.prog 9 #[cv] w fun e w'=>∃ v cd,Ev.dec cd=v∧e=.returned (.tuple #[Ev.subV 0 v,.agg #[Ev.subV 1 v,.int .u64 ((4+c.off c.n:Nat) : Int)]])∧Ev.Hold ⟨w,F⟩ [twoG c v] w':=by
 obtain ⟨us,hg,hh⟩:=Ev.Hold.getX (a:=fun us:List Int=>Ev.slA 30 1 cv us.length (u64s us)) (Ev.Hold.start h)
 obtain ⟨F',n1,n2,n3⟩:=hh.ex
 have hl:=hg.len
 have hle:=c.off_max
 refine (docs_mem (hold_leaf hh) (by omega) n1).mono ?_
 rintro e w' ⟨v,cd,e1,rfl,h1⟩
 refine ⟨v,cd,e1,by rw [hl],Ev.Hold.putX (a:=fun us:List Int=>Ev.grp [memV (Ev.subV 0 v) ⟨us,((4+c.off c.n:Nat) : Int)⟩,Ev.slA 30 1 (Ev.subV 1 v) us.length (u64s us)]) us hg (Ev.Hold.shut (m:=[]) ?_)⟩
 rw [hl] at h1
 have h2:=h1.into (l:=[]) n2 n3
 rw [← hl] at h2 ⊢
 exact h2
end
end Go.Proofs.Ytbcnbofkgkheeaa
namespace Go.Proofs.Ytbcnbofkgkheeaa
open Go.RowKit
open Go.Ev (sy iz uz wz iN uN wN pz dv fc fn ak vk vd kn pc cc cr cm cd fr)
set_option linter.unusedVariables false
set_option linter.unusedSimpArgs false
set_option maxRecDepth 8000
attribute [local irreducible] Ev.wpL
theorem u64s_get {xs:List Int} {a:Nat} {v:Int} (h:xs[a]? = some v) : (u64s xs)[a]? = some (.int .u64 v):=by
 unfold u64s
 rw [List.getElem?_map,h]
 rfl
theorem half_len {n:Nat} (h:n≤64) : IntKind.i64.wrap ((n:Int).tdiv 2)=((n / 2:Nat) : Int):=by
 have e:(n:Int).tdiv 2=((n / 2:Nat) : Int):=rfl
 rw [e]
 exact wrap_ok (by omega) (by omega)
structure KR where
 W0:World
 F0:Nat→Prop
 c:Cfg
 p:Nat
 hp:p < c.n
 bm:Nat
 m:MemM
 hm:MemOk c m
 hsz:szW (ld m (c.word p))≤(c.q:Int)
theorem KR.z (s:KR) : (2≤s.c.q∧s.c.q≤64)∧s.m.cells.length=4+s.c.off s.c.n∧s.m.cells.length≤564∧s.c.word s.p < s.m.cells.length∧0≤szW (ld s.m (s.c.word s.p))∧szW (ld s.m (s.c.word s.p))≤(s.c.q:Int):=⟨s.c.qb,s.hm.len,s.hm.big,s.hm.lt_word s.hp,sz_bd _,s.hsz⟩
theorem KR.hw (s:KR) : s.m.cells[s.c.word s.p]? = some (ld s.m (s.c.word s.p)):=(s.hm.get (s.hm.lt_word s.hp)).1
theorem KR.hu (s:KR) : U64 (ld s.m (s.c.word s.p)):=(s.hm.get (s.hm.lt_word s.hp)).2
abbrev kp1a0 (s:KR) : Value:=(.agg #[(iN (s.c.n)),(iN (s.c.q)),(iz (s.c.g)),(iz (s.c.m)),(iz (s.c.t)),(iz (s.c.s))])
abbrev kp1a13:List Ev.Blk:=[(4,[sy 7,sy 8,sy 9,sy 10,sy 11,sy 12],23)]
abbrev kp1a15 (s:KR) (av:Value) : Ev.Asr:=Ev.slA 30 1 (av) (s.m.cells.length) (u64s s.m.cells)
abbrev kp1a18 (s:KR) (b3:Nat) : Ev.Asr:=Ev.blkA b3 [(iN (s.c.n)),(iN (s.c.q)),(iz (s.c.g)),(iz (s.c.m)),(iz (s.c.t)),(iz (s.c.s))] 23
abbrev kp1a19 (s:KR) (b3:Nat) (av:Value) : List Ev.Asr:=[(kp1a18 s b3),(kp1a15 s av),memA s.bm s.m]
abbrev kp1a22:List Ev.Blk:=[(4,[sy 6,sy 7,sy 8,sy 9,sy 10,sy 11],23)]
abbrev kp1a23:List (Nat×Value):=[(2,sy 2),(3,.pointer (some ⟨4,0,none⟩)),(7,sy 0),(8,sy 1),(10,sy 3),(11,sy 4),(12,sy 5)]
abbrev kp1a24 (ov:Value) (xs:List Int) : Ev.Asr:=Ev.slA 3 1 (ov) (xs.length) (ints xs)
abbrev kp1a25 (s:KR) (av:Value) (ov:Value) (xs:List Int) : List Ev.Asr:=[(kp1a15 s av),(kp1a24 ov xs),memA s.bm s.m]
abbrev kp1a26 (s:KR) (b3:Nat) (av:Value) (ov:Value) (ix:Nat) : List (Nat×Value):=[(2,(iN (s.p))),(3,(pz b3)),(7,(ov)),(8,(av)),(10,(wz (hdW (ld s.m (s.c.word s.p))))),(11,(wz (tlW (ld s.m (s.c.word s.p))))),(12,(wN (ix)))]
abbrev kp1a27 (s:KR) (b3:Nat) (av:Value) (ov:Value) (xs:List Int) : List Ev.Asr:=[(kp1a18 s b3),(kp1a15 s av),(kp1a24 ov xs),memA s.bm s.m]
theorem kmd (W:World) (c:Cf) : Ev.PieE Try.prog 7 [] 0 31 ⟨W,fun _=>False⟩ [(0,(.agg #[(iz (c.n)),(iz (c.q)),(iz (c.g)),(iz (c.m)),(iz (c.t)),(iz (c.s))]))] [] (fun κ:Ev.Ren=>(.agg #[(iN (1+((pick c.n 4).toNat))),(iN (2 * 2 ^ (pick c.q 3).toNat)),(iN (1+((pick c.g 20).toNat))),(iN (((1+((pick c.n 4).toNat))+1)+((pick c.m 3).toNat))),(iN (2+((pick c.t 6).toNat))),(iN ((pick c.s 3).toNat))])) (fun κ:Ev.Ren=>[]):=(trE (c:=⟨W,fun _=>False⟩) 4 (kn [iN ((pick c.q 3).toNat),iz (c.n),iz (c.q),iz (c.g),iz (c.m),iz (c.t),iz (c.s),iN (2 * 2 ^ (pick c.q 3).toNat),iN ((pick c.n 4).toNat),iN (1+((pick c.n 4).toNat)),iN ((pick c.g 20).toNat),iN (1+((pick c.g 20).toNat)),iN ((1+((pick c.n 4).toNat))+1),iN ((pick c.m 3).toNat),iN (((1+((pick c.n 4).toNat))+1)+((pick c.m 3).toNat)),iN ((pick c.t 6).toNat),iN (2+((pick c.t 6).toNat)),iN ((pick c.s 3).toNat)] fr [(.add,.int .i64 1,sy 8,sy 9),(.shl,.int .i64 2,sy 0,sy 7),(.add,.int .i64 1,sy 10,sy 11),(.add,sy 9,.int .i64 1,sy 12),(.add,sy 12,sy 13,sy 14),(.add,.int .i64 2,sy 15,sy 16)] [] [] (fc (fun _ _ _=>Ev.bt_add (by have h1:(pick c.n 4).toNat < 4:=pickN_lt c.n 4 (by omega); have h2:(pick c.q 3).toNat < 3:=pickN_lt c.q 3 (by omega); have h3:(pick c.g 20).toNat < 20:=pickN_lt c.g 20 (by omega); have h4:(pick c.m 3).toNat < 3:=pickN_lt c.m 3 (by omega); have h5:(pick c.t 6).toNat < 6:=pickN_lt c.t 6 (by omega); have h6:(pick c.s 3).toNat < 3:=pickN_lt c.s 3 (by omega); rw [wrap_ok (by omega) (by omega)]; omega)) (fc (fun _ _ _=>bt_shl2 (pickN_lt c.q 3 (by omega))) (fc (fun _ _ _=>Ev.bt_add (by have h1:(pick c.n 4).toNat < 4:=pickN_lt c.n 4 (by omega); have h2:(pick c.q 3).toNat < 3:=pickN_lt c.q 3 (by omega); have h3:(pick c.g 20).toNat < 20:=pickN_lt c.g 20 (by omega); have h4:(pick c.m 3).toNat < 3:=pickN_lt c.m 3 (by omega); have h5:(pick c.t 6).toNat < 6:=pickN_lt c.t 6 (by omega); have h6:(pick c.s 3).toNat < 3:=pickN_lt c.s 3 (by omega); rw [wrap_ok (by omega) (by omega)]; omega)) (fc (fun _ _ _=>Ev.bt_add (by have h1:(pick c.n 4).toNat < 4:=pickN_lt c.n 4 (by omega); have h2:(pick c.q 3).toNat < 3:=pickN_lt c.q 3 (by omega); have h3:(pick c.g 20).toNat < 20:=pickN_lt c.g 20 (by omega); have h4:(pick c.m 3).toNat < 3:=pickN_lt c.m 3 (by omega); have h5:(pick c.t 6).toNat < 6:=pickN_lt c.t 6 (by omega); have h6:(pick c.s 3).toNat < 3:=pickN_lt c.s 3 (by omega); rw [wrap_ok (by omega) (by omega)]; omega)) (fc (fun _ _ _=>Ev.bt_add (by have h1:(pick c.n 4).toNat < 4:=pickN_lt c.n 4 (by omega); have h2:(pick c.q 3).toNat < 3:=pickN_lt c.q 3 (by omega); have h3:(pick c.g 20).toNat < 20:=pickN_lt c.g 20 (by omega); have h4:(pick c.m 3).toNat < 3:=pickN_lt c.m 3 (by omega); have h5:(pick c.t 6).toNat < 6:=pickN_lt c.t 6 (by omega); have h6:(pick c.s 3).toNat < 3:=pickN_lt c.s 3 (by omega); rw [wrap_ok (by omega) (by omega)]; omega)) (fc (fun _ _ _=>Ev.bt_add (by have h1:(pick c.n 4).toNat < 4:=pickN_lt c.n 4 (by omega); have h2:(pick c.q 3).toNat < 3:=pickN_lt c.q 3 (by omega); have h3:(pick c.g 20).toNat < 20:=pickN_lt c.g 20 (by omega); have h4:(pick c.m 3).toNat < 3:=pickN_lt c.m 3 (by omega); have h5:(pick c.t 6).toNat < 6:=pickN_lt c.t 6 (by omega); have h6:(pick c.s 3).toNat < 3:=pickN_lt c.s 3 (by omega); rw [wrap_ok (by omega) (by omega)]; omega)) fn)))))) fn fn W (fun _=>False) [[]] [] [⟨8,[sy 1,.int .i64 4],0,none,sy 8,none⟩,⟨8,[sy 2,.int .i64 3],0,none,sy 0,none⟩,⟨8,[sy 3,.int .i64 20],0,none,sy 10,none⟩,⟨8,[sy 4,.int .i64 3],0,none,sy 13,none⟩,⟨8,[sy 5,.int .i64 6],0,none,sy 15,none⟩,⟨8,[sy 6,.int .i64 3],0,none,sy 17,none⟩]) fn (fc (by have h1:(pick c.n 4).toNat < 4:=pickN_lt c.n 4 (by omega); have h2:(pick c.q 3).toNat < 3:=pickN_lt c.q 3 (by omega); have h3:(pick c.g 20).toNat < 20:=pickN_lt c.g 20 (by omega); have h4:(pick c.m 3).toNat < 3:=pickN_lt c.m 3 (by omega); have h5:(pick c.t 6).toNat < 6:=pickN_lt c.t 6 (by omega); have h6:(pick c.s 3).toNat < 3:=pickN_lt c.s 3 (by omega); exact pc (args:=[(iz (c.n)),(.int .i64 4)]) rfl (fun w hb=>pickN (c.n) 4 (by omega) (by omega) w)) (fc (by have h1:(pick c.n 4).toNat < 4:=pickN_lt c.n 4 (by omega); have h2:(pick c.q 3).toNat < 3:=pickN_lt c.q 3 (by omega); have h3:(pick c.g 20).toNat < 20:=pickN_lt c.g 20 (by omega); have h4:(pick c.m 3).toNat < 3:=pickN_lt c.m 3 (by omega); have h5:(pick c.t 6).toNat < 6:=pickN_lt c.t 6 (by omega); have h6:(pick c.s 3).toNat < 3:=pickN_lt c.s 3 (by omega); exact pc (args:=[(iz (c.q)),(.int .i64 3)]) rfl (fun w hb=>pickN (c.q) 3 (by omega) (by omega) w)) (fc (by have h1:(pick c.n 4).toNat < 4:=pickN_lt c.n 4 (by omega); have h2:(pick c.q 3).toNat < 3:=pickN_lt c.q 3 (by omega); have h3:(pick c.g 20).toNat < 20:=pickN_lt c.g 20 (by omega); have h4:(pick c.m 3).toNat < 3:=pickN_lt c.m 3 (by omega); have h5:(pick c.t 6).toNat < 6:=pickN_lt c.t 6 (by omega); have h6:(pick c.s 3).toNat < 3:=pickN_lt c.s 3 (by omega); exact pc (args:=[(iz (c.g)),(.int .i64 20)]) rfl (fun w hb=>pickN (c.g) 20 (by omega) (by omega) w)) (fc (by have h1:(pick c.n 4).toNat < 4:=pickN_lt c.n 4 (by omega); have h2:(pick c.q 3).toNat < 3:=pickN_lt c.q 3 (by omega); have h3:(pick c.g 20).toNat < 20:=pickN_lt c.g 20 (by omega); have h4:(pick c.m 3).toNat < 3:=pickN_lt c.m 3 (by omega); have h5:(pick c.t 6).toNat < 6:=pickN_lt c.t 6 (by omega); have h6:(pick c.s 3).toNat < 3:=pickN_lt c.s 3 (by omega); exact pc (args:=[(iz (c.m)),(.int .i64 3)]) rfl (fun w hb=>pickN (c.m) 3 (by omega) (by omega) w)) (fc (by have h1:(pick c.n 4).toNat < 4:=pickN_lt c.n 4 (by omega); have h2:(pick c.q 3).toNat < 3:=pickN_lt c.q 3 (by omega); have h3:(pick c.g 20).toNat < 20:=pickN_lt c.g 20 (by omega); have h4:(pick c.m 3).toNat < 3:=pickN_lt c.m 3 (by omega); have h5:(pick c.t 6).toNat < 6:=pickN_lt c.t 6 (by omega); have h6:(pick c.s 3).toNat < 3:=pickN_lt c.s 3 (by omega); exact pc (args:=[(iz (c.t)),(.int .i64 6)]) rfl (fun w hb=>pickN (c.t) 6 (by omega) (by omega) w)) (fc (by have h1:(pick c.n 4).toNat < 4:=pickN_lt c.n 4 (by omega); have h2:(pick c.q 3).toNat < 3:=pickN_lt c.q 3 (by omega); have h3:(pick c.g 20).toNat < 20:=pickN_lt c.g 20 (by omega); have h4:(pick c.m 3).toNat < 3:=pickN_lt c.m 3 (by omega); have h5:(pick c.t 6).toNat < 6:=pickN_lt c.t 6 (by omega); have h6:(pick c.s 3).toNat < 3:=pickN_lt c.s 3 (by omega); exact pc (args:=[(iz (c.s)),(.int .i64 3)]) rfl (fun w hb=>pickN (c.s) 3 (by omega) (by omega) w)) fn)))))) rfl [] [] [] 0 rfl rfl [(0,.agg #[sy 1,sy 2,sy 3,sy 4,sy 5,sy 6])] (.agg #[sy 9,sy 7,sy 11,sy 14,sy 16,sy 17]))
theorem kqA (s:KR) : Ev.Pie Try.prog 11 [] 0 3 85 ⟨s.W0,s.F0⟩ [(0,(kp1a0 s)),(1,(pz s.bm)),(2,(iN (s.p)))] [memA s.bm s.m] .normal (fun κ:Ev.Ren=>[(2,(iN (s.p))),(3,(pz ((κ 400).getD 0))),(7,(.slice none 0 0)),(8,(dv κ 407))]) (fun κ:Ev.Ren=>[Ev.blkA ((κ 400).getD 0) [(iN (s.c.n)),(iN (s.c.q)),(iz (s.c.g)),(iz (s.c.m)),(iz (s.c.t)),(iz (s.c.s))] 23,Ev.slA 30 1 (dv κ 407) s.m.cells.length (u64s s.m.cells),memA s.bm s.m]):=(tr (c:=⟨s.W0,s.F0⟩) (kn [iN (s.c.n),iN (s.c.q),iz (s.c.g),iz (s.c.m),iz (s.c.t),iz (s.c.s),pz s.bm,iN (s.p)] fr [] [] [] fn fn fn s.W0 s.F0 [[memA s.bm s.m],[Ev.atD 407 (fun v=>Ev.slA 30 1 v s.m.cells.length (u64s s.m.cells)),Ev.atD 407 (fun v=>memA s.bm s.m)]] [] [⟨38,[sy 6],0,some 407,.complex .f32 407 0,some 1⟩]) fn (fc (cd rfl [fun v=>Ev.slA 30 1 v s.m.cells.length (u64s s.m.cells),fun v=>memA s.bm s.m] [0] [] (fun w F ho hn hF=>mem_allH (by have z:=s.z; omega) hn)) fn) rfl [] [] [(400,[sy 0,sy 1,sy 2,sy 3,sy 4,sy 5],23)] 1 rfl rfl [(0,.agg #[sy 0,sy 1,sy 2,sy 3,sy 4,sy 5]),(1,sy 6),(2,sy 7)] [(2,sy 7),(3,.pointer (some ⟨400,0,none⟩)),(7,.slice none 0 0),(8,.complex .f32 407 0)] .normal).conv (fun κ w=>⟨(fun _ h=>h),(fun _ h=>Ev.undy (a:=fun v=>Ev.slA 30 1 v s.m.cells.length (u64s s.m.cells)) (fun _ _ _ _ _ h=>h) h),(fun _ h=>Ev.undy (a:=fun v=>memA s.bm s.m) (fun _ _ _ _ _ h=>h) h),trivial⟩)
theorem kqB (s:KR) (b3:Nat) (av:Value) (lav:Ev.leafV av=true) : Ev.Pie Try.prog 11 [] 3 5 85 ⟨s.W0,s.F0⟩ [(2,(iN (s.p))),(3,(pz b3)),(7,(.slice none 0 0)),(8,(av))] (kp1a19 s b3 av) .normal (fun κ:Ev.Ren=>[(2,(iN (s.p))),(3,(pz b3)),(7,(.slice none 0 0)),(8,(av)),(10,(wz (hdW (ld s.m (s.c.word s.p))))),(11,(wz (tlW (ld s.m (s.c.word s.p))))),(12,(.int .u32 0))]) (fun κ:Ev.Ren=>(kp1a19 s b3 av)):=(tr (c:=⟨s.W0,s.F0⟩) (kn [av,Ev.ptrR (av) ((s.c.word s.p) * 1),uz (ld s.m (s.c.word s.p)),uz (hdW (ld s.m (s.c.word s.p))),wz (hdW (ld s.m (s.c.word s.p))),wz (tlW (ld s.m (s.c.word s.p))),iN (s.p),iN (s.c.n),iN (s.c.q),iz (s.c.g),iz (s.c.m),iz (s.c.t),iz (s.c.s),iN (s.m.cells.length),iN (4+s.c.off s.c.n),iN (s.c.word s.p)] (fc (by assumption) (fc (Ev.ptrR_leaf _ _) fr)) [(.lss,sy 13,sy 14,.bool false),(.lss,sy 15,.int .i64 0,.bool false),(.geq,sy 15,sy 13,.bool false),(.shr,sy 2,.int .u64 32,sy 3)] [] [(.u32,sy 3,sy 4),(.u32,sy 2,sy 5)] (fc (fun _ _ _=>Ev.bt_lss (by have z:=s.z; first | (simp; done) | (simp; omega))) (fc (fun _ _ _=>Ev.bt_lss (by have z:=s.z; first | (simp; done) | (simp; omega))) (fc (fun _ _ _=>Ev.bt_geq (by have z:=s.z; first | (simp; done) | (simp; omega))) (fc (fun _ _ _=>bt_shr32 s.hu) fn)))) fn (fc (Ev.ct_in rfl rfl (by have z:=hdW_bd s.hu; rw [wrap32]; omega)) (fc (Ev.ct_in rfl rfl (wrap32 _)) fn)) s.W0 s.F0 [[(kp1a15 s av),memA s.bm s.m]] [⟨[10,29],[sy 0],none,0,none,sy 13,none⟩,⟨[3,29],[sy 0,sy 15],none,0,none,sy 1,none⟩,⟨[1,30],[sy 1],none,0,none,sy 2,none⟩] [⟨24,[.agg #[sy 7,sy 8,sy 9,sy 10,sy 11,sy 12]],0,none,sy 14,none⟩,⟨26,[.agg #[sy 7,sy 8,sy 9,sy 10,sy 11,sy 12],sy 6],0,none,sy 15,none⟩]) (fc (by obtain ⟨i,i1,i2,i3,i4⟩:=infU64; exact Ev.sl_len (ci:=1) rfl rfl Try.underlying29 i2 rfl rfl) (fc (by obtain ⟨i,i1,i2,i3,i4⟩:=infU64; have z:=s.z; exact Ev.sl_index (ci:=1) (j:=(s.c.word s.p)) rfl rfl Try.underlying29 i1 i2 rfl rfl (by omega) rfl) (fc (by have z:=s.z; exact Ev.sl_load (ci:=1) (m:=(s.c.word s.p) * 1) (x:=(uz (ld s.m (s.c.word s.p)))) rfl rfl loadU64 (by rw [Nat.mul_one]; exact u64s_get s.hw) (by simp; omega) rfl (fun ι=>(vk (by kernel_rfl) (by kernel_rfl)))) fn))) (fc (pc rfl (fun w hb=>cells_ok s.c w)) (fc (pc rfl (fun w hb=>word_ok s.c s.p s.hp w)) fn)) rfl [(4,b3)] kp1a13 kp1a13 0 rfl rfl [(2,sy 6),(3,.pointer (some ⟨4,0,none⟩)),(7,.slice none 0 0),(8,sy 0)] [(2,sy 6),(3,.pointer (some ⟨4,0,none⟩)),(7,.slice none 0 0),(8,sy 0),(10,sy 4),(11,sy 5),(12,.int .u32 0)] .normal)
theorem kqC (s:KR) (b3:Nat) (av:Value) (lav:Ev.leafV av=true) (ov:Value) (lov:Ev.leafV ov=true) (xs:List Int) (hx:xs.length≤64) (ix:Nat) (hi:(ix:Int) < szW (ld s.m (s.c.word s.p))) : Ev.Pie Try.prog 11 [16,0] 0 2 85 ⟨s.W0,s.F0⟩ (kp1a26 s b3 av ov ix) (kp1a27 s b3 av ov xs) .normal (fun κ:Ev.Ren=>(kp1a26 s b3 av ov ix)) (fun κ:Ev.Ren=>(kp1a27 s b3 av ov xs)):=(tr (c:=⟨s.W0,s.F0⟩) (kn [ov,av,iN (s.p),wz (hdW (ld s.m (s.c.word s.p))),wz (tlW (ld s.m (s.c.word s.p))),wN (ix),iN (s.c.n),iN (s.c.q),iz (s.c.g),iz (s.c.m),iz (s.c.t),iz (s.c.s),wz (szW (ld s.m (s.c.word s.p))),wN (s.c.q),wN (ix+1),wz (IntKind.u32.wrap (hdW (ld s.m (s.c.word s.p))+(ix:Int)))] (fc (by assumption) (fc (by assumption) fr)) [(.sub,sy 4,sy 3,sy 12),(.lss,sy 5,sy 12,.bool true),(.leq,sy 12,sy 13,.bool true)] [] [(.u32,sy 7,sy 13)] (fc (fun _ _ _=>Ev.bt_sub (wrap32 _)) (fc (fun _ _ _=>Ev.bt_lss (by have z:=s.z; first | (simp; done) | (simp; omega))) (fc (fun _ _ _=>Ev.bt_leq (by have z:=s.z; first | (simp; done) | (simp; omega))) fn))) fn (fc (Ev.ct_in rfl rfl (by have z:=s.z; rw [wrap32]; omega)) fn) s.W0 s.F0 [(kp1a25 s av ov xs)] [] []) fn fn rfl [(4,b3)] kp1a22 kp1a22 0 rfl rfl kp1a23 kp1a23 .normal)
theorem kqD (s:KR) (b3:Nat) (av:Value) (lav:Ev.leafV av=true) (ov:Value) (lov:Ev.leafV ov=true) (xs:List Int) (hx:xs.length≤64) (ix:Nat) (hi:¬ (ix:Int) < szW (ld s.m (s.c.word s.p))) : Ev.Pie Try.prog 11 [16,0] 0 2 85 ⟨s.W0,s.F0⟩ (kp1a26 s b3 av ov ix) (kp1a27 s b3 av ov xs) (.exit 0) (fun κ:Ev.Ren=>[(7,(ov))]) (fun κ:Ev.Ren=>(kp1a27 s b3 av ov xs)):=(tr (c:=⟨s.W0,s.F0⟩) (kn [ov,av,iN (s.p),wz (hdW (ld s.m (s.c.word s.p))),wz (tlW (ld s.m (s.c.word s.p))),wN (ix),iN (s.c.n),iN (s.c.q),iz (s.c.g),iz (s.c.m),iz (s.c.t),iz (s.c.s),wz (szW (ld s.m (s.c.word s.p))),wN (s.c.q),wN (ix+1),wz (IntKind.u32.wrap (hdW (ld s.m (s.c.word s.p))+(ix:Int)))] (fc (by assumption) (fc (by assumption) fr)) [(.sub,sy 4,sy 3,sy 12),(.lss,sy 5,sy 12,.bool false)] [] [] (fc (fun _ _ _=>Ev.bt_sub (wrap32 _)) (fc (fun _ _ _=>Ev.bt_lss (by have z:=s.z; first | (simp; done) | (simp; omega))) fn)) fn fn s.W0 s.F0 [(kp1a25 s av ov xs)] [] []) fn fn rfl [(4,b3)] kp1a22 kp1a22 0 rfl rfl kp1a23 [(7,sy 0)] (.exit 0))
theorem kqE (s:KR) (b3:Nat) (av:Value) (lav:Ev.leafV av=true) (ov:Value) (lov:Ev.leafV ov=true) (xs:List Int) (hx:xs.length≤64) (ix:Nat) (hi:(ix:Int) < szW (ld s.m (s.c.word s.p))) : Ev.Pie Try.prog 11 [16,0,4] 0 4 85 ⟨s.W0,s.F0⟩ (kp1a26 s b3 av ov ix) (kp1a27 s b3 av ov xs) .normal (fun κ:Ev.Ren=>[(2,(iN (s.p))),(3,(pz b3)),(7,(dv κ 407)),(8,(av)),(10,(wz (hdW (ld s.m (s.c.word s.p))))),(11,(wz (tlW (ld s.m (s.c.word s.p))))),(12,(wN (ix)))]) (fun κ:Ev.Ren=>[(kp1a18 s b3),(kp1a15 s av),Ev.slA 3 1 (dv κ 407) (xs.length+1) ((ints xs)++[(iz (IntKind.i64.wrap (ld s.m (s.c.slot s.p (IntKind.u32.wrap (hdW (ld s.m (s.c.word s.p))+(ix:Int)))))))]),memA s.bm s.m]):=(tr (c:=⟨s.W0,s.F0⟩) (kn [ov,av,Ev.ptrR (av) ((s.c.slot s.p (IntKind.u32.wrap (hdW (ld s.m (s.c.word s.p))+(ix:Int)))) * 1),iN (s.p),wz (hdW (ld s.m (s.c.word s.p))),wz (tlW (ld s.m (s.c.word s.p))),wN (ix),iN (s.c.n),iN (s.c.q),iz (s.c.g),iz (s.c.m),iz (s.c.t),iz (s.c.s),wz (szW (ld s.m (s.c.word s.p))),wN (s.c.q),wN (ix+1),wz (IntKind.u32.wrap (hdW (ld s.m (s.c.word s.p))+(ix:Int))),iN (s.c.slot s.p (IntKind.u32.wrap (hdW (ld s.m (s.c.word s.p))+(ix:Int)))),iN (s.m.cells.length),uz (ld s.m (s.c.slot s.p (IntKind.u32.wrap (hdW (ld s.m (s.c.word s.p))+(ix:Int))))),iz (IntKind.i64.wrap (ld s.m (s.c.slot s.p (IntKind.u32.wrap (hdW (ld s.m (s.c.word s.p))+(ix:Int))))))] (fc (by assumption) (fc (by assumption) (fc (Ev.ptrR_leaf _ _) fr))) [(.add,sy 4,sy 6,sy 16),(.lss,sy 17,.int .i64 0,.bool false),(.geq,sy 17,sy 18,.bool false)] [] [(.i64,sy 19,sy 20)] (fc (fun _ _ _=>Ev.bt_add rfl) (fc (fun _ _ _=>Ev.bt_lss (by have z:=s.z; have q9:=s.hm.lt_slot s.hp (IntKind.u32.wrap (hdW (ld s.m (s.c.word s.p))+(ix:Int))); first | (simp; done) | (simp; omega))) (fc (fun _ _ _=>Ev.bt_geq (by have z:=s.z; have q9:=s.hm.lt_slot s.hp (IntKind.u32.wrap (hdW (ld s.m (s.c.word s.p))+(ix:Int))); first | (simp; done) | (simp; omega))) fn))) fn (fc ⟨.u64,_,rfl,rfl⟩ fn) s.W0 s.F0 [(kp1a25 s av ov xs),[(kp1a15 s av),Ev.atD 407 (fun v=>Ev.slA 3 1 v (xs.length+1) ((ints xs)++[(iz (IntKind.i64.wrap (ld s.m (s.c.slot s.p (IntKind.u32.wrap (hdW (ld s.m (s.c.word s.p))+(ix:Int)))))))])),memA s.bm s.m]] [⟨[10,29],[sy 1],none,0,none,sy 18,none⟩,⟨[3,29],[sy 1,sy 17],none,0,none,sy 2,none⟩,⟨[1,30],[sy 2],none,0,none,sy 19,none⟩,⟨[11,36,36],[sy 0],some (1,1,[sy 20]),0,some 407,.complex .f32 407 0,some 1⟩] [⟨27,[.agg #[sy 7,sy 8,sy 9,sy 10,sy 11,sy 12],sy 3,sy 16],0,none,sy 17,none⟩]) (fc (by obtain ⟨i,i1,i2,i3,i4⟩:=infU64; exact Ev.sl_len (ci:=1) rfl rfl Try.underlying29 i2 rfl rfl) (fc (by obtain ⟨i,i1,i2,i3,i4⟩:=infU64; have z:=s.z; have q9:=s.hm.lt_slot s.hp (IntKind.u32.wrap (hdW (ld s.m (s.c.word s.p))+(ix:Int))); exact Ev.sl_index (ci:=1) (j:=(s.c.slot s.p (IntKind.u32.wrap (hdW (ld s.m (s.c.word s.p))+(ix:Int))))) rfl rfl Try.underlying29 i1 i2 rfl rfl (by omega) rfl) (fc (by have z:=s.z; have q9:=s.hm.lt_slot s.hp (IntKind.u32.wrap (hdW (ld s.m (s.c.word s.p))+(ix:Int))); exact Ev.sl_load (ci:=1) (m:=(s.c.slot s.p (IntKind.u32.wrap (hdW (ld s.m (s.c.word s.p))+(ix:Int)))) * 1) (x:=(uz (ld s.m (s.c.slot s.p (IntKind.u32.wrap (hdW (ld s.m (s.c.word s.p))+(ix:Int))))))) rfl rfl loadU64 (by rw [Nat.mul_one]; exact u64s_get (s.hm.get (s.hm.lt_slot s.hp _)).1) (by simp; omega) rfl (fun ι=>(vk (by kernel_rfl) (by kernel_rfl)))) (fc (by obtain ⟨i,i1,i2,i3,i4⟩:=infInt; have z:=s.z; have q9:=s.hm.lt_slot s.hp (IntKind.u32.wrap (hdW (ld s.m (s.c.word s.p))+(ix:Int))); exact Ev.sl_append (ci:=2) (m:=1) (cs:=[(iz (IntKind.i64.wrap (ld s.m (s.c.slot s.p (IntKind.u32.wrap (hdW (ld s.m (s.c.word s.p))+(ix:Int)))))))]) rfl rfl rfl Try.underlying36 Try.underlying36 i1 i2 (by omega) i3 (by rw [i2]; rfl) (by rw [i4]; omega) (by omega) rfl rfl (ak (by kernel_rfl) (by kernel_rfl))) fn)))) (fc (pc (args:=[(kp1a0 s),(iN (s.p)),(wz (IntKind.u32.wrap (hdW (ld s.m (s.c.word s.p))+(ix:Int))))]) rfl (fun w hb=>slot_ok s.c s.p s.hp (IntKind.u32.wrap (hdW (ld s.m (s.c.word s.p))+(ix:Int))) (by first | exact (tlW_bd _).1 | exact wrap_nn _) w)) fn) rfl [(4,b3)] kp1a13 kp1a13 1 rfl rfl [(2,sy 3),(3,.pointer (some ⟨4,0,none⟩)),(7,sy 0),(8,sy 1),(10,sy 4),(11,sy 5),(12,sy 6)] [(2,sy 3),(3,.pointer (some ⟨4,0,none⟩)),(7,.complex .f32 407 0),(8,sy 1),(10,sy 4),(11,sy 5),(12,sy 6)] .normal).conv (fun κ w=>⟨(fun _ h=>h),(fun _ h=>h),(fun _ h=>Ev.undy (a:=fun v=>Ev.slA 3 1 v (xs.length+1) ((ints xs)++[(iz (IntKind.i64.wrap (ld s.m (s.c.slot s.p (IntKind.u32.wrap (hdW (ld s.m (s.c.word s.p))+(ix:Int)))))))])) (fun _ _ _ _ _ h=>h) h),(fun _ h=>h),trivial⟩)
theorem kqF (s:KR) (b3:Nat) (av:Value) (lav:Ev.leafV av=true) (ov:Value) (lov:Ev.leafV ov=true) (xs:List Int) (hx:xs.length≤64) (ix:Nat) (hi:(ix:Int) < szW (ld s.m (s.c.word s.p))) : Ev.Pie Try.prog 11 [16,0] 3 1 85 ⟨s.W0,s.F0⟩ (kp1a26 s b3 av ov ix) (kp1a27 s b3 av ov xs) .normal (fun κ:Ev.Ren=>[(2,(iN (s.p))),(3,(pz b3)),(7,(ov)),(8,(av)),(10,(wz (hdW (ld s.m (s.c.word s.p))))),(11,(wz (tlW (ld s.m (s.c.word s.p))))),(12,(wN (ix+1)))]) (fun κ:Ev.Ren=>(kp1a27 s b3 av ov xs)):=(tr (c:=⟨s.W0,s.F0⟩) (kn [ov,av,iN (s.p),wz (hdW (ld s.m (s.c.word s.p))),wz (tlW (ld s.m (s.c.word s.p))),wN (ix),iN (s.c.n),iN (s.c.q),iz (s.c.g),iz (s.c.m),iz (s.c.t),iz (s.c.s),wz (szW (ld s.m (s.c.word s.p))),wN (s.c.q),wN (ix+1),wz (IntKind.u32.wrap (hdW (ld s.m (s.c.word s.p))+(ix:Int)))] (fc (by assumption) (fc (by assumption) fr)) [(.add,sy 5,.int .u32 1,sy 14)] [] [] (fc (fun _ _ _=>Ev.bt_add (by have z:=s.z; rw [wrap32]; omega)) fn) fn fn s.W0 s.F0 [(kp1a25 s av ov xs)] [] []) fn fn rfl [(4,b3)] kp1a22 kp1a22 0 rfl rfl kp1a23 [(2,sy 2),(3,.pointer (some ⟨4,0,none⟩)),(7,sy 0),(8,sy 1),(10,sy 3),(11,sy 4),(12,sy 14)] .normal)
theorem kqG (s:KR) (ov:Value) (lov:Ev.leafV ov=true) (xs:List Int) : Ev.PieE Try.prog 11 [] 9 85 ⟨s.W0,s.F0⟩ [(7,(ov))] [(kp1a24 ov xs),memA s.bm s.m] (fun κ:Ev.Ren=>(ov)) (fun κ:Ev.Ren=>[(kp1a24 ov xs),memA s.bm s.m]):=(trE (c:=⟨s.W0,s.F0⟩) 2 (kn [ov] (fc (by assumption) fn) [] [] [] fn fn fn s.W0 s.F0 [[(kp1a24 ov xs),memA s.bm s.m]] [] []) fn fn rfl [] [] [] 0 rfl rfl [(7,sy 0)] (sy 0))
theorem ksd (W0:World) (F0:Nat→Prop) (c:Cfg) (p:Nat) (hp:p < c.n) : Ev.PieE Try.prog 14 [] 0 16 ⟨W0,F0⟩ [(0,(.agg #[(iN (c.n)),(iN (c.q)),(iz (c.g)),(iz (c.m)),(iz (c.t)),(iz (c.s))])),(1,(iN (p))),(2,(.bool true))] [] (fun κ:Ev.Ren=>(.iface 60 (dv κ 407))) (fun κ:Ev.Ren=>[xW (newD c p) (dv κ 407)]):=(trE (c:=⟨W0,F0⟩) 5 (kn [iN (c.n),iN (c.q),iz (c.g),iz (c.m),iz (c.t),iz (c.s),iN (p)] fr [] [] [] fn fn fn W0 F0 [[],[Ev.atD 407 (fun v=>xW (newD c p) v)]] [] [⟨21,[.agg #[sy 0,sy 1,sy 2,sy 3,sy 4,sy 5],sy 6],0,some 407,.complex .f32 407 0,some 1⟩]) fn (fc (cd rfl [fun v=>xW (newD c p) v] [] [] (fun w F ho hn hF=>newD_ok c hp hn)) fn) rfl [] [] [] 1 rfl rfl [(0,.agg #[sy 0,sy 1,sy 2,sy 3,sy 4,sy 5]),(1,sy 6),(2,.bool true)] (.iface 60 (.complex .f32 407 0))).conv (fun κ w=>⟨(fun _ h=>Ev.undy (a:=fun v=>xW (newD c p) v) (fun _ _ _ _ _ h=>h) h),trivial⟩)
theorem ksr (W0:World) (F0:Nat→Prop) (c:Cfg) (p:Nat) (hp:p < c.n) : Ev.PieE Try.prog 14 [] 0 16 ⟨W0,F0⟩ [(0,(.agg #[(iN (c.n)),(iN (c.q)),(iz (c.g)),(iz (c.m)),(iz (c.t)),(iz (c.s))])),(1,(iN (p))),(2,(.bool false))] [] (fun κ:Ev.Ren=>(.iface 50 (dv κ 407))) (fun κ:Ev.Ren=>[xW (newR c p 999) (dv κ 407)]):=(trE (c:=⟨W0,F0⟩) 5 (kn [iN (c.n),iN (c.q),iz (c.g),iz (c.m),iz (c.t),iz (c.s),iN (p)] fr [] [] [] fn fn fn W0 F0 [[],[Ev.atD 407 (fun v=>xW (newR c p 999) v)]] [] [⟨18,[.agg #[sy 0,sy 1,sy 2,sy 3,sy 4,sy 5],sy 6,.int .i64 999],0,some 407,.complex .f32 407 0,some 1⟩]) fn (fc (cd rfl [fun v=>xW (newR c p 999) v] [] [] (fun w F ho hn hF=>newR_ok c hp 999 (by omega) hn)) fn) rfl [] [] [] 1 rfl rfl [(0,.agg #[sy 0,sy 1,sy 2,sy 3,sy 4,sy 5]),(1,sy 6),(2,.bool false)] (.iface 50 (.complex .f32 407 0))).conv (fun κ w=>⟨(fun _ h=>Ev.undy (a:=fun v=>xW (newR c p 999) v) (fun _ _ _ _ _ h=>h) h),trivial⟩)
end Go.Proofs.Ytbcnbofkgkheeaa
namespace Go.Proofs.Ytbcnbofkgkheeaa
open Go.RowKit
open Go.Ev (sy)
set_option linter.unusedVariables false
set_option linter.unusedSimpArgs false
set_option maxRecDepth 8000
attribute [local irreducible] Ev.wpL
theorem made_ok (c:Cf) (w:World) : Calls Try.prog 7 #[c.v] w fun e w'=>e=.returned (made c).v∧Below w.heap.size w w' :=
 Ev.con_start (by kernel_rfl) (Ev.now_nil w) (by simp) (by simp) (fun A hA=>kmd w c A w _ hA (fun κ w1 h1=>⟨rfl,h1.below (fun _ h=>h)⟩))
theorem isA_app {xs ys:List Int} {v:Value} {c:Ev.Ctx} {l:List Ev.Asr} {w:World} (h:Ev.Hold c (Ev.slA 3 1 v (xs.length+ys.length) (ints xs++ints ys)::l) w) : Ev.Hold c (isA v (xs++ys)::l) w:=by
 unfold isA
 have e:ints (xs++ys)=ints xs++ints ys:=by simp [ints]
 rw [List.length_append,e]
 exact h
theorem ring_le {c:Cfg} {p:Nat} {m:MemM} (h:szW (ld m (c.word p))≤(c.q:Int)) : (ring c p m).length≤64:=by
 have h1:=c.qb.2
 have h2:=sz_bd (ld m (c.word p))
 rw [ring_len]
 omega
theorem docs_ring (c:Cfg) {p:Nat} (hp:p < c.n) {m:MemM} (hm:MemOk c m) (hsz:szW (ld m (c.word p))≤(c.q:Int)) {bm:Nat} {w:World} {F:Nat→Prop} (h:Ev.Now [memA bm m] F w) :
  Calls Try.prog 11 #[c.v,.pointer (some ⟨bm,0,none⟩),.int .i64 (p:Int)] w fun e w'=>∃ v cd,Ev.dec cd=v∧e=.returned v∧Ev.Hold ⟨w,F⟩ [isA v (ring c p m),memA bm m] w':=by
 let s:KR:=⟨w,F,c,p,hp,bm,m,hm,hsz⟩
 have hq:=c.qb
 have h0:=sz_bd (ld m (c.word p))
 refine Ev.con_start (N:=85) (tm:=[(0,c.v),(1,.pointer (some ⟨bm,0,none⟩)),(2,.int .i64 (p:Int))]) (by kernel_rfl) h (by simp) (by simp) (fun A hA=>?_)
 refine kqA s A w _ hA ?_
 intro κ A1 w1 h1
 dsimp only at h1
 have lav:Ev.leafV (Ev.dv κ 407)=true:=Ev.dec_leaf _
 generalize (κ 400).getD 0=b3 at h1
 generalize Ev.dv κ 407=av at h1 lav
 refine kqB s b3 av lav A1 w1 _ h1 ?_
 intro κ2 A2 w2 h2
 dsimp only at h2
 clear h1 hA A1 w1
 refine Ev.in_block (id:=0) (by kernel_rfl) ?_
 refine Ev.loop_st (by kernel_rfl) (fun (x:Nat×Value) A w'=>Ev.At ⟨w,F⟩ 85 [(2,.int .i64 (p:Int)),(3,.pointer (some ⟨b3,0,none⟩)),(7,x.2),(8,av),(10,.int .u32 (hdW (ld m (c.word p)))),(11,.int .u32 (tlW (ld m (c.word p)))),(12,.int .u32 ((x.1:Nat) : Int))] [Ev.blkA b3 [.int .i64 (c.n:Int),.int .i64 (c.q:Int),.int .i64 c.g,.int .i64 c.m,.int .i64 c.t,.int .i64 c.s] 23,Ev.slA 30 1 av m.cells.length (u64s m.cells),isA x.2 (ringL c p m (hdW (ld m (c.word p))) x.1),memA bm m] A w'∧(x.1:Int)≤szW (ld m (c.word p))∧∃ cd,Ev.dec cd=x.2) (fun x=>(szW (ld m (c.word p))).toNat - x.1) (x:=(0,.slice none 0 0)) ⟨h2.to (fun q hq=>hq) (fun hh=>(hh.nilSl (e := 3) (sz:=1)).sel [1,2,0,3] (by kernel_rfl)),h0,_,Ev.dec_slice0⟩ ?_
 clear h2 A2 w2
 rintro ⟨ix,ov⟩ A w' ⟨h1,hx,hcd⟩
 replace hx:(ix:Int)≤szW (ld m (c.word p)):=hx
 replace hcd:∃ cd,Ev.dec cd=ov:=hcd
 have lov:Ev.leafV ov=true:=hold_leaf (h1.hold.sel [2] (by kernel_rfl))
 have hlen:(ringL c p m (hdW (ld m (c.word p))) ix).length≤64:=by rw [ringL_len]; omega
 by_cases hlt:(ix:Int) < szW (ld m (c.word p))
 ·refine kqC s b3 av lav ov lov _ hlen ix hlt A w' _ h1 ?_
  intro κ3 A3 w3 h3
  refine Ev.in_block (id:=1) (by kernel_rfl) ?_
  refine kqE s b3 av lav ov lov _ hlen ix hlt A3 w3 _ h3 ?_
  intro κ4 A4 w4 h4
  dsimp only at h4
  have hcd2:∃ cd,Ev.dec cd=Ev.dv κ4 407:=⟨_,rfl⟩
  have lov2:Ev.leafV (Ev.dv κ4 407)=true:=Ev.dec_leaf _
  generalize Ev.dv κ4 407=ov2 at h4 hcd2 lov2
  have e:ringL c p m (hdW (ld m (c.word p))) (ix+1)=ringL c p m (hdW (ld m (c.word p))) ix++[IntKind.i64.wrap (ld m (c.slot p (IntKind.u32.wrap (hdW (ld m (c.word p))+(ix:Int)))))]:=by
   rw [ringL_succ,wrap32,slot_plc]
   rfl
  have hlen2:(ringL c p m (hdW (ld m (c.word p))) (ix+1)).length≤64:=by rw [ringL_len]; omega
  refine Ev.wpL_nil (by kernel_rfl) ?_
  refine kqF s b3 av lav ov2 lov2 _ hlen2 ix hlt A4 w4 _ (h4.to (fun q hq=>hq) (fun hh=>?_)) ?_
  ·rw [e]
   have h5:=(hh.sel [2,0,1,3] (by kernel_rfl))
   exact (isA_app (ys:=[_]) h5).sel [1,2,0,3] (by kernel_rfl)
  ·intro κ5 A5 w5 h5
   exact Ev.wpL_nil (by kernel_rfl) ⟨(ix+1,ov2),⟨h5,by show ((ix+1:Nat) : Int)≤_; omega,hcd2⟩,by show (szW (ld m (c.word p))).toNat - (ix+1) < (szW (ld m (c.word p))).toNat - ix; omega⟩
 ·refine kqD s b3 av lav ov lov _ hlen ix hlt A w' _ h1 ?_
  intro κ3 A3 w3 h3
  have ei:ix=(szW (ld m (c.word p))).toNat:=by omega
  refine kqG s ov lov _ A3 w3 _ (h3.to (fun q hq=>hq) (fun hh=>hh.sel [2,3] (by kernel_rfl))) ?_
  intro κ4 w4 h4
  obtain ⟨cd,ecd⟩:=hcd
  refine ⟨_,cd,ecd,rfl,?_⟩
  unfold ring
  rw [← ei]
  exact h4
theorem step_d (c:Cfg) {p:Nat} (hp:p < c.n) {w:World} {F:Nat→Prop} (h:Ev.Now [] F w) : Calls Try.prog 14 #[c.v,.int .i64 (p:Int),.bool true] w fun e w'=>∃ v cd,Ev.dec cd=v∧e=.returned (.iface 60 v)∧Ev.Hold ⟨w,F⟩ [xW (newD c p) v] w' :=
 startP (ksd w F c p hp) (by kernel_rfl) h (by simp) (by simp) (fun κ w1 h1=>⟨_,_,rfl,rfl,h1⟩)
theorem step_r (c:Cfg) {p:Nat} (hp:p < c.n) {w:World} {F:Nat→Prop} (h:Ev.Now [] F w) : Calls Try.prog 14 #[c.v,.int .i64 (p:Int),.bool false] w fun e w'=>∃ v cd,Ev.dec cd=v∧e=.returned (.iface 50 v)∧Ev.Hold ⟨w,F⟩ [xW (newR c p 999) v] w' :=
 startP (ksr w F c p hp) (by kernel_rfl) h (by simp) (by simp) (fun κ w1 h1=>⟨_,_,rfl,rfl,h1⟩)
end Go.Proofs.Ytbcnbofkgkheeaa
namespace Go.Proofs.Ytbcnbofkgkheeaa
open Go.RowKit
open Go.Ev (sy iz uz wz iN uN wN pz dv fc fn ak vk vd kn pc cc cr cm cd fr)
set_option linter.unusedVariables false
set_option linter.unusedSimpArgs false
set_option maxRecDepth 8000
attribute [local irreducible] Ev.wpL
abbrev kp3a11 (lv:Value) (xs:List Int) : Ev.Asr:=Ev.slA 3 1 (lv) (xs.length) (ints xs)
abbrev kp3a14 (s:KR) (b4:Nat) : Ev.Asr:=Ev.blkA b4 [(iN (s.c.n)),(iN (s.c.q)),(iz (s.c.g)),(iz (s.c.m)),(iz (s.c.t)),(iz (s.c.s))] 23
abbrev kp3a15 (s:KR) (b4:Nat) (lv:Value) (xs:List Int) : List Ev.Asr:=[(kp3a14 s b4),(kp3a11 lv xs),memA s.bm s.m]
theorem ktA (s:KR) (most:Nat) : Ev.Pie Try.prog 15 [] 0 2 51 ⟨s.W0,s.F0⟩ [(0,(.agg #[(iN (s.c.n)),(iN (s.c.q)),(iz (s.c.g)),(iz (s.c.m)),(iz (s.c.t)),(iz (s.c.s))])),(1,(pz s.bm)),(2,(iN (s.p))),(3,(iN (most)))] [memA s.bm s.m] .normal (fun κ:Ev.Ren=>[(1,(pz s.bm)),(2,(iN (s.p))),(3,(iN (most))),(4,(pz ((κ 400).getD 0))),(9,(dv κ 407))]) (fun κ:Ev.Ren=>[Ev.blkA ((κ 400).getD 0) [(iN (s.c.n)),(iN (s.c.q)),(iz (s.c.g)),(iz (s.c.m)),(iz (s.c.t)),(iz (s.c.s))] 23,isA (dv κ 407) (ring s.c s.p s.m),memA s.bm s.m]):=(tr (c:=⟨s.W0,s.F0⟩) (kn [iN (s.c.n),iN (s.c.q),iz (s.c.g),iz (s.c.m),iz (s.c.t),iz (s.c.s),pz s.bm,iN (s.p),iN (most)] fr [] [] [] fn fn fn s.W0 s.F0 [[memA s.bm s.m],[Ev.atD 407 (fun v=>isA v (ring s.c s.p s.m)),Ev.atD 407 (fun v=>memA s.bm s.m)]] [] [⟨11,[.agg #[sy 0,sy 1,sy 2,sy 3,sy 4,sy 5],sy 6,sy 7],0,some 407,.complex .f32 407 0,some 1⟩]) fn (fc (cd rfl [fun v=>isA v (ring s.c s.p s.m),fun v=>memA s.bm s.m] [0] [] (fun w F ho hn hF=>docs_ring s.c s.hp s.hm s.hsz hn)) fn) rfl [] [] [(400,[sy 0,sy 1,sy 2,sy 3,sy 4,sy 5],23)] 1 rfl rfl [(0,.agg #[sy 0,sy 1,sy 2,sy 3,sy 4,sy 5]),(1,sy 6),(2,sy 7),(3,sy 8)] [(1,sy 6),(2,sy 7),(3,sy 8),(4,.pointer (some ⟨400,0,none⟩)),(9,.complex .f32 407 0)] .normal).conv (fun κ w=>⟨(fun _ h=>h),(fun _ h=>Ev.undy (a:=fun v=>isA v (ring s.c s.p s.m)) (fun _ _ _ _ _ h=>h) h),(fun _ h=>Ev.undy (a:=fun v=>memA s.bm s.m) (fun _ _ _ _ _ h=>h) h),trivial⟩)
theorem ktN (s:KR) (b4:Nat) (most:Nat) (lv:Value) (llv:Ev.leafV lv=true) (xs:List Int) (hx:xs.length≤64) (h0:min most (xs.length - xs.length / 2)=0) : Ev.PieE Try.prog 15 [] 2 51 ⟨s.W0,s.F0⟩ [(1,(pz s.bm)),(2,(iN (s.p))),(3,(iN (most))),(4,(pz b4)),(9,(lv))] (kp3a15 s b4 lv xs) (fun κ:Ev.Ren=>(.slice none 0 0)) (fun κ:Ev.Ren=>(kp3a15 s b4 lv xs)):=(trE (c:=⟨s.W0,s.F0⟩) 8 (kn [lv,pz s.bm,iN (s.p),iN (most),iN (s.c.n),iN (s.c.q),iz (s.c.g),iz (s.c.m),iz (s.c.t),iz (s.c.s),iN (xs.length),iN (xs.length / 2),iN (xs.length - xs.length / 2),iN (min most (xs.length - xs.length / 2))] (fc (by assumption) fr) [(.quo,sy 10,.int .i64 2,sy 11),(.sub,sy 10,sy 11,sy 12),(.leq,sy 13,.int .i64 0,.bool true)] [] [] (fc (fun _ _ _=>Ev.bt_quo (by decide) (half_len hx)) (fc (fun _ _ _=>Ev.bt_sub (by rw [wrap_ok (by omega) (by omega)]; omega)) (fc (fun _ _ _=>Ev.bt_leq (by have z:=s.z; first | (simp; done) | (simp; omega))) fn))) fn fn s.W0 s.F0 [[(kp3a11 lv xs),memA s.bm s.m]] [⟨[10,36],[sy 0],none,0,none,sy 10,none⟩,⟨[16,3,3],[sy 3,sy 12],none,0,none,sy 13,none⟩] []) (fc (by obtain ⟨i,i1,i2,i3,i4⟩:=infInt; exact Ev.sl_len (ci:=1) rfl rfl Try.underlying36 i2 rfl rfl) (fc (Ev.row_min (kd:=.i64) (a:=(most:Int)) (b:=((xs.length - xs.length / 2:Nat) : Int)) (Ev.isSym rfl) (Ev.isSym rfl) (by show Value.int .i64 _=Value.int .i64 _; congr 1; omega)) fn)) fn rfl [(4,b4)] [(4,[sy 4,sy 5,sy 6,sy 7,sy 8,sy 9],23)] [(4,[sy 4,sy 5,sy 6,sy 7,sy 8,sy 9],23)] 0 rfl rfl [(1,sy 1),(2,sy 2),(3,sy 3),(4,.pointer (some ⟨4,0,none⟩)),(9,sy 0)] (.slice none 0 0))
theorem ktY (s:KR) (b4:Nat) (most:Nat) (lv:Value) (llv:Ev.leafV lv=true) (xs:List Int) (hx:xs.length≤64) (h0:0 < min most (xs.length - xs.length / 2)) : Ev.PieE Try.prog 15 [] 2 51 ⟨s.W0,s.F0⟩ [(1,(pz s.bm)),(2,(iN (s.p))),(3,(iN (most))),(4,(pz b4)),(9,(lv))] (kp3a15 s b4 lv xs) (fun κ:Ev.Ren=>(Ev.cutV 1 (lv) 0 (min most (xs.length - xs.length / 2)))) (fun κ:Ev.Ren=>[(kp3a14 s b4),memA s.bm (thM s.c s.p s.m (min most (xs.length - xs.length / 2))),(kp3a11 lv xs)]):=(trE (c:=⟨s.W0,s.F0⟩) 8 (kn [lv,Ev.cutV 1 (lv) 0 (min most (xs.length - xs.length / 2)),uz (ld s.m (s.c.word s.p)),uz (hdW (ld s.m (s.c.word s.p))),wz (hdW (ld s.m (s.c.word s.p))),wz (tlW (ld s.m (s.c.word s.p))),iN (xs.length),iN (xs.length / 2),iN (xs.length - xs.length / 2),iN (most),iN (min most (xs.length - xs.length / 2)),wN (min most (xs.length - xs.length / 2)),wz ((hdW (ld s.m (s.c.word s.p))+((min most (xs.length - xs.length / 2) : Nat) : Int)) % 4294967296),uz ((hdW (ld s.m (s.c.word s.p))+((min most (xs.length - xs.length / 2) : Nat) : Int)) % 4294967296),uz (((hdW (ld s.m (s.c.word s.p))+((min most (xs.length - xs.length / 2) : Nat) : Int)) % 4294967296) * 4294967296),uz (tlW (ld s.m (s.c.word s.p))),uz (packW ((hdW (ld s.m (s.c.word s.p))+((min most (xs.length - xs.length / 2) : Nat) : Int)) % 4294967296) (tlW (ld s.m (s.c.word s.p)))),pz s.bm,iN (s.p),iN (s.c.n),iN (s.c.q),iz (s.c.g),iz (s.c.m),iz (s.c.t),iz (s.c.s),iN (s.c.word s.p)] (fc (by assumption) (fc (by first | assumption | exact Ev.cutV_leaf llv) fr)) [(.quo,sy 6,.int .i64 2,sy 7),(.sub,sy 6,sy 7,sy 8),(.leq,sy 10,.int .i64 0,.bool false),(.shr,sy 2,.int .u64 32,sy 3),(.add,sy 4,sy 11,sy 12),(.shl,sy 13,.int .u64 32,sy 14),(.or,sy 14,sy 15,sy 16)] [] [(.u32,sy 3,sy 4),(.u32,sy 10,sy 11),(.u64,sy 12,sy 13),(.u32,sy 2,sy 5),(.u64,sy 5,sy 15)] (fc (fun _ _ _=>Ev.bt_quo (by decide) (half_len hx)) (fc (fun _ _ _=>Ev.bt_sub (by rw [wrap_ok (by omega) (by omega)]; omega)) (fc (fun _ _ _=>Ev.bt_leq (by have z:=s.z; first | (simp; done) | (simp; omega))) (fc (fun _ _ _=>bt_shr32 s.hu) (fc (fun _ _ _=>Ev.bt_add (wrap32 _)) (fc (fun _ _ _=>bt_shl32 (by omega)) (fc (fun _ _ _=>bt_or (bits_or _ _ (by omega) (tlW_bd _))) fn))))))) fn (fc (Ev.ct_in rfl rfl (by have z:=hdW_bd s.hu; rw [wrap32]; omega)) (fc (Ev.ct_in rfl rfl (by rw [wrap32]; omega)) (fc (Ev.ct_in rfl rfl (wrapU (by omega) (by omega))) (fc (Ev.ct_in rfl rfl (wrap32 _)) (fc (Ev.ct_in rfl rfl (wrapU (tlW_bd _).1 (by have z:=tlW_bd (ld s.m (s.c.word s.p)); omega))) fn))))) s.W0 s.F0 [[(kp3a11 lv xs),memA s.bm s.m],[memA s.bm s.m.tick,(kp3a11 lv xs)],[memA s.bm (thM s.c s.p s.m (min most (xs.length - xs.length / 2))),(kp3a11 lv xs)]] [⟨[10,36],[sy 0],none,0,none,sy 6,none⟩,⟨[16,3,3],[sy 9,sy 8],none,0,none,sy 10,none⟩,⟨[4,36,0,1,0],[sy 0,sy 10],none,2,none,sy 1,none⟩] [⟨26,[.agg #[sy 19,sy 20,sy 21,sy 22,sy 23,sy 24],sy 18],0,none,sy 25,none⟩,⟨12,[sy 17,sy 25],0,none,sy 2,some 1⟩,⟨25,[sy 17,sy 25,sy 16],1,none,.tuple #[],some 2⟩]) (fc (by obtain ⟨i,i1,i2,i3,i4⟩:=infInt; exact Ev.sl_len (ci:=1) rfl rfl Try.underlying36 i2 rfl rfl) (fc (Ev.row_min (kd:=.i64) (a:=(most:Int)) (b:=((xs.length - xs.length / 2:Nat) : Int)) (Ev.isSym rfl) (Ev.isSym rfl) (by show Value.int .i64 _=Value.int .i64 _; congr 1; omega)) (fc (by obtain ⟨i,i1,i2,i3,i4⟩:=infInt; have z:=s.z; exact Ev.sl_hi (ci:=2) (hi:=(min most (xs.length - xs.length / 2))) rfl rfl Try.underlying36 i1 i2 rfl rfl (by omega) rfl) fn))) (fc (pc rfl (fun w hb=>word_ok s.c s.p s.hp w)) (fc (cc rfl [memA s.bm s.m.tick] [1] [0] (fun w F ho hn hF=>mem_loadH hn s.hw (by have z:=s.z; omega))) (fc (cc rfl [memA s.bm (thM s.c s.p s.m (min most (xs.length - xs.length / 2)))] [0] [1] (fun w F ho hn hF=>mem_storeH hn (s.hm.tick.lt_word s.hp) (by have z:=s.z; omega) _)) fn))) rfl [(4,b4)] [(4,[sy 19,sy 20,sy 21,sy 22,sy 23,sy 24],23)] [(4,[sy 19,sy 20,sy 21,sy 22,sy 23,sy 24],23)] 2 rfl rfl [(1,sy 17),(2,sy 18),(3,sy 9),(4,.pointer (some ⟨4,0,none⟩)),(9,sy 0)] (sy 1))
end Go.Proofs.Ytbcnbofkgkheeaa
namespace Go.Proofs.Ytbcnbofkgkheeaa
open Go.RowKit
open Go.Ev (sy)
set_option linter.unusedVariables false
set_option linter.unusedSimpArgs false
set_option maxRecDepth 8000
attribute [local irreducible] Ev.wpL
def thN (c:Cfg) (p:Nat) (m:MemM) (most:Nat) : Nat:=min most ((ring c p m).length - (ring c p m).length / 2)
def thS (c:Cfg) (p:Nat) (m:MemM) (n:Nat) : MemM:=if n=0 then m else thM c p m n
theorem thN_le (c:Cfg) (p:Nat) (m:MemM) (most:Nat) : ((thN c p m most:Nat) : Int)≤szW (ld m (c.word p)):=by
 have h:=sz_bd (ld m (c.word p))
 unfold thN
 rw [ring_len]
 omega
theorem docs_thief (c:Cfg) {p:Nat} (hp:p < c.n) {m:MemM} (hm:MemOk c m) (hsz:szW (ld m (c.word p))≤(c.q:Int)) {bm:Nat} (most:Nat) (hmo:most≤255) {w:World} {F:Nat→Prop} (h:Ev.Now [memA bm m] F w) :
  Calls Try.prog 15 #[c.v,.pointer (some ⟨bm,0,none⟩),.int .i64 (p:Int),.int .i64 (most:Int)] w fun e w'=>∃ v cd,Ev.dec cd=v∧e=.returned v∧Ev.Hold ⟨w,F⟩ [isA v ((ring c p m).take (thN c p m most)),memA bm (thS c p m (thN c p m most))] w':=by
 let s:KR:=⟨w,F,c,p,hp,bm,m,hm,hsz⟩
 refine Ev.con_start (N:=51) (tm:=[(0,c.v),(1,.pointer (some ⟨bm,0,none⟩)),(2,.int .i64 (p:Int)),(3,.int .i64 (most:Int))]) (by kernel_rfl) h (by simp) (by simp) (fun A hA=>?_)
 refine ktA s most A w _ hA ?_
 intro κ A1 w1 h1
 dsimp only at h1
 have hcd:∃ cd,Ev.dec cd=Ev.dv κ 407:=⟨_,rfl⟩
 have llv:Ev.leafV (Ev.dv κ 407)=true:=Ev.dec_leaf _
 generalize (κ 400).getD 0=b4 at h1
 generalize Ev.dv κ 407=lv at h1 hcd llv
 have hx:=ring_le hsz
 by_cases h0:thN c p m most=0
 ·refine ktN s b4 most lv llv (ring c p m) hx h0 A1 w1 _ h1 ?_
  intro κ2 w2 h2
  refine ⟨_,_,Ev.dec_slice0,rfl,?_⟩
  rw [h0]
  exact ((h2.sel [2] (by kernel_rfl)).nilSl (e := 3) (sz:=1))
 ·refine ktY s b4 most lv llv (ring c p m) hx (by have:thN c p m most ≠ 0:=h0; unfold thN at this; omega) A1 w1 _ h1 ?_
  intro κ2 w2 h2
  dsimp only at h2
  have hle:thN c p m most≤(ring c p m).length:=by unfold thN; omega
  have h3:=Ev.Hold.cut0 (hi:=thN c p m most) (h2.sel [2,1] (by kernel_rfl)) hle
  obtain ⟨cd,ecd⟩:=hold_code h3
  refine ⟨_,cd,ecd,rfl,?_⟩
  have e1:((ring c p m).take (thN c p m most)).length=thN c p m most:=by rw [List.length_take]; omega
  have e2:ints ((ring c p m).take (thN c p m most))=(ints (ring c p m)).take (thN c p m most * 1):=by rw [Nat.mul_one]; simp [ints,List.map_take]
  unfold isA thS
  rw [if_neg h0,e1,e2]
  exact h3
end Go.Proofs.Ytbcnbofkgkheeaa
