/- Part of a proof: see the last text. -/
import Derived.Test.YtbcnbofkgkheeaaZk15
import Derived.WalkKit
import Derived.WalkSpells
import Derived.Test.YtbcnbofkgkheeaaRows
import Derived.ProofKit
import Derived.OpenShut
import Derived.Carry
import Derived.Deep.Fields
import Derived.Deep.Slices
import Derived.ChangeSame
import Derived.Lib.Walk
import Derived.Lib.SliceRun
import Derived.Deep.LoopGhost
import Derived.Laws.AppendOwn
namespace Go.Proofs.Ytbcnbofkgkheeaa
open Go.RowKit
open Go.Ev (sy)
set_option linter.unusedVariables false
set_option linter.unusedSimpArgs false
def hdW (x:Int) : Int:=x / 4294967296
def tlW (x:Int) : Int:=x % 4294967296
def szW (x:Int) : Int:=(tlW x - hdW x) % 4294967296
def packW (h t:Int) : Int:=h * 4294967296+t
def mvW (x d:Int) : Int:=packW (hdW x) ((tlW x+d) % 4294967296)
def U64 (x:Int) : Prop:=0≤x∧x < 18446744073709551616
theorem hdW_bd {x:Int} (h:U64 x) : 0≤hdW x∧hdW x < 4294967296:=by obtain ⟨h1,h2⟩:=h; unfold hdW; omega
theorem tlW_bd (x:Int) : 0≤tlW x∧tlW x < 4294967296:=by unfold tlW; omega
theorem wrap32 (n:Int) : IntKind.u32.wrap n=n % 4294967296:=by simp [IntKind.wrap,IntKind.bits,IntKind.signed]
theorem wTail (x:Int) (h:U64 x) (w:World) : Calls Try.prog 113 #[.int .u64 x] w fun e w'=>e=.returned (.int .u32 (tlW x))∧w=w':=by
 go_enter Try.func113,Try.ntmps113
 go_wp2
 go_ret
 exact ⟨by simp [tlW,wrap32],rfl⟩
theorem wHead (x:Int) (h:U64 x) (w:World) : Calls Try.prog 116 #[.int .u64 x] w fun e w'=>e=.returned (.int .u32 (hdW x))∧w=w':=by
 obtain ⟨h1,h2⟩:=h
 go_enter Try.func116,Try.ntmps116
 go_wp2
 go_ret
 exact ⟨by simp [hdW,wrap32],rfl⟩
theorem bits_or (a b:Int) (ha:0≤a∧a < 4294967296) (hb:0≤b∧b < 4294967296) : bits .or .u64 (a * 4294967296) b=a * 4294967296+b:=by
 obtain ⟨a,rfl⟩:=Int.eq_ofNat_of_zero_le ha.1
 obtain ⟨b,rfl⟩:=Int.eq_ofNat_of_zero_le hb.1
 have h1:a < 4294967296:=by omega
 have h2:b < 4294967296:=by omega
 have e1:((a:Int) * 4294967296 % 18446744073709551616).toNat=2 ^ 32 * a:=by omega
 have e2:((b:Int) % 18446744073709551616).toNat=b:=by omega
 have e3:(2 ^ 32 * a ||| b)=2 ^ 32 * a+b:=(Nat.two_pow_add_eq_or_of_lt (i:=32) (by omega) a).symm
 have e4:(BitVec.ofInt 64 ((a:Int) * 4294967296) ||| BitVec.ofInt 64 (b:Int)).toNat=2 ^ 32 * a+b:=by
  simp only [BitVec.toNat_or,BitVec.toNat_ofInt]
  rw [show ((2 ^ 64:Nat) : Int)=18446744073709551616 by rfl,e1,e2,e3]
 show IntKind.u64.wrap ((BitVec.ofInt 64 ((a:Int) * 4294967296) ||| BitVec.ofInt 64 (b:Int)).toNat:Int)=_
 rw [e4]
 simp [IntKind.wrap,IntKind.bits,IntKind.signed]
 omega
theorem wPack (a b:Int) (ha:0≤a∧a < 4294967296) (hb:0≤b∧b < 4294967296) (w:World) : Calls Try.prog 115 #[.int .u32 a,.int .u32 b] w fun e w'=>e=.returned (.int .u64 (packW a b))∧w=w':=by
 go_enter Try.func115,Try.ntmps115
 go_wp2
 go_ret
 exact ⟨by simp [packW,bits_or a b ha hb],rfl⟩
theorem wLen (x:Int) (h:U64 x) (w:World) : Calls Try.prog 112 #[.int .u64 x] w fun e w'=>e=.returned (.int .u32 (szW x))∧w=w':=by
 go_enter Try.func112,Try.ntmps112
 go_wp2_with (first | (go_at_call 113; refine (wTail x h _).mono ?_; rintro e w' ⟨rfl,rfl⟩) | (go_at_call 116; refine (wHead x h _).mono ?_; rintro e w' ⟨rfl,rfl⟩))
 go_ret
 exact ⟨by simp [szW,wrap32],rfl⟩
theorem wGrow (x n:Int) (h:U64 x) (w:World) : Calls Try.prog 109 #[.int .u64 x,.int .u32 n] w fun e w'=>e=.returned (.int .u64 (mvW x n))∧w=w':=by
 go_enter Try.func109,Try.ntmps109
 go_wp2_with (first | (go_at_call 113; refine (wTail x h _).mono ?_; rintro e w' ⟨rfl,rfl⟩) | (go_at_call 116; refine (wHead x h _).mono ?_; rintro e w' ⟨rfl,rfl⟩) | (go_at_call 115; refine (wPack (hdW x) ((tlW x+n) % 4294967296) (hdW_bd h) (by omega) _).mono ?_; rintro e w' ⟨rfl,rfl⟩))
 go_ret
 exact ⟨rfl,rfl⟩
theorem wDrop (x n:Int) (h:U64 x) (w:World) : Calls Try.prog 111 #[.int .u64 x,.int .u32 n] w fun e w'=>e=.returned (.int .u64 (mvW x (-n)))∧w=w':=by
 go_enter Try.func111,Try.ntmps111
 go_wp2_with (first | (go_at_call 113; refine (wTail x h _).mono ?_; rintro e w' ⟨rfl,rfl⟩) | (go_at_call 116; refine (wHead x h _).mono ?_; rintro e w' ⟨rfl,rfl⟩) | (go_at_call 115; refine (wPack (hdW x) ((tlW x - n) % 4294967296) (hdW_bd h) (by omega) _).mono ?_; rintro e w' ⟨rfl,rfl⟩))
 go_ret
 exact ⟨rfl,rfl⟩
end Go.Proofs.Ytbcnbofkgkheeaa
namespace Go.Proofs.Ytbcnbofkgkheeaa
open Go.RowKit
open Go.Ev (sy)
set_option linter.unusedVariables false
set_option linter.unusedSimpArgs false
structure Cf where
 n:Int
 q:Int
 g:Int
 m:Int
 t:Int
 s:Int
abbrev Cf.v (c:Cf) : Value:=.agg #[.int .i64 c.n,.int .i64 c.q,.int .i64 c.g,.int .i64 c.m,.int .i64 c.t,.int .i64 c.s]
def Cf.ok (c:Cf) : Bool:=rightB c.n c.q c.g c.m c.t c.s
structure Cfg where
 n:Nat
 q:Nat
 g:Int
 m:Int
 t:Int
 s:Int
 h:rightB n q g m t s=true
abbrev Cfg.v (c:Cfg) : Value:=.agg #[.int .i64 (c.n:Int),.int .i64 (c.q:Int),.int .i64 c.g,.int .i64 c.m,.int .i64 c.t,.int .i64 c.s]
theorem right_parts {n q g m t s:Int} (h:rightB n q g m t s=true) : (1≤n∧n≤8)∧(q=2∨q=4∨q=8∨q=16∨q=32∨q=64)∧(1≤g∧g≤256)∧(n+1≤m∧m≤16)∧(2≤t∧t≤200)∧(0≤s∧s≤1000):=by
 simp [rightB,wi] at h
 omega
theorem Cfg.nb (c:Cfg) : 1≤c.n∧c.n≤8:=by have:=(right_parts c.h).1; omega
theorem Cfg.qb (c:Cfg) : 2≤c.q∧c.q≤64:=by have:=(right_parts c.h).2.1; omega
def Cfg.off (c:Cfg) (p:Nat) : Nat:=p * (6+c.q)
theorem Cfg.off_le (c:Cfg) {p:Nat} (h:p < c.n) : c.off p+(6+c.q)≤c.off c.n:=by
 unfold Cfg.off
 have:=Nat.mul_le_mul_right (6+c.q) (show p+1≤c.n from h)
 rw [Nat.succ_mul] at this
 exact this
theorem Cfg.off_max (c:Cfg) : c.off c.n≤560:=by
 unfold Cfg.off
 have h1:=c.nb.2
 have h2:=c.qb.2
 exact Nat.le_trans (Nat.mul_le_mul h1 (show 6+c.q≤70 by omega)) (by decide)
def Cfg.word (c:Cfg) (p:Nat) : Nat:=4+c.off p
def Cfg.slotI (c:Cfg) (i:Int) : Nat:=(i % (c.q:Int)).toNat
theorem Cfg.slotI_lt (c:Cfg) (i:Int) : c.slotI i < c.q:=by
 have:=c.qb.1
 have h1:=Int.emod_lt_of_pos i (show (0:Int) < (c.q:Int) by omega)
 unfold Cfg.slotI
 have h2:=Int.emod_nonneg i (show (c.q:Int) ≠ 0 by omega)
 omega
def Cfg.slot (c:Cfg) (p:Nat) (i:Int) : Nat:=4+c.off p+(6+c.slotI i)
def Cfg.cells (c:Cfg) : Nat:=4+c.off c.n
theorem Cfg.z0 (c:Cfg) : (1≤c.n∧c.n≤8)∧(2≤c.q∧c.q≤64)∧c.off c.n≤560:=⟨c.nb,c.qb,c.off_max⟩
theorem Cfg.z (c:Cfg) {p:Nat} (hp:p < c.n) : (1≤c.n∧c.n≤8)∧(2≤c.q∧c.q≤64)∧c.off c.n≤560∧c.off p+(6+c.q)≤c.off c.n∧c.word p=4+c.off p:=⟨c.nb,c.qb,c.off_max,c.off_le hp,rfl⟩
theorem off_mul (c:Cfg) {p:Nat} (h:p < c.n) : IntKind.i64.wrap ((p:Int) * ((6+c.q:Nat) : Int))=((c.off p:Nat) : Int):=by
 have h1:=c.off_le h
 have h2:=c.off_max
 have e:(p:Int) * ((6+c.q:Nat) : Int)=((c.off p:Nat) : Int):=by unfold Cfg.off; omega
 rw [e,wrap_ok (by omega) (by omega)]
theorem off_all (c:Cfg) : IntKind.i64.wrap ((c.n:Int) * ((6+c.q:Nat) : Int))=((c.off c.n:Nat) : Int):=by
 have h2:=c.off_max
 have e:(c.n:Int) * ((6+c.q:Nat) : Int)=((c.off c.n:Nat) : Int):=by unfold Cfg.off; omega
 rw [e,wrap_ok (by omega) (by omega)]
theorem slot_rem (c:Cfg) {i:Int} (h:0≤i) : i.tmod (c.q:Int)=((c.slotI i:Nat) : Int):=by
 have h2:=Int.emod_nonneg i (show (c.q:Int) ≠ 0 by have:=c.qb; omega)
 rw [Int.tmod_eq_emod_of_nonneg h]
 unfold Cfg.slotI
 omega
theorem Cfg.right (c:Cfg) (w:World) : Calls Try.prog 32 #[c.v] w fun e w'=>e=.returned (.bool true)∧Below w.heap.size w w':=by
 have:=right_any (c.n:Int) c.q c.g c.m c.t c.s w
 rw [c.h] at this
 exact this
theorem Cf.wrong {c:Cf} (h:c.ok=false) (w:World) : Calls Try.prog 32 #[c.v] w fun e w'=>e=.returned (.bool false)∧Below w.heap.size w w':=by
 have:=right_any c.n c.q c.g c.m c.t c.s w
 unfold Cf.ok at h
 rw [h] at this
 exact this
end Go.Proofs.Ytbcnbofkgkheeaa
namespace Go.Proofs.Ytbcnbofkgkheeaa
open Go.RowKit
open Go.Ev (sy iz uz wz iN uN wN pz dv fc fn ak vk vd kn pc cc cr cm cd fr)
set_option linter.unusedVariables false
set_option linter.unusedSimpArgs false
set_option maxRecDepth 8000
attribute [local irreducible] Ev.wpL
abbrev cf1a0:List (Nat×Value):=[(0,.agg #[sy 0,sy 1,sy 2,sy 3,sy 4,sy 5,sy 6]),(1,sy 7)]
theorem caY (W:World) (c:Cfg) (p i:Nat) (hp:p < c.n) (hi:i≤70) : Ev.PieE Try.prog 41 [] 0 29 ⟨W,fun _=>False⟩ [(0,(.agg #[(iN (c.n)),(iN (c.q)),(iz (c.g)),(iz (c.m)),(iz (c.t)),(iz (c.s)),(iN (p))])),(1,(iN (i)))] [] (fun κ:Ev.Ren=>(iN ((4+(c.off p))+(i)))) (fun κ:Ev.Ren=>[]):=(trE (c:=⟨W,fun _=>False⟩) 6 (kn [iN (c.n),iN (c.q),iz (c.g),iz (c.m),iz (c.t),iz (c.s),iN (p),iN (i),iN (6+(c.q)),iN (c.off p),iz (((c.n:Nat) : Int) - 1),iN (4+(c.off p)),iN ((4+(c.off p))+(i))] fr [(.sub,sy 0,.int .i64 1,sy 10),(.geq,sy 6,.int .i64 0,.bool true),(.leq,sy 6,sy 10,.bool true),(.add,.int .i64 6,sy 1,sy 8),(.mul,sy 6,sy 8,sy 9),(.add,.int .i64 4,sy 9,sy 11),(.add,sy 11,sy 7,sy 12)] [] [] (fc (fun _ _ _=>Ev.bt_sub (by have z:=c.z0; have q4:=c.off_le hp; exact wrap_ok (by omega) (by omega))) (fc (fun _ _ _=>Ev.bt_geq (by have z:=c.z0; have q4:=c.off_le hp; first | (simp; done) | (simp; omega))) (fc (fun _ _ _=>Ev.bt_leq (by have z:=c.z0; have q4:=c.off_le hp; first | (simp; done) | (simp; omega))) (fc (fun _ _ _=>Ev.bt_add (by have z:=c.z0; have q4:=c.off_le hp; rw [wrap_ok (by omega) (by omega)]; omega)) (fc (fun _ _ _=>Ev.bt_mul (off_mul c hp)) (fc (fun _ _ _=>Ev.bt_add (by have z:=c.z0; have q4:=c.off_le hp; rw [wrap_ok (by omega) (by omega)]; omega)) (fc (fun _ _ _=>Ev.bt_add (by have z:=c.z0; have q4:=c.off_le hp; rw [wrap_ok (by omega) (by omega)]; omega)) fn))))))) fn fn W (fun _=>False) [[]] [] [⟨32,[.agg #[sy 0,sy 1,sy 2,sy 3,sy 4,sy 5]],0,none,.bool true,none⟩]) fn (fc (pc rfl (fun w hb=>c.right w)) fn) rfl [] [] [] 0 rfl rfl cf1a0 (sy 12))
end Go.Proofs.Ytbcnbofkgkheeaa
namespace Go.Proofs.Ytbcnbofkgkheeaa
open Go.RowKit
open Go.Ev (sy iz uz wz iN uN wN pz dv fc fn ak vk vd kn pc cc cr cm cd fr)
set_option linter.unusedVariables false
set_option linter.unusedSimpArgs false
set_option maxRecDepth 8000
attribute [local irreducible] Ev.wpL
theorem start0 {W:World} {N:Nat} {f:FuncId} {args:Array Value} {tm:List (Nat×Value)} {r:Value} (hN:Ev.withB Try.prog (fun B=>Ev.segB B f [] (fun fn _=>Nat.beq fn.ntmps N))=true) (ha:args.size≤N) (ht:∀ p ∈ tm,args[p.1]? = some p.2) (h:Ev.PieE Try.prog f [] 0 N ⟨W,fun _=>False⟩ tm [] (fun κ:Ev.Ren=>r) (fun κ:Ev.Ren=>[])) : Calls Try.prog f args W fun e w'=>e=.returned r∧Below W.heap.size W w' :=
 Ev.con_start hN (Ev.now_nil W) ha ht (fun A hA=>h A W _ hA (fun κ w1 h1=>⟨rfl,h1.below (fun _ h=>h)⟩))
theorem at_ok (c:Cfg) (p i:Nat) (hp:p < c.n) (hi:i≤70) (w:World) : Calls Try.prog 41 #[.agg #[.int .i64 (c.n:Int),.int .i64 (c.q:Int),.int .i64 c.g,.int .i64 c.m,.int .i64 c.t,.int .i64 c.s,.int .i64 (p:Int)],.int .i64 (i:Int)] w fun e w'=>e=.returned (.int .i64 ((4+c.off p+i:Nat) : Int))∧Below w.heap.size w w' :=
 start0 (by kernel_rfl) (by simp) (by simp) (caY w c p i hp hi)
abbrev cf2a1 (c:Cfg) (p:Nat) : Value:=(.agg #[(iN (c.n)),(iN (c.q)),(iz (c.g)),(iz (c.m)),(iz (c.t)),(iz (c.s)),(iN (p))])
abbrev cf2a7:List (Nat×Value):=[(0,.agg #[sy 0,sy 1,sy 2,sy 3,sy 4,sy 5]),(1,sy 6)]
abbrev cf2a8 (c:Cfg) : Value:=(.agg #[(iN (c.n)),(iN (c.q)),(iz (c.g)),(iz (c.m)),(iz (c.t)),(iz (c.s))])
abbrev cf2a9 (c:Cfg) (p:Nat) : List (Nat×Value):=[(0,(cf2a8 c)),(1,(iN (p)))]
abbrev cf2a14 (c:Cfg) (p:Nat) (i:Int) : List (Nat×Value):=[(0,(cf2a8 c)),(1,(iN (p))),(2,(wz (i)))]
theorem cWordY (W:World) (c:Cfg) (p:Nat) (hp:p < c.n) : Ev.PieE Try.prog 26 [] 0 9 ⟨W,fun _=>False⟩ (cf2a9 c p) [] (fun κ:Ev.Ren=>(iN (4+c.off p+0))) (fun κ:Ev.Ren=>[]):=(trE (c:=⟨W,fun _=>False⟩) 4 (kn [iN (c.n),iN (c.q),iz (c.g),iz (c.m),iz (c.t),iz (c.s),iN (p),iN (4+c.off p+0)] fr [] [] [] fn fn fn W (fun _=>False) [[]] [] [⟨41,[.agg #[sy 0,sy 1,sy 2,sy 3,sy 4,sy 5,sy 6],.int .i64 0],0,none,sy 7,none⟩]) fn (fc (pc (args:=[(cf2a1 c p),(.int .i64 0)]) rfl (fun w hb=>at_ok c p (0) hp (by have z:=c.z0; have q4:=c.off_le hp; omega) w)) fn) rfl [] [] [] 0 rfl rfl cf2a7 (sy 7))
theorem cNextY (W:World) (c:Cfg) (p:Nat) (hp:p < c.n) : Ev.PieE Try.prog 13 [] 0 9 ⟨W,fun _=>False⟩ (cf2a9 c p) [] (fun κ:Ev.Ren=>(iN (4+c.off p+1))) (fun κ:Ev.Ren=>[]):=(trE (c:=⟨W,fun _=>False⟩) 4 (kn [iN (c.n),iN (c.q),iz (c.g),iz (c.m),iz (c.t),iz (c.s),iN (p),iN (4+c.off p+1)] fr [] [] [] fn fn fn W (fun _=>False) [[]] [] [⟨41,[.agg #[sy 0,sy 1,sy 2,sy 3,sy 4,sy 5,sy 6],.int .i64 1],0,none,sy 7,none⟩]) fn (fc (pc (args:=[(cf2a1 c p),(.int .i64 1)]) rfl (fun w hb=>at_ok c p (1) hp (by have z:=c.z0; have q4:=c.off_le hp; omega) w)) fn) rfl [] [] [] 0 rfl rfl cf2a7 (sy 7))
theorem cSlotY (W:World) (c:Cfg) (p:Nat) (hp:p < c.n) (i:Int) (hi:0≤i) : Ev.PieE Try.prog 27 [] 0 21 ⟨W,fun _=>False⟩ (cf2a14 c p i) [] (fun κ:Ev.Ren=>(iN (4+c.off p+(6+c.slotI i)))) (fun κ:Ev.Ren=>[]):=(trE (c:=⟨W,fun _=>False⟩) 6 (kn [iN (c.n),iN (c.q),iz (c.g),iz (c.m),iz (c.t),iz (c.s),wz (i),iN (p),wN (c.slotI i),wN (c.q),iN (c.slotI i),iN (6+(c.slotI i)),iN (4+c.off p+(6+c.slotI i))] fr [(.rem,sy 6,sy 9,sy 8),(.add,.int .i64 6,sy 10,sy 11)] [] [(.u32,sy 1,sy 9),(.i64,sy 8,sy 10)] (fc (fun _ _ _=>Ev.bt_rem (by have q2:=c.qb; omega) (slot_rem c hi)) (fc (fun _ _ _=>Ev.bt_add (by have z:=c.z0; have q4:=c.off_le hp; have q9:=c.slotI_lt i; rw [wrap_ok (by omega) (by omega)]; omega)) fn)) fn (fc (Ev.ct_in rfl rfl (by have q2:=c.qb; rw [wrap32]; omega)) (fc (Ev.ct_in rfl rfl (by have q2:=c.qb; have q9:=c.slotI_lt i; exact wrap_ok (by omega) (by omega))) fn)) W (fun _=>False) [[]] [] [⟨32,[.agg #[sy 0,sy 1,sy 2,sy 3,sy 4,sy 5]],0,none,.bool true,none⟩,⟨41,[.agg #[sy 0,sy 1,sy 2,sy 3,sy 4,sy 5,sy 7],sy 11],0,none,sy 12,none⟩]) fn (fc (pc rfl (fun w hb=>c.right w)) (fc (pc (args:=[(cf2a1 c p),(iN (6+(c.slotI i)))]) rfl (fun w hb=>at_ok c p (6+c.slotI i) hp (by have z:=c.z0; have q4:=c.off_le hp; have q9:=c.slotI_lt i; omega) w)) fn)) rfl [] [] [] 0 rfl rfl [(0,.agg #[sy 0,sy 1,sy 2,sy 3,sy 4,sy 5]),(1,sy 7),(2,sy 6)] (sy 12))
theorem cCellsY (W:World) (c:Cfg) : Ev.PieE Try.prog 24 [] 0 13 ⟨W,fun _=>False⟩ [(0,(cf2a8 c))] [] (fun κ:Ev.Ren=>(iN (4+(c.off c.n)))) (fun κ:Ev.Ren=>[]):=(trE (c:=⟨W,fun _=>False⟩) 6 (kn [iN (c.n),iN (6+(c.q)),iN (c.q),iz (c.g),iz (c.m),iz (c.t),iz (c.s),iN (c.off c.n),iN (4+(c.off c.n))] fr [(.add,.int .i64 6,sy 2,sy 1),(.mul,sy 0,sy 1,sy 7),(.add,.int .i64 4,sy 7,sy 8)] [] [] (fc (fun _ _ _=>Ev.bt_add (by have z:=c.z0; rw [wrap_ok (by omega) (by omega)]; omega)) (fc (fun _ _ _=>Ev.bt_mul (off_all c)) (fc (fun _ _ _=>Ev.bt_add (by have z:=c.z0; rw [wrap_ok (by omega) (by omega)]; omega)) fn))) fn fn W (fun _=>False) [[]] [] [⟨32,[.agg #[sy 0,sy 2,sy 3,sy 4,sy 5,sy 6]],0,none,.bool true,none⟩]) fn (fc (pc rfl (fun w hb=>c.right w)) fn) rfl [] [] [] 0 rfl rfl [(0,.agg #[sy 0,sy 2,sy 3,sy 4,sy 5,sy 6])] (sy 8))
end Go.Proofs.Ytbcnbofkgkheeaa
namespace Go.Proofs.Ytbcnbofkgkheeaa
open Go.RowKit
open Go.Ev (sy)
set_option linter.unusedVariables false
set_option linter.unusedSimpArgs false
set_option maxRecDepth 8000
theorem word_ok (c:Cfg) (p:Nat) (hp:p < c.n) (w:World) : Calls Try.prog 26 #[c.v,.int .i64 (p:Int)] w fun e w'=>e=.returned (.int .i64 ((c.word p:Nat) : Int))∧Below w.heap.size w w' :=
 start0 (r:=.int .i64 ((c.word p:Nat) : Int)) (by kernel_rfl) (by simp) (by simp) (cWordY w c p hp)
theorem next_ok (c:Cfg) (p:Nat) (hp:p < c.n) (w:World) : Calls Try.prog 13 #[c.v,.int .i64 (p:Int)] w fun e w'=>e=.returned (.int .i64 ((c.word p+1:Nat) : Int))∧Below w.heap.size w w' :=
 start0 (r:=.int .i64 ((c.word p+1:Nat) : Int)) (by kernel_rfl) (by simp) (by simp) (cNextY w c p hp)
theorem slot_ok (c:Cfg) (p:Nat) (hp:p < c.n) (i:Int) (hi:0≤i) (w:World) : Calls Try.prog 27 #[c.v,.int .i64 (p:Int),.int .u32 i] w fun e w'=>e=.returned (.int .i64 ((c.slot p i:Nat) : Int))∧Below w.heap.size w w' :=
 start0 (r:=.int .i64 ((c.slot p i:Nat) : Int)) (by kernel_rfl) (by simp) (by simp) (cSlotY w c p hp i hi)
theorem cells_ok (c:Cfg) (w:World) : Calls Try.prog 24 #[c.v] w fun e w'=>e=.returned (.int .i64 ((c.cells:Nat) : Int))∧Below w.heap.size w w' :=
 start0 (r:=.int .i64 ((c.cells:Nat) : Int)) (by kernel_rfl) (by simp) (by simp) (cCellsY w c)
end Go.Proofs.Ytbcnbofkgkheeaa
namespace Go.Proofs.Ytbcnbofkgkheeaa
open Go.RowKit
set_option linter.unusedVariables false
def pick (n m:Int) : Int:=((n.tmod m)+m).tmod m
theorem tmod_gt (n m:Int) (h:0 < m) : -m < n.tmod m:=by
 rcases Int.le_total 0 n with h0 | h0
 ·have:=Int.tmod_nonneg m h0
  omega
 ·have e:n.tmod m = -((-n).tmod m):=by rw [Int.neg_tmod,Int.neg_neg]
  have:=Int.tmod_lt_of_pos (-n) h
  omega
theorem pick_bd (n m:Int) (h:0 < m) : 0≤pick n m∧pick n m < m:=by
 unfold pick
 have h1:=Int.tmod_lt_of_pos (n.tmod m+m) h
 have h2:-m < n.tmod m:=tmod_gt n m h
 exact ⟨Int.tmod_nonneg _ (by omega),h1⟩
set_option maxHeartbeats 400000 in
theorem pick_any (n m:Int) (h:0 < m) (hm:m≤1000000) (w:World) :
  Calls Try.prog 8 #[.int .i64 n,.int .i64 m] w fun e w'=>e=.returned (.int .i64 (pick n m))∧Below w.heap.size w w':=by
 have hne:m ≠ 0:=by omega
 have h1:-m < n.tmod m:=tmod_gt n m h
 have h2:n.tmod m < m:=Int.tmod_lt_of_pos n h
 have hw:IntKind.i64.wrap (n.tmod m+m)=n.tmod m+m:=IntWalk.i64_in _ (by omega)
 go_enter Try.func8,Try.ntmps8
 go_wp2
 go_ret
 refine ⟨?_,Below.refl _ _⟩
 simp_all [pick]
 rw [Int.tmod_eq_emod_of_nonneg (a:=n.tmod m+m) (by omega),Int.add_emod_right]
end Go.Proofs.Ytbcnbofkgkheeaa
namespace Go.Proofs.Ytbcnbofkgkheeaa
open Go.RowKit
open Go.Ev (sy iz uz wz iN uN wN pz dv fc fn ak vk vd kn pc cc cr cm cd fr)
set_option linter.unusedVariables false
set_option linter.unusedSimpArgs false
set_option maxRecDepth 8000
attribute [local irreducible] Ev.wpL
def u8s (xs:List Int) : List Value:=xs.map (Value.int .u8)
theorem u8s_at (xs:List Int) {i:Nat} (h:i < xs.length) : (u8s xs)[i]? = some (.int .u8 (xs.getD i 0)):=by
 simp [u8s,List.getElem?_map,List.getElem?_eq_getElem h,List.getD_eq_getElem?_getD]
theorem infU8:∃ i,Try.prog.info? 5 = some i∧i.size=1∧i.zero=some (.int .u8 0)∧i.bytes=1:=info_z (by kernel_rfl)
theorem loadU8:Ev.LoadOne Try.prog 5:=by
 intro b o x w h
 simp [Instr.loadAt,Instr.sureAddr,loadVar,isAgg,run_underlying Try.underlying5,h]
def Cfg.l (c:Cfg) : List Value:=[.int .i64 (c.n:Int),.int .i64 (c.q:Int),.int .i64 c.g,.int .i64 c.m,.int .i64 c.t,.int .i64 c.s]
abbrev cf4a0 (c:Cfg) (p:Nat) : Value:=(.agg #[(iN (c.n)),(iN (c.q)),(iz (c.g)),(iz (c.m)),(iz (c.t)),(iz (c.s)),(iN (p))])
abbrev cf4a1:List (Nat×Value):=[(0,.agg #[sy 0,sy 1,sy 2,sy 3,sy 4,sy 5]),(1,sy 6)]
abbrev cf4a2 (c:Cfg) : Value:=(.agg #[(iN (c.n)),(iN (c.q)),(iz (c.g)),(iz (c.m)),(iz (c.t)),(iz (c.s))])
abbrev cf4a3 (c:Cfg) (p:Nat) : List (Nat×Value):=[(0,(cf4a2 c)),(1,(iN (p)))]
theorem cStatY (W:World) (c:Cfg) (p:Nat) (hp:p < c.n) : Ev.PieE Try.prog 34 [] 0 9 ⟨W,fun _=>False⟩ (cf4a3 c p) [] (fun κ:Ev.Ren=>(iN (4+c.off p+2))) (fun κ:Ev.Ren=>[]):=(trE (c:=⟨W,fun _=>False⟩) 4 (kn [iN (c.n),iN (c.q),iz (c.g),iz (c.m),iz (c.t),iz (c.s),iN (p),iN (4+c.off p+2)] fr [] [] [] fn fn fn W (fun _=>False) [[]] [] [⟨41,[.agg #[sy 0,sy 1,sy 2,sy 3,sy 4,sy 5,sy 6],.int .i64 2],0,none,sy 7,none⟩]) fn (fc (pc (args:=[(cf4a0 c p),(.int .i64 2)]) rfl (fun w hb=>at_ok c p (2) hp (by have q0:=c.z hp; omega) w)) fn) rfl [] [] [] 0 rfl rfl cf4a1 (sy 7))
theorem cTickY (W:World) (c:Cfg) (p:Nat) (hp:p < c.n) : Ev.PieE Try.prog 35 [] 0 9 ⟨W,fun _=>False⟩ (cf4a3 c p) [] (fun κ:Ev.Ren=>(iN (4+c.off p+3))) (fun κ:Ev.Ren=>[]):=(trE (c:=⟨W,fun _=>False⟩) 4 (kn [iN (c.n),iN (c.q),iz (c.g),iz (c.m),iz (c.t),iz (c.s),iN (p),iN (4+c.off p+3)] fr [] [] [] fn fn fn W (fun _=>False) [[]] [] [⟨41,[.agg #[sy 0,sy 1,sy 2,sy 3,sy 4,sy 5,sy 6],.int .i64 3],0,none,sy 7,none⟩]) fn (fc (pc (args:=[(cf4a0 c p),(.int .i64 3)]) rfl (fun w hb=>at_ok c p (3) hp (by have q0:=c.z hp; omega) w)) fn) rfl [] [] [] 0 rfl rfl cf4a1 (sy 7))
theorem cSysY (W:World) (c:Cfg) (p:Nat) (hp:p < c.n) : Ev.PieE Try.prog 36 [] 0 9 ⟨W,fun _=>False⟩ (cf4a3 c p) [] (fun κ:Ev.Ren=>(iN (4+c.off p+4))) (fun κ:Ev.Ren=>[]):=(trE (c:=⟨W,fun _=>False⟩) 4 (kn [iN (c.n),iN (c.q),iz (c.g),iz (c.m),iz (c.t),iz (c.s),iN (p),iN (4+c.off p+4)] fr [] [] [] fn fn fn W (fun _=>False) [[]] [] [⟨41,[.agg #[sy 0,sy 1,sy 2,sy 3,sy 4,sy 5,sy 6],.int .i64 4],0,none,sy 7,none⟩]) fn (fc (pc (args:=[(cf4a0 c p),(.int .i64 4)]) rfl (fun w hb=>at_ok c p (4) hp (by have q0:=c.z hp; omega) w)) fn) rfl [] [] [] 0 rfl rfl cf4a1 (sy 7))
theorem cFlagY (W:World) (c:Cfg) (p:Nat) (hp:p < c.n) : Ev.PieE Try.prog 37 [] 0 9 ⟨W,fun _=>False⟩ (cf4a3 c p) [] (fun κ:Ev.Ren=>(iN (4+c.off p+5))) (fun κ:Ev.Ren=>[]):=(trE (c:=⟨W,fun _=>False⟩) 4 (kn [iN (c.n),iN (c.q),iz (c.g),iz (c.m),iz (c.t),iz (c.s),iN (p),iN (4+c.off p+5)] fr [] [] [] fn fn fn W (fun _=>False) [[]] [] [⟨41,[.agg #[sy 0,sy 1,sy 2,sy 3,sy 4,sy 5,sy 6],.int .i64 5],0,none,sy 7,none⟩]) fn (fc (pc (args:=[(cf4a0 c p),(.int .i64 5)]) rfl (fun w hb=>at_ok c p (5) hp (by have q0:=c.z hp; omega) w)) fn) rfl [] [] [] 0 rfl rfl cf4a1 (sy 7))
theorem bAtN (W:World) (bv:Value) (lb:Ev.leafV bv=true) (bs:List Int) (hs:Ev.SlR 1 bv bs.length (u8s bs) W) (hb:bs.length≤1000000) (ix:Nat) (hi:ix≤1000000) (hq:bs.length≤ix) : Ev.PieE Try.prog 33 [] 0 14 ⟨W,fun _=>False⟩ [(0,(bv)),(1,(iN (ix)))] [] (fun κ:Ev.Ren=>(.int .i64 0)) (fun κ:Ev.Ren=>[]):=(trE (c:=⟨W,fun _=>False⟩) 5 (kn [bv,iN (ix),iN (bs.length)] (fc hs.leaf fr) [(.geq,sy 1,sy 2,.bool true)] [] [] (fc (fun _ _ _=>Ev.bt_geq (by first | (simp; done) | (simp; omega))) fn) fn fn W (fun _=>False) [[]] [⟨[10,24],[sy 0],none,0,none,sy 2,none⟩] []) (fc (Ev.ro_len (ci:=0) rfl rfl hs Try.underlying24 rfl rfl) fn) fn rfl [] [] [] 0 rfl rfl [(0,sy 0),(1,sy 1)] (.int .i64 0))
theorem bAtY (W:World) (bv:Value) (lb:Ev.leafV bv=true) (bs:List Int) (hs:Ev.SlR 1 bv bs.length (u8s bs) W) (hb:bs.length≤1000000) (ix:Nat) (hi:ix≤1000000) (hq:ix < bs.length) (hz:0≤bs.getD ix 0∧bs.getD ix 0 < 256) : Ev.PieE Try.prog 33 [] 0 14 ⟨W,fun _=>False⟩ [(0,(bv)),(1,(iN (ix)))] [] (fun κ:Ev.Ren=>(iz (bs.getD ix 0))) (fun κ:Ev.Ren=>[]):=(trE (c:=⟨W,fun _=>False⟩) 5 (kn [bv,Ev.ptrR (bv) ((ix) * 1),.int .u8 (bs.getD ix 0),iz (bs.getD ix 0),iN (ix),iN (bs.length)] (fc hs.leaf (fc (Ev.ptrR_leaf _ _) fr)) [(.geq,sy 4,sy 5,.bool false)] [] [(.i64,sy 2,sy 3)] (fc (fun _ _ _=>Ev.bt_geq (by first | (simp; done) | (simp; omega))) fn) fn (fc (Ev.ct_in rfl rfl (wrap_ok (by omega) (by omega))) fn) W (fun _=>False) [[]] [⟨[10,24],[sy 0],none,0,none,sy 5,none⟩,⟨[3,24],[sy 0,sy 4],none,0,none,sy 1,none⟩,⟨[1,5],[sy 1],none,0,none,sy 2,none⟩] []) (fc (Ev.ro_len (ci:=0) rfl rfl hs Try.underlying24 rfl rfl) (fc (by obtain ⟨i,i1,i2,i3,i4⟩:=infU8; exact Ev.ro_index (ci:=0) (j:=(ix)) rfl rfl hs Try.underlying24 i1 i2 rfl rfl (by omega) rfl) (fc (Ev.ro_load (ci:=0) (m:=(ix) * 1) (x:=.int .u8 (bs.getD ix 0)) rfl rfl hs loadU8 (by rw [Nat.mul_one]; exact u8s_at bs (by omega)) rfl rfl (Ev.offNone _)) fn))) fn rfl [] [] [] 0 rfl rfl [(0,sy 0),(1,sy 4)] (sy 3))
theorem stat_ok (c:Cfg) (p:Nat) (hp:p < c.n) (w:World) : Calls Try.prog 34 #[c.v,.int .i64 (p:Int)] w fun e w'=>e=.returned (.int .i64 ((c.word p+2:Nat) : Int))∧Below w.heap.size w w' :=
 start0 (r:=.int .i64 ((c.word p+2:Nat) : Int)) (by kernel_rfl) (by simp) (by simp) (cStatY w c p hp)
theorem tick_ok (c:Cfg) (p:Nat) (hp:p < c.n) (w:World) : Calls Try.prog 35 #[c.v,.int .i64 (p:Int)] w fun e w'=>e=.returned (.int .i64 ((c.word p+3:Nat) : Int))∧Below w.heap.size w w' :=
 start0 (r:=.int .i64 ((c.word p+3:Nat) : Int)) (by kernel_rfl) (by simp) (by simp) (cTickY w c p hp)
theorem sys_ok (c:Cfg) (p:Nat) (hp:p < c.n) (w:World) : Calls Try.prog 36 #[c.v,.int .i64 (p:Int)] w fun e w'=>e=.returned (.int .i64 ((c.word p+4:Nat) : Int))∧Below w.heap.size w w' :=
 start0 (r:=.int .i64 ((c.word p+4:Nat) : Int)) (by kernel_rfl) (by simp) (by simp) (cSysY w c p hp)
theorem flag_ok (c:Cfg) (p:Nat) (hp:p < c.n) (w:World) : Calls Try.prog 37 #[c.v,.int .i64 (p:Int)] w fun e w'=>e=.returned (.int .i64 ((c.word p+5:Nat) : Int))∧Below w.heap.size w w' :=
 start0 (r:=.int .i64 ((c.word p+5:Nat) : Int)) (by kernel_rfl) (by simp) (by simp) (cFlagY w c p hp)
end Go.Proofs.Ytbcnbofkgkheeaa
namespace Go.Proofs.Ytbcnbofkgkheeaa
open Go.ChangeShapes Go.WideShapes Go.ChangeAt Go.RowKit Go.Deep
set_option linter.unusedVariables false
section
variable {H:Type} {enc:TypeId×Value→H} {P:Program}
theorem trodAll_below (hl:laidOutB P=true) {W W':World} (hb:Below W.heap.size W W') : ∀ (ts:List TypeId) (vs:List Value) (ds:List (DataW H)) (ps:List MemPlace),
  DataW.TrodAll enc P W 0 (fun _=>true) true ts vs ds ps→(∀ t ∈ ts,P.readableRec t=true∧t < P.types.size)→(∀ x ∈ ps,x.block < W.heap.size) →
  DataW.TrodAll enc P W' 0 (fun b=>decide (b < W.heap.size)) true ts vs ds ps:=by
 intro ts
 induction ts with
 | nil =>
  intro vs ds ps h _ _
  obtain ⟨rfl,rfl,rfl⟩:=trodAll_nil h
  exact trodAll_mk0
 | cons t ts ih =>
  intro vs ds ps h hr hlt
  obtain ⟨v,vs',d,ds',p,q,rfl,rfl,rfl,h1,h2⟩:=trodAll_cons h
  exact trodAll_cons_mk ((hb.trod hl (hr t (List.mem_cons_self ..)).1 (hr t (List.mem_cons_self ..)).2 h1 (fun x hx=>hlt x (List.mem_append_left _ hx))))
   (ih vs' ds' q h2 (fun t' ht'=>hr t' (List.mem_cons_of_mem _ ht')) (fun x hx=>hlt x (List.mem_append_right _ hx)))
theorem law_post {f:Func} {s:ChangeSpec} {W W':World} {args:Array Value} {ds gs:List (DataW H)} {before:List MemPlace} {tb:TypeId} (hl:laidOutB P=true)
  (hW:DataW.Whole enc P f.params.toList s.vars false W args.toList ds gs before) (hvars:s.vars=[]) (hres:f.resultTypes = #[tb]) (hbool:P.underlying tb=some .bool)
  (hfn:s.fn H ds = { results:=[.lit (.bool true)],args:=ds }) (hread:∀ t ∈ f.params.toList,P.readableRec t=true∧t < P.types.size) (hb:Below W.heap.size W W') :
  s.post enc P f false true false false W args (.bool true) W':=by
 have hW0:=hW
 obtain ⟨p,q,hA,hV,hpq,hz,hn⟩:=hW
 rw [hvars] at hV
 obtain ⟨rfl,rfl⟩:=trodVars_none hV
 have hlt:∀ x ∈ before,x.block < W.heap.size:=fun x hx=>hW0.lt x hx
 have hpl:before=p:=by rw [hpq,List.append_nil]
 refine ⟨ds,[],before,[],p,[],hW0,?_,?_,?_,?_,fun h=>by cases h⟩
 ·rw [List.append_nil,hfn,hres]
  exact trodAll_mk1 (shut_bool hbool true)
 ·rw [List.append_nil,hfn]
  exact trodAll_below hl hb _ _ _ _ hA hread (fun x hx=>hlt x (by rw [hpl]; exact hx))
 ·rw [hvars,List.append_nil,hfn]
  rfl
 ·exact World.keptBut_mono (fun x hx=>⟨hx,.inr (.inl (by rw [hpl] at hx; exact hx))⟩) (hb.frame (· ∈ before))
theorem open_cells {W:World} {base b0:Nat} {spare:Nat→Bool} {held:Bool} {r:Reach} {t:TypeId} {fs:Array Field} {v:Value} {d:DataW H} {p:List MemPlace} (hs:P.underlying t=some (.struct fs)) (hone:oneCellFields P fs=true) (hC:P.cellsOf t=fs.size)
  (hv:Value.okWide P W r b0 t v) (h:DataW.Trod enc P W base spare held t v d p) :
  ∃ cs:Array Value,v=.agg cs∧cs.size=fs.size∧∀ (j:Nat) (f:Field),fs[j]? = some f→∃ n x y,cs[j]? = some x∧DataW.trod enc P W base spare held n f.type [x]=some y:=by
 obtain ⟨cs,rfl,hsz⟩:=okWide_struct hs hv
 obtain ⟨fuel,hf⟩:=h
 obtain ⟨ys,n,hn,hy,hlen,hyl,hfs⟩:=DataW.trod_struct hs hf
 rw [hC] at hsz
 refine ⟨cs,rfl,hsz,fun j f hj=>?_⟩
 obtain ⟨ho,hk⟩:=hone_of hone j f hj
 have hjl:j < cs.size:=by rw [hsz]; exact (Array.getElem?_eq_some_iff.1 hj).1
 have h1:=hfs j f hj
 have hjy:j < ys.length:=by rw [hyl]; exact (Array.getElem?_eq_some_iff.1 hj).1
 have hys:ys[j]? = some (ys[j]'hjy):=List.getElem?_eq_getElem hjy
 have hc:(((Value.agg cs).cells.toList.drop f.offset).take (P.cellsOf f.type))=[cs[j]]:=by
  rw [ho,hk]
  show ((cs.toList.drop j).take 1)=_
  rw [List.drop_eq_getElem_cons (by simpa using hjl)]
  rfl
 refine ⟨n,cs[j],ys[j]'hjy,Array.getElem?_eq_getElem hjl,?_⟩
 rw [← hc,← hys]
 exact h1
end
end Go.Proofs.Ytbcnbofkgkheeaa
namespace Go.Proofs.Ytbcnbofkgkheeaa
open Go.ChangeShapes Go.WideShapes Go.ChangeAt Go.RowKit Go.Deep
set_option linter.unusedVariables false
set_option linter.unusedSimpArgs false
set_option maxRecDepth 100000
section
variable {H:Type} {enc:TypeId×Value→H} {w:World}
theorem cell_lt {a:Addr} {v:Value} (h:w.cell? a=some v) : a.block < w.heap.size:=by
 unfold World.cell? at h
 cases hb:w.heap[a.block]? with
 | none=>rw [hb] at h; cases h
 | some o=>exact (Array.getElem?_eq_some_iff.1 hb).1
theorem add_none {b off n:Nat} : (⟨b,off,none⟩ : Addr).add n=⟨b,off+n,none⟩:=Ev.addMk b off n
theorem u8_bd {n:Int} (h:(Lit.int .u8 n).wf=true) : 0≤n∧n < 256:=by
 simp [Lit.wf,IntKind.min,IntKind.max,IntKind.signed,IntKind.bits] at h
 omega
theorem open_bytes {v:Value} {d:DataW H} {ps:List MemPlace} {r:Reach} {b0:Nat} (hv:Value.okWide Try.prog w r b0 24 v) (h:DataW.Trod enc Try.prog w 0 (fun _=>true) true 24 v d ps) :
  ∃ zs:List Int,Ev.SlR 1 v zs.length (u8s zs) w∧∀ i,0≤zs.getD i 0∧zs.getD i 0 < 256:=by
 obtain ⟨a0,n0,c0,rfl⟩:=okWide_slice Try.underlying24 hv
 obtain ⟨fuel,hf⟩:=h
 have key:∀ zs:List Int,(∀ z ∈ zs,0≤z∧z < 256)→∀ i,0≤zs.getD i 0∧zs.getD i 0 < 256:=fun zs hz i=>by
  rcases Nat.lt_or_ge i zs.length with h | h
  ·rw [List.getD_eq_getElem?_getD,List.getElem?_eq_getElem h]
   exact hz _ (List.getElem_mem h)
  ·rw [List.getD_eq_getElem?_getD,List.getElem?_eq_none h]
   decide
 rcases open_ints Try.underlying24 Try.underlying5 (by kernel_rfl) hf with ⟨hcs,_⟩ | ⟨a,len,cap,zs,hcs,_,hl,_,hz,_,hc,hwz⟩
 ·simp [Value.cells] at hcs
  obtain ⟨rfl,rfl,rfl⟩:=hcs
  exact ⟨[],⟨rfl,.inl ⟨rfl,_,_,rfl⟩⟩,key [] (fun z hz=>by cases hz)⟩
 ·simp [Value.cells] at hcs
  obtain ⟨rfl,rfl,rfl⟩:=hcs
  simp only [if_true] at hz
  have hlen:(zs.take n0).length=n0:=by rw [List.length_take]; omega
  refine ⟨zs.take n0,⟨by simp [u8s],?_⟩,key _ (fun z hm=>u8_bd (hwz z (List.mem_of_mem_take hm)))⟩
  rw [hlen]
  rcases Nat.eq_zero_or_pos n0 with h0 | h0
  ·subst h0
   exact .inl ⟨rfl,some a,_,rfl⟩
  ·have h1:=hc 0 (by omega)
   have hs:a.spot=none:=by simpa [Addr.add] using World.cell?_spot h1
   obtain ⟨b,off,spot⟩:=a
   simp only at hs
   subst hs
   have hb:b < w.heap.size:=by
    have:=cell_lt h1
    rw [add_none] at this
    exact this
   refine .inr ⟨b,off,_,rfl,⟨hb,hl⟩,fun j hj=>?_⟩
   have h2:=hc j (by omega)
   rw [add_none] at h2
   rw [h2]
   simp only [u8s]
   rw [List.getElem?_map,List.getElem?_take,if_pos (by omega),List.getElem?_eq_getElem (by omega)]
   simp [List.getD_eq_getElem?_getD,List.getElem?_eq_getElem (show j < zs.length by omega)]
theorem open_config {base b0:Nat} {spare:Nat→Bool} {held:Bool} {r:Reach} {v:Value} {d:DataW H} {p:List MemPlace}
  (hv:Value.okWide Try.prog w r b0 23 v) (h:DataW.Trod enc Try.prog w base spare held 23 v d p) : ∃ c:Cf,v=c.v:=by
 obtain ⟨cs,rfl,hsz,hf⟩:=open_cells Try.underlying23 (by kernel_rfl) (by kernel_rfl) hv h
 obtain ⟨l⟩:=cs
 have hl:l.length=6:=hsz
 match l,hl with
 | [c0,c1,c2,c3,c4,c5],_ =>
  obtain ⟨n0,y0,z0,hy0,hz0⟩:=hf 0 _ rfl
  cases hy0
  obtain ⟨m0,hm0,_,_⟩:=DataW.trod_int Try.underlying3 hz0
  cases hm0
  obtain ⟨n1,y1,z1,hy1,hz1⟩:=hf 1 _ rfl
  cases hy1
  obtain ⟨m1,hm1,_,_⟩:=DataW.trod_int Try.underlying3 hz1
  cases hm1
  obtain ⟨n2,y2,z2,hy2,hz2⟩:=hf 2 _ rfl
  cases hy2
  obtain ⟨m2,hm2,_,_⟩:=DataW.trod_int Try.underlying3 hz2
  cases hm2
  obtain ⟨n3,y3,z3,hy3,hz3⟩:=hf 3 _ rfl
  cases hy3
  obtain ⟨m3,hm3,_,_⟩:=DataW.trod_int Try.underlying3 hz3
  cases hm3
  obtain ⟨n4,y4,z4,hy4,hz4⟩:=hf 4 _ rfl
  cases hy4
  obtain ⟨m4,hm4,_,_⟩:=DataW.trod_int Try.underlying3 hz4
  cases hm4
  obtain ⟨n5,y5,z5,hy5,hz5⟩:=hf 5 _ rfl
  cases hy5
  obtain ⟨m5,hm5,_,_⟩:=DataW.trod_int Try.underlying3 hz5
  cases hm5
  exact ⟨⟨m0,m1,m2,m3,m4,m5⟩,rfl⟩
end
theorem own:ownKnob Try.prog.godebug=none:=by kernel_rfl
theorem laidOut:laidOutB Try.prog=true:=by kernel_rfl
theorem run0 {W:World} {N:Nat} {f:FuncId} {args:Array Value} {tm:List (Nat×Value)} {r:Value} (h:Ev.PieE Try.prog f [] 0 N ⟨W,fun _=>False⟩ tm [] (fun κ:Ev.Ren=>r) (fun κ:Ev.Ren=>[])) (hN:Ev.withB Try.prog (fun B=>Ev.segB B f [] (fun fn _=>Nat.beq fn.ntmps N))=true) (ha:args.size≤N) (ht:∀ p ∈ tm,args[p.1]? = some p.2) : Calls Try.prog f args W fun e w'=>e=.returned r∧Below W.heap.size W w' :=
 Ev.con_start hN (Ev.now_nil W) ha ht (fun A hA=>h A W _ hA (fun κ w1 h1=>⟨rfl,h1.below (fun _ h=>h)⟩))
end Go.Proofs.Ytbcnbofkgkheeaa
namespace Go.Proofs.Ytbcnbofkgkheeaa
open Go.RowKit
open Go.Ev (sy iz uz wz iN uN wN pz dv fc fn ak vk vd kn pc cc cr cm cd fr)
set_option linter.unusedVariables false
set_option linter.unusedSimpArgs false
set_option maxRecDepth 8000
attribute [local irreducible] Ev.wpL
abbrev rs1a2 (rv:Value) (xs:List Int) : Ev.Asr:=Ev.slA 30 1 (rv) (xs.length) (u64s xs)
theorem rwA (W0:World) (F0:Nat→Prop) (rv:Value) (lr:Ev.leafV rv=true) (xs:List Int) (hx:xs.length≤1000000) (ops:Int) (a:Nat) (ha:a < xs.length) (y:Int) : Ev.Pie Try.prog 53 [] 0 3 21 ⟨W0,F0⟩ [(0,(.agg #[(rv),(uz (ops))])),(1,(iN (a))),(2,(uz (y)))] [(rs1a2 rv xs)] .normal (fun κ:Ev.Ren=>[(1,(iN (a))),(2,(uz (y))),(3,(pz ((κ 400).getD 0))),(6,(pz ((κ 404).getD 0))),(7,(dv κ 411))]) (fun κ:Ev.Ren=>[Ev.blkA ((κ 400).getD 0) [(rv),(uz (ops))] 32,Ev.blkA ((κ 404).getD 0) [(.slice none 0 0),(.int .u64 0)] 32,(rs1a2 rv xs),Ev.slA 30 1 (dv κ 411) (xs.length) (u64s xs)]):=(tr (c:=⟨W0,F0⟩) (kn [rv,uz (ops),iN (a),uz (y)] (fc (by assumption) fr) [] [] [] fn fn fn W0 F0 [[(rs1a2 rv xs)],[(rs1a2 rv xs),Ev.atD 411 (fun v=>Ev.slA 30 1 v (xs.length) (u64s xs))]] [⟨[11,29,29],[.slice none 0 0,sy 0],none,0,some 411,.complex .f32 411 0,some 1⟩] []) (fc (by obtain ⟨i,i1,i2,i3,i4⟩:=infU64; exact Ev.app_new rfl rfl Ev.isNils (.inl rfl) rfl (Ev.rd_sl (ci:=1) rfl rfl) Try.underlying29 Try.underlying29 i1 i2 i3 (by rw [i2]; rfl) (by rw [i4]; omega) (by omega) Ev.one_ints) fn) fn rfl [] [] [(400,[sy 0,sy 1],32),(404,[.slice none 0 0,.int .u64 0],32)] 1 rfl rfl [(0,.agg #[sy 0,sy 1]),(1,sy 2),(2,sy 3)] [(1,sy 2),(2,sy 3),(3,.pointer (some ⟨400,0,none⟩)),(6,.pointer (some ⟨404,0,none⟩)),(7,.complex .f32 411 0)] .normal).conv (fun κ w=>⟨(fun _ h=>h),(fun _ h=>h),(fun _ h=>h),(fun _ h=>Ev.undy (a:=fun v=>Ev.slA 30 1 v (xs.length) (u64s xs)) (fun _ _ _ _ _ h=>h) h),trivial⟩)
theorem rwB (W0:World) (F0:Nat→Prop) (rv:Value) (lr:Ev.leafV rv=true) (xs:List Int) (hx:xs.length≤1000000) (ops:Int) (a:Nat) (ha:a < xs.length) (y:Int) (al:Value) (la:Ev.leafV al=true) (b3 b6:Nat) : Ev.PieE Try.prog 53 [] 3 21 ⟨W0,F0⟩ [(1,(iN (a))),(2,(uz (y))),(3,(pz b3)),(6,(pz b6)),(7,(al))] [Ev.blkA b3 [(rv),(uz (ops))] 32,Ev.blkA b6 [(.slice none 0 0),(.int .u64 0)] 32,Ev.slA 30 1 (al) (xs.length) (u64s xs)] (fun κ:Ev.Ren=>(.agg #[(al),(uz (IntKind.u64.wrap ((ops)+1)))])) (fun κ:Ev.Ren=>[Ev.blkA b3 [(rv),(uz (ops))] 32,Ev.blkA b6 [(al),(uz (IntKind.u64.wrap ((ops)+1)))] 32,Ev.slA 30 1 (al) (xs.length) ((u64s xs).set ((a) * 1) (uz (y)))]):=(trE (c:=⟨W0,F0⟩) 3 (kn [al,rv,Ev.ptrR (al) ((a) * 1),iN (a),uz (y),uz (ops),uz (IntKind.u64.wrap ((ops)+1))] (fc (by assumption) (fc (by assumption) (fc (Ev.ptrR_leaf _ _) fr))) [(.add,sy 5,.int .u64 1,sy 6)] [] [] (fc (fun _ _ _=>Ev.bt_add rfl) fn) fn fn W0 F0 [[Ev.slA 30 1 (al) (xs.length) (u64s xs)],[Ev.slA 30 1 (al) (xs.length) ((u64s xs).set ((a) * 1) (uz (y)))]] [⟨[3,29],[sy 0,sy 3],none,0,none,sy 2,none⟩,⟨[2,30],[sy 2,sy 4],none,0,none,undef,some 1⟩] []) (fc (by obtain ⟨i,i1,i2,i3,i4⟩:=infU64; exact Ev.sl_index (ci:=1) (j:=(a)) rfl rfl Try.underlying29 i1 i2 rfl rfl (by omega) rfl) (fc (Ev.sl_store (ci:=1) (m:=(a) * 1) (x:=(uz (y))) rfl rfl rfl storeU64 (by simp; omega) rfl (Ev.isSym rfl) rfl) fn)) fn rfl [(4,b3),(8,b6)] [(4,[sy 1,sy 5],32),(8,[.slice none 0 0,.int .u64 0],32)] [(4,[sy 1,sy 5],32),(8,[sy 0,sy 6],32)] 1 rfl rfl [(1,sy 3),(2,sy 4),(3,.pointer (some ⟨4,0,none⟩)),(6,.pointer (some ⟨8,0,none⟩)),(7,sy 0)] (.agg #[sy 0,sy 6]))
end Go.Proofs.Ytbcnbofkgkheeaa
namespace Go.Proofs.Ytbcnbofkgkheeaa
open Go.RowKit
open Go.Ev (sy)
set_option linter.unusedVariables false
set_option linter.unusedSimpArgs false
set_option maxRecDepth 8000
theorem with_ok {w:World} {F:Nat→Prop} {rv:Value} (lr:Ev.leafV rv=true) {xs:List Int} (hn:xs.length≤1000000) (ops:Int) {a:Nat} (ha:a < xs.length) (v:Int) (h:Ev.Now [Ev.slA 30 1 rv xs.length (u64s xs)] F w) :
  Calls Try.prog 53 #[.agg #[rv,.int .u64 ops],.int .i64 (a:Int),.int .u64 v] w fun e w'=>∃ al cd,Ev.dec cd=al∧e=.returned (.agg #[al,.int .u64 (IntKind.u64.wrap (ops+1))])∧Ev.Hold ⟨w,F⟩ [Ev.slA 30 1 al xs.length (u64s (xs.set a v))] w':=by
 refine Ev.con_start (N:=21) (tm:=[(0,.agg #[rv,.int .u64 ops]),(1,.int .i64 (a:Int)),(2,.int .u64 v)]) (by kernel_rfl) h (by simp) (by simp) (fun A hA=>?_)
 refine rwA w F rv lr xs hn ops a ha v A w _ hA ?_
 intro κ A1 w1 h1
 refine rwB w F rv lr xs hn ops a ha v (Ev.dec ((κ 411).getD 0)) (hold_leaf (h1.hold.sel [3] (by kernel_rfl))) ((κ 400).getD 0) ((κ 404).getD 0) A1 w1 _ (h1.to (fun p hp=>hp) (fun hh=>hh.sel [0,1,3] (by kernel_rfl))) ?_
 intro κ2 w2 h2
 refine ⟨_,_,rfl,rfl,?_⟩
 rw [← u64s_set]
 exact h2.sel [2] (by kernel_rfl)
end Go.Proofs.Ytbcnbofkgkheeaa
namespace Go.Proofs.Ytbcnbofkgkheeaa
open Go.RowKit
open Go.Ev (sy iz uz wz iN uN wN pz dv fc fn ak vk vd kn pc cc cr cm cd fr)
set_option linter.unusedVariables false
set_option linter.unusedSimpArgs false
set_option maxRecDepth 8000
attribute [local irreducible] Ev.wpL
abbrev rs3a3 (rv:Value) (xs:List Int) : List Ev.Asr:=[Ev.slA 30 1 (rv) (xs.length) (u64s xs)]
theorem rst (W0:World) (F0:Nat→Prop) (rv:Value) (lr:Ev.leafV rv=true) (xs:List Int) (hx:xs.length≤1000000) (ops:Int) (a:Nat) (ha:a < xs.length) (y:Int) : Ev.PieE Try.prog 31 [] 0 16 ⟨W0,F0⟩ [(0,(.agg #[(rv),(uz (ops))])),(1,(iN (a))),(2,(uz (y)))] (rs3a3 rv xs) (fun κ:Ev.Ren=>(.agg #[(dv κ 415),(.int .u64 (IntKind.u64.wrap (ops+1)))])) (fun κ:Ev.Ren=>[Ev.slA 30 1 (dv κ 415) xs.length (u64s (xs.set a y))]):=(trE (c:=⟨W0,F0⟩) 6 (kn [rv,uz (ops),iN (a),uz (y),iN (xs.length),.int .u64 (IntKind.u64.wrap (ops+1))] (fc (by assumption) fr) [(.geq,sy 2,.int .i64 0,.bool true),(.lss,sy 2,sy 4,.bool true)] [] [] (fc (fun _ _ _=>Ev.bt_geq (by first | (simp; done) | (simp; omega))) (fc (fun _ _ _=>Ev.bt_lss (by first | (simp; done) | (simp; omega))) fn)) fn fn W0 F0 [(rs3a3 rv xs),[Ev.atD 415 (fun v=>Ev.slA 30 1 v xs.length (u64s (xs.set a y)))]] [⟨[10,29],[sy 0],none,0,none,sy 4,none⟩] [⟨53,[.agg #[sy 0,sy 1],sy 2,sy 3],0,some 415,.agg #[.complex .f32 415 0,sy 5],some 1⟩]) (fc (by obtain ⟨i,i1,i2,i3,i4⟩:=infU64; exact Ev.sl_len (ci:=1) rfl rfl Try.underlying29 i2 rfl rfl) fn) (fc (cd rfl [fun v=>Ev.slA 30 1 v xs.length (u64s (xs.set a y))] [0] [] (fun w F ho hn hF=>with_ok lr hx ops ha y hn)) fn) rfl [] [] [] 1 rfl rfl [(0,.agg #[sy 0,sy 1]),(1,sy 2),(2,sy 3)] (.agg #[.complex .f32 415 0,sy 5])).conv (fun κ w=>⟨(fun _ h=>Ev.undy (a:=fun v=>Ev.slA 30 1 v xs.length (u64s (xs.set a y))) (fun _ _ _ _ _ h=>h) h),trivial⟩)
end Go.Proofs.Ytbcnbofkgkheeaa
namespace Go.Proofs.Ytbcnbofkgkheeaa
open Go.RowKit
open Go.Ev (sy)
set_option linter.unusedVariables false
set_option linter.unusedSimpArgs false
set_option maxRecDepth 8000
section
variable {w:World} {F:Nat→Prop} {rv:Value} {xs:List Int} {a:Nat}
theorem rStore_ok (lr:Ev.leafV rv=true) (hx:xs.length≤1000000) (ops:Int) (ha:a < xs.length) (v:Int) (h:Ev.Now [Ev.slA 30 1 rv xs.length (u64s xs)] F w) :
  Calls Try.prog 31 #[.agg #[rv,.int .u64 ops],.int .i64 (a:Int),.int .u64 v] w fun e w'=>∃ al cd,Ev.dec cd=al∧e=.returned (.agg #[al,.int .u64 (IntKind.u64.wrap (ops+1))])∧Ev.Hold ⟨w,F⟩ [Ev.slA 30 1 al xs.length (u64s (xs.set a v))] w' :=
 startP (rst w F rv lr xs hx ops a ha v) (by kernel_rfl) h (by simp) (by simp) (fun κ w1 h1=>⟨_,_,rfl,rfl,h1⟩)
end
end Go.Proofs.Ytbcnbofkgkheeaa
namespace Go.Proofs.Ytbcnbofkgkheeaa
open Go.RowKit
open Go.Ev (sy iz uz wz iN uN wN pz dv fc fn ak vk vd kn pc cc cr cm cd fr)
set_option linter.unusedVariables false
set_option linter.unusedSimpArgs false
set_option maxRecDepth 8000
attribute [local irreducible] Ev.wpL
structure S9 where
 W0:World
 F0:Nat→Prop
 c:Cfg
 p:Nat
 hp:p < c.n
 gg:Int
 hg:0≤gg∧gg≤9223372036854775807
 w:Int
 hw:U64 w
 rv:Value
 tk:Value
 hd:Value
 lrv:Ev.leafV rv=true
 ltk:Ev.leafV tk=true
 lhd:Ev.leafV hd=true
 xs:List Int
 ts:List Int
 hs:List Int
 hl:xs.length=4+c.off c.n
 hx:xs.length≤1000000
 hts:ts.length≤64
 ops:Int
abbrev S9.i4 (s:S9) : Int:=IntKind.u32.wrap (IntKind.u32.wrap (tlW s.w - ((s.c.q / 2:Nat) : Int))+((s.ts.length:Nat) : Int))
theorem below_of {f:FuncId} {args:Array Value} {w:World} {v:Ending} (h:Calls Try.prog f args w fun e w'=>e=v∧w=w') : Calls Try.prog f args w fun e w'=>e=v∧Below w.heap.size w w':=h.mono (by rintro e w' ⟨h,rfl⟩; exact ⟨h,Below.refl _ _⟩)
theorem wrap_nn (n:Int) : 0≤IntKind.u32.wrap n:=by rw [wrap32]; omega
theorem wrapU {n:Int} (h1:0≤n) (h2:n < 18446744073709551616) : IntKind.u64.wrap n=n:=by
 unfold IntKind.wrap
 simp [IntKind.signed,IntKind.bits]
 omega
theorem half_quo (c:Cfg) : IntKind.i64.wrap ((c.q:Int).tdiv 2)=((c.q / 2:Nat) : Int):=by
 have:=c.qb
 rw [Int.tdiv_eq_ediv_of_nonneg (by omega),wrap_ok (by omega) (by omega)]
 omega
end Go.Proofs.Ytbcnbofkgkheeaa
namespace Go.Proofs.Ytbcnbofkgkheeaa
open Go.RowKit Go.Lib
open Go.Ev (sy)
set_option linter.unusedVariables false
set_option linter.unusedSimpArgs false
theorem own_hold {l:List Ev.Asr} {e:TypeId} {v':Value} {n:Nat} {xs:List Value} {F:Nat→Prop} {w w':World} (h:Ev.Now l F w) (ho:w'.ownsRow w.heap.size e 1 v' n xs) (hb:Below w.heap.size w w') : ∃ v2 cd,Ev.dec cd=v2∧Ending.returned v'=.returned v2∧Ev.Hold ⟨w,F⟩ (Ev.slA e 1 v2 n xs::l) w':=by
 obtain ⟨hl,ho⟩:=ho
 have key:∃ Fn,Ev.SlV e 1 v' n xs Fn w'∧∀ j,Fn j→w.heap.size≤j:=by
  rcases ho with ⟨rfl,rfl⟩ | ⟨g,cap,cur,rfl,hg,hh,h1,h2,h3,h4⟩
  ·have:xs=[]:=List.eq_nil_of_length_eq_zero (by rw [hl])
   subst this
   exact ⟨fun _=>False,Ev.SlV.nil e 1 w',fun _ h=>h.elim⟩
  ·refine ⟨fun j=>j=g,⟨hl,.inr ⟨g,0,cap,cur,rfl,fun _=>Iff.rfl,hh,fun i hi=>?_,by rw [h3]; omega,h1⟩⟩,fun j hj=>by rw [hj]; exact hg⟩
   rw [← h4,Nat.zero_add,List.getElem?_take_of_lt hi]
   simp
 obtain ⟨Fn,k1,k2⟩:=key
 obtain ⟨cd,hcd⟩:=k1.code
 have hk:Ev.Now l F w':=Ev.now_keep h (fun j hj=>hb.block j (h.lt j hj)) hb.size
 refine ⟨v',cd,hcd,rfl,⟨⟨_,Ev.now_cons (a:=Ev.slA e 1 v' n xs) k1 hk (fun j hj=>Ev.SlV.lt k1 j hj) (fun j hj hf=>?_),⟨hb.os,hb.tape,hb.output,hb.size,fun j hj _=>hb.block j hj⟩,fun j hj=>?_⟩⟩⟩
 ·have:=h.lt j hf
  have:=k2 j hj
  omega
 ·exact hj.elim (fun h=>.inr (k2 j h)) .inl
set_option maxHeartbeats 2000000 in
set_option maxRecDepth 100000 in
theorem clone_int_at (ad:Addr) (n c:Nat) (xs:List Value) (w:World) (hl:xs.length=n) (hn:n≤1000000) (hone:∀ u ∈ xs,u.oneCell'=true) (hc:∀ (j:Nat) u,xs[j]? = some u→w.cell? (ad.add j)=some u) :
  Calls Try.prog 66 #[.slice (some ad) n c] w fun e w'=>∃ v',e=.returned v'∧w'.ownsRow w.heap.size 3 1 v' n xs∧Below w.heap.size w w':=by
 have mixed:=mixed_ok
 obtain ⟨i0,hi,hz1,hz0,hz2⟩:=infInt
 have q22:∀ (w:World) (a:Option Addr) (n c n' c':Nat),(binOp .eql 36 (.slice a n c) (.slice none n' c')).run Try.prog w=.ok (.bool a.isNone) w:=fun w a n c n' c'=>Lib.run_eql_slice_nil w _ _ a n c n' c' Try.underlying36
 have A:Aside (∀ (j:Nat) u,xs[j]? = some u→w.cell? (ad.add j)=some u):=hc
 clear hc
 go_enter Try.func66,Try.ntmps66
 go_wp2_with (at_builtin; refine wpList_append_own _ rfl _ _ 36 rfl w.heap.size 3 i0 (.int .i64 0) 1 8 Try.underlying36 hi hz0 hz1 hz2 rfl (by decide) _ _ _ rfl (World.ownsRow_made w #[] 0 (Nat.le_refl _) (Nat.zero_le _) rfl) ad n c xs rfl ?qc1 ?qc2 ?qc3 ?qc4 ?qc5 ?qc6 ?_)
 case qc1=>simp; omega
 case qc2 =>
  intro j u hj
  refine Lib.cell?_alloc_some _ ?_
  exact A.out j u hj
 case qc3=>exact hone
 case qc4=>unfold maxLen; omega
 case qc5=>omega
 case qc6=>simp
 intro v' w1 hown hgrow hnil
 go_wp2
 go_ret
 refine ⟨v',rfl,by simpa using hown,?_⟩
 exact ((Below.refl _ w).alloc (Nat.le_refl _) _).grown hgrow (by simp) (by intro k hk; simp [Value.ownBlock] at hk; omega)
set_option maxHeartbeats 1000000 in
theorem clone_int_nil (n c:Nat) (w:World) :
  Calls Try.prog 66 #[.slice none n c] w fun e w'=>e=.returned (.slice none 0 0)∧w'=w:=by
 have mixed:=mixed_ok
 have q22:∀ (w:World) (a:Option Addr) (n c n' c':Nat),(binOp .eql 36 (.slice a n c) (.slice none n' c')).run Try.prog w=.ok (.bool a.isNone) w:=fun w a n c n' c'=>Lib.run_eql_slice_nil w _ _ a n c n' c' Try.underlying36
 go_enter Try.func66,Try.ntmps66
 go_wp2
 go_ret
 exact ⟨rfl,rfl⟩
theorem clone_int {v:Value} {n:Nat} {xs:List Value} {F:Nat→Prop} {w:World} (hn:n≤1000000) (hone:∀ u ∈ xs,u.oneCell'=true) (h:Ev.Now [Ev.slA 3 1 v n xs] F w) :
  Calls Try.prog 66 #[v] w fun e w'=>∃ v' cd,Ev.dec cd=v'∧e=.returned v'∧Ev.Hold ⟨w,F⟩ [Ev.slA 3 1 v' n xs,Ev.slA 3 1 v n xs] w':=by
 obtain ⟨Fa,h1,h2⟩:=now_one h
 obtain ⟨hl,hr⟩:=Ev.SlV.ro h1
 rw [Nat.mul_one] at hl
 have some_case:∀ ad c,v=.slice (some ad) n c→(∀ (j:Nat) u,xs[j]? = some u→w.cell? (ad.add j)=some u)→Calls Try.prog 66 #[v] w fun e w'=>∃ v' cd,Ev.dec cd=v'∧e=.returned v'∧Ev.Hold ⟨w,F⟩ [Ev.slA 3 1 v' n xs,Ev.slA 3 1 v n xs] w':=by
  rintro ad c rfl hc
  refine (clone_int_at ad n c xs w hl hn hone hc).mono ?_
  rintro e w' ⟨v',rfl,ho,hb⟩
  exact own_hold h ho hb
 rcases hr with ⟨rfl,a,c,rfl⟩ | ⟨b,off,c,rfl,_,hx⟩
 ·cases a with
  | some a=>exact some_case a c rfl (fun j u hj=>by rw [List.eq_nil_of_length_eq_zero hl] at hj; simp at hj)
  | none =>
   refine (clone_int_nil 0 c w).mono ?_
   rintro e w' ⟨rfl,rfl⟩
   have hx0:xs=[]:=List.eq_nil_of_length_eq_zero hl
   subst hx0
   exact ⟨_,_,(Ev.SlV.nil 3 1 w').code.choose_spec,rfl,(Ev.Hold.start h).nilSl⟩
 ·refine some_case ⟨b,off,none⟩ c rfl (fun j u hj=>?_)
  have hj':=(List.getElem?_eq_some_iff.1 hj).1
  rw [Ev.addMk,hx j (by omega),hj]
set_option maxHeartbeats 2000000 in
set_option maxRecDepth 100000 in
theorem clone_u64_at (ad:Addr) (n c:Nat) (xs:List Value) (w:World) (hl:xs.length=n) (hn:n≤1000000) (hone:∀ u ∈ xs,u.oneCell'=true) (hc:∀ (j:Nat) u,xs[j]? = some u→w.cell? (ad.add j)=some u) :
  Calls Try.prog 55 #[.slice (some ad) n c] w fun e w'=>∃ v',e=.returned v'∧w'.ownsRow w.heap.size 30 1 v' n xs∧Below w.heap.size w w':=by
 have mixed:=mixed_ok
 obtain ⟨i0,hi,hz1,hz0,hz2⟩:=infU64
 have q22:∀ (w:World) (a:Option Addr) (n c n' c':Nat),(binOp .eql 29 (.slice a n c) (.slice none n' c')).run Try.prog w=.ok (.bool a.isNone) w:=fun w a n c n' c'=>Lib.run_eql_slice_nil w _ _ a n c n' c' Try.underlying29
 have A:Aside (∀ (j:Nat) u,xs[j]? = some u→w.cell? (ad.add j)=some u):=hc
 clear hc
 go_enter Try.func55,Try.ntmps55
 go_wp2_with (at_builtin; refine wpList_append_own _ rfl _ _ 29 rfl w.heap.size 30 i0 (.int .u64 0) 1 8 Try.underlying29 hi hz0 hz1 hz2 rfl (by decide) _ _ _ rfl (World.ownsRow_made w #[] 0 (Nat.le_refl _) (Nat.zero_le _) rfl) ad n c xs rfl ?qc1 ?qc2 ?qc3 ?qc4 ?qc5 ?qc6 ?_)
 case qc1=>simp; omega
 case qc2 =>
  intro j u hj
  refine Lib.cell?_alloc_some _ ?_
  exact A.out j u hj
 case qc3=>exact hone
 case qc4=>unfold maxLen; omega
 case qc5=>omega
 case qc6=>simp
 intro v' w1 hown hgrow hnil
 go_wp2
 go_ret
 refine ⟨v',rfl,by simpa using hown,?_⟩
 exact ((Below.refl _ w).alloc (Nat.le_refl _) _).grown hgrow (by simp) (by intro k hk; simp [Value.ownBlock] at hk; omega)
set_option maxHeartbeats 1000000 in
theorem clone_u64_nil (n c:Nat) (w:World) :
  Calls Try.prog 55 #[.slice none n c] w fun e w'=>e=.returned (.slice none 0 0)∧w'=w:=by
 have mixed:=mixed_ok
 have q22:∀ (w:World) (a:Option Addr) (n c n' c':Nat),(binOp .eql 29 (.slice a n c) (.slice none n' c')).run Try.prog w=.ok (.bool a.isNone) w:=fun w a n c n' c'=>Lib.run_eql_slice_nil w _ _ a n c n' c' Try.underlying29
 go_enter Try.func55,Try.ntmps55
 go_wp2
 go_ret
 exact ⟨rfl,rfl⟩
theorem clone_u64 {v:Value} {n:Nat} {xs:List Value} {F:Nat→Prop} {w:World} (hn:n≤1000000) (hone:∀ u ∈ xs,u.oneCell'=true) (h:Ev.Now [Ev.slA 30 1 v n xs] F w) :
  Calls Try.prog 55 #[v] w fun e w'=>∃ v' cd,Ev.dec cd=v'∧e=.returned v'∧Ev.Hold ⟨w,F⟩ [Ev.slA 30 1 v' n xs,Ev.slA 30 1 v n xs] w':=by
 obtain ⟨Fa,h1,h2⟩:=now_one h
 obtain ⟨hl,hr⟩:=Ev.SlV.ro h1
 rw [Nat.mul_one] at hl
 have some_case:∀ ad c,v=.slice (some ad) n c→(∀ (j:Nat) u,xs[j]? = some u→w.cell? (ad.add j)=some u)→Calls Try.prog 55 #[v] w fun e w'=>∃ v' cd,Ev.dec cd=v'∧e=.returned v'∧Ev.Hold ⟨w,F⟩ [Ev.slA 30 1 v' n xs,Ev.slA 30 1 v n xs] w':=by
  rintro ad c rfl hc
  refine (clone_u64_at ad n c xs w hl hn hone hc).mono ?_
  rintro e w' ⟨v',rfl,ho,hb⟩
  exact own_hold h ho hb
 rcases hr with ⟨rfl,a,c,rfl⟩ | ⟨b,off,c,rfl,_,hx⟩
 ·cases a with
  | some a=>exact some_case a c rfl (fun j u hj=>by rw [List.eq_nil_of_length_eq_zero hl] at hj; simp at hj)
  | none =>
   refine (clone_u64_nil 0 c w).mono ?_
   rintro e w' ⟨rfl,rfl⟩
   have hx0:xs=[]:=List.eq_nil_of_length_eq_zero hl
   subst hx0
   exact ⟨_,_,(Ev.SlV.nil 30 1 w').code.choose_spec,rfl,(Ev.Hold.start h).nilSl⟩
 ·refine some_case ⟨b,off,none⟩ c rfl (fun j u hj=>?_)
  have hj':=(List.getElem?_eq_some_iff.1 hj).1
  rw [Ev.addMk,hx j (by omega),hj]
end Go.Proofs.Ytbcnbofkgkheeaa
namespace Go.Proofs.Ytbcnbofkgkheeaa
open Go.RowKit
open Go.Ev (sy iz uz wz iN uN wN pz dv fc fn ak vk vd kn pc cc cr cm cd fr)
set_option linter.unusedVariables false
set_option linter.unusedSimpArgs false
set_option maxRecDepth 8000
attribute [local irreducible] Ev.wpL
theorem mnw (W0:World) (F0:Nat→Prop) (n:Nat) (hn:n≤65536) : Ev.PieE Try.prog 23 [] 0 9 ⟨W0,F0⟩ [(0,(iN (n)))] [] (fun κ:Ev.Ren=>(pz ((κ 404).getD 0))) (fun κ:Ev.Ren=>[Ev.blkA ((κ 404).getD 0) [(.int .u64 0),(.int .u64 0),(.int .u64 0),(.int .u64 0),(.int .u64 0),(.int .u64 0),(.slice none 0 0),(dv κ 403)] 102,Ev.slA 30 1 (dv κ 403) (n) (List.replicate (n) (.int .u64 0))]):=(trE (c:=⟨W0,F0⟩) 3 (kn [iN (n)] fr [] [] [] fn fn fn W0 F0 [[],[Ev.atD 403 (fun v=>Ev.slA 30 1 v (n) (List.replicate (n) (.int .u64 0)))]] [⟨[16,3,3],[sy 0,.int .i64 65536],none,0,none,sy 0,none⟩,⟨[17,3,3],[.int .i64 0,sy 0],none,0,none,sy 0,none⟩,⟨[19,29],[sy 0,sy 0],none,0,some 403,.complex .f32 403 0,some 1⟩] []) (fc (Ev.row_min (kd:=.i64) (a:=(n:Int)) (b:=65536) (Ev.isSym rfl) Ev.isInt (by show Value.int .i64 (n:Int)=_; rw [show min (n:Int) 65536=n by omega])) (fc (Ev.row_max (kd:=.i64) (a:=0) (b:=(n:Int)) Ev.isInt (Ev.isSym rfl) (by show Value.int .i64 (n:Int)=_; rw [show max 0 (n:Int)=n by omega])) (fc (by obtain ⟨i,i1,i2,i3,i4⟩:=infU64; exact Ev.mk_slice rfl rfl (Ev.isSym rfl) (Ev.isSym rfl) Try.underlying29 i1 i2 i3 rfl (by rw [i4]; omega) (by unfold maxLen; omega)) fn))) fn rfl [] [] [(404,[.int .u64 0,.int .u64 0,.int .u64 0,.int .u64 0,.int .u64 0,.int .u64 0,.slice none 0 0,.complex .f32 403 0],102)] 1 rfl rfl [(0,sy 0)] (.pointer (some ⟨404,0,none⟩))).conv (fun κ w=>⟨(fun _ h=>h),(fun _ h=>Ev.undy (a:=fun v=>Ev.slA 30 1 v (n) (List.replicate (n) (.int .u64 0))) (fun _ _ _ _ _ h=>h) h),trivial⟩)
theorem rnw (W0:World) (F0:Nat→Prop) (n:Nat) (hn:n≤65536) : Ev.PieE Try.prog 30 [] 0 8 ⟨W0,F0⟩ [(0,(iN (n)))] [] (fun κ:Ev.Ren=>(.agg #[(dv κ 407),(.int .u64 0)])) (fun κ:Ev.Ren=>[Ev.slA 30 1 (dv κ 407) (n) (List.replicate (n) (.int .u64 0))]):=(trE (c:=⟨W0,F0⟩) 3 (kn [iN (n)] fr [] [] [] fn fn fn W0 F0 [[],[Ev.atD 407 (fun v=>Ev.slA 30 1 v (n) (List.replicate (n) (.int .u64 0)))]] [⟨[16,3,3],[sy 0,.int .i64 65536],none,0,none,sy 0,none⟩,⟨[17,3,3],[.int .i64 0,sy 0],none,0,none,sy 0,none⟩,⟨[19,29],[sy 0,sy 0],none,0,some 407,.complex .f32 407 0,some 1⟩] []) (fc (Ev.row_min (kd:=.i64) (a:=(n:Int)) (b:=65536) (Ev.isSym rfl) Ev.isInt (by show Value.int .i64 (n:Int)=_; rw [show min (n:Int) 65536=n by omega])) (fc (Ev.row_max (kd:=.i64) (a:=0) (b:=(n:Int)) Ev.isInt (Ev.isSym rfl) (by show Value.int .i64 (n:Int)=_; rw [show max 0 (n:Int)=n by omega])) (fc (by obtain ⟨i,i1,i2,i3,i4⟩:=infU64; exact Ev.mk_slice rfl rfl (Ev.isSym rfl) (Ev.isSym rfl) Try.underlying29 i1 i2 i3 rfl (by rw [i4]; omega) (by unfold maxLen; omega)) fn))) fn rfl [] [] [] 1 rfl rfl [(0,sy 0)] (.agg #[.complex .f32 407 0,.int .u64 0])).conv (fun κ w=>⟨(fun _ h=>Ev.undy (a:=fun v=>Ev.slA 30 1 v (n) (List.replicate (n) (.int .u64 0))) (fun _ _ _ _ _ h=>h) h),trivial⟩)
theorem mAll (W0:World) (F0:Nat→Prop) (bm:Nat) (ops c1 c2 c3 c4 c5:Int) (lg cl:Value) (ll:Ev.leafV lg=true) (lc:Ev.leafV cl=true) (xs:List Int) (hx:xs.length≤1000000) (n:Nat) (xl:List Value) : Ev.PieE Try.prog 38 [] 0 10 ⟨W0,F0⟩ [(0,(pz bm))] [Ev.blkA bm [(uz (ops)),(uz (c1)),(uz (c2)),(uz (c3)),(uz (c4)),(uz (c5)),(lg),(cl)] 102,Ev.slA 30 1 (cl) (xs.length) (u64s xs),Ev.slA 109 4 (lg) (n) (xl)] (fun κ:Ev.Ren=>(dv κ 403)) (fun κ:Ev.Ren=>[Ev.blkA bm [(uz (ops)),(uz (c1)),(uz (c2)),(uz (c3)),(uz (c4)),(uz (c5)),(lg),(cl)] 102,Ev.slA 30 1 (dv κ 403) xs.length (u64s xs),Ev.slA 30 1 (cl) (xs.length) (u64s xs),Ev.slA 109 4 (lg) (n) (xl)]):=(trE (c:=⟨W0,F0⟩) 5 (kn [lg,cl,uz (ops),uz (c1),uz (c2),uz (c3),uz (c4),uz (c5)] (fc (by assumption) (fc (by assumption) fr)) [] [] [] fn fn fn W0 F0 [[Ev.slA 30 1 (cl) (xs.length) (u64s xs),Ev.slA 109 4 (lg) (n) (xl)],[Ev.atD 403 (fun v=>Ev.slA 30 1 v xs.length (u64s xs)),Ev.atD 403 (fun v=>Ev.slA 30 1 (cl) (xs.length) (u64s xs)),Ev.slA 109 4 (lg) (n) (xl)]] [] [⟨55,[sy 1],0,some 403,.complex .f32 403 0,some 1⟩]) fn (fc (cd rfl [fun v=>Ev.slA 30 1 v xs.length (u64s xs),fun v=>Ev.slA 30 1 (cl) (xs.length) (u64s xs)] [0] [1] (fun w F ho hn hF=>clone_u64 hx Ev.one_ints hn)) fn) rfl [(4,bm)] [(4,[sy 2,sy 3,sy 4,sy 5,sy 6,sy 7,sy 0,sy 1],102)] [(4,[sy 2,sy 3,sy 4,sy 5,sy 6,sy 7,sy 0,sy 1],102)] 1 rfl rfl [(0,.pointer (some ⟨4,0,none⟩))] (.complex .f32 403 0)).conv (fun κ w=>⟨(fun _ h=>h),(fun _ h=>Ev.undy (a:=fun v=>Ev.slA 30 1 v xs.length (u64s xs)) (fun _ _ _ _ _ h=>h) h),(fun _ h=>Ev.undy (a:=fun v=>Ev.slA 30 1 (cl) (xs.length) (u64s xs)) (fun _ _ _ _ _ h=>h) h),(fun _ h=>h),trivial⟩)
end Go.Proofs.Ytbcnbofkgkheeaa
namespace Go.Proofs.Ytbcnbofkgkheeaa
open Go.RowKit
open Go.Ev (sy)
set_option linter.unusedVariables false
set_option linter.unusedSimpArgs false
set_option maxRecDepth 8000
def memV (v:Value) (m:MemM) : Ev.Asr where
 p:=fun _ F w=>∃ bm,v=.pointer (some ⟨bm,0,none⟩)∧MemAt bm m F w
 keep:=fun _ F w w' hk ⟨bm,e,h⟩=>⟨bm,e,memAt_keep h hk⟩
 mono:=fun _ _ _ _ _ h=>h
theorem hold_memV {v:Value} {m:MemM} {c:Ev.Ctx} {l:List Ev.Asr} {w:World} (h:Ev.Hold c (memV v m::l) w) : ∃ bm,v=.pointer (some ⟨bm,0,none⟩)∧Ev.Hold c (memA bm m::l) w :=
 h.headE (b:=fun bm=>memA bm m) (p:=fun bm=>v=.pointer (some ⟨bm,0,none⟩)) (fun F ⟨bm,e,h⟩=>⟨bm,e,h⟩)
theorem memV_hold {bm:Nat} {m:MemM} {c:Ev.Ctx} {l:List Ev.Asr} {w:World} (h:Ev.Hold c (memA bm m::l) w) : Ev.Hold c (memV (.pointer (some ⟨bm,0,none⟩)) m::l) w :=
 h.head (fun F h=>⟨bm,rfl,h⟩)
theorem u64s_rep (n:Nat) : u64s (List.replicate n 0)=List.replicate n (.int .u64 0):=by simp [u64s]
section
variable {F:Nat→Prop} {w:World}
theorem mem_newH {n:Nat} (hn:n≤65536) (h:Ev.Now [] F w) :
  Calls Try.prog 23 #[.int .i64 (n:Int)] w fun e w'=>∃ v cd,Ev.dec cd=v∧e=.returned v∧Ev.Hold ⟨w,F⟩ [memV v ⟨List.replicate n 0,0⟩] w':=by
 refine startP (mnw w F n hn) (by kernel_rfl) h (by simp) (by simp) (fun κ w1 h1=>⟨_,_,Ev.dec_ptr _ _,rfl,?_⟩)
 refine memV_hold (mem_shut (0,0,0,0,0,.slice none 0 0,Ev.dec ((κ 403).getD 0),0,[]) (Nat.zero_le _) ?_)
 have h2:=h1.nilSl (e := 109) (sz:=4)
 rw [← u64s_rep] at h2
 have h3:=h2.sel [1,2,0] (by kernel_rfl)
 have e:(List.replicate n (0:Int)).length=n:=by simp
 simp only [memL,e]
 exact h3
theorem rNew_ok {n:Nat} (hn:n≤65536) (h:Ev.Now [] F w) :
  Calls Try.prog 30 #[.int .i64 (n:Int)] w fun e w'=>∃ v cd,Ev.dec cd=v∧e=.returned (.agg #[v,.int .u64 0])∧Ev.Hold ⟨w,F⟩ [Ev.slA 30 1 v n (u64s (List.replicate n 0))] w':=by
 refine startP (rnw w F n hn) (by kernel_rfl) h (by simp) (by simp) (fun κ w1 h1=>⟨_,_,rfl,rfl,?_⟩)
 rw [u64s_rep]
 exact h1
theorem mem_allH {bm:Nat} {m:MemM} (hx:m.cells.length≤1000000) (h:Ev.Now [memA bm m] F w) :
  Calls Try.prog 38 #[.pointer (some ⟨bm,0,none⟩)] w fun e w'=>∃ v cd,Ev.dec cd=v∧e=.returned v∧Ev.Hold ⟨w,F⟩ [Ev.slA 30 1 v m.cells.length (u64s m.cells),memA bm m] w':=by
 obtain ⟨⟨c1,c2,c3,c4,c5,lg,cl,n,xl⟩,hn,l1,l2,hh⟩:=mem_open (Ev.Hold.start h)
 obtain ⟨F',n1,n2,n3⟩:=hh.ex
 refine startP (mAll w F' bm m.ops c1 c2 c3 c4 c5 lg cl l1 l2 m.cells hx n xl) (by kernel_rfl) n1 (by simp) (by simp) (fun κ w1 h1=>⟨_,_,rfl,rfl,?_⟩)
 exact (mem_shut (l:=[_]) (c1,c2,c3,c4,c5,lg,cl,n,xl) hn ((h1.into (l:=[]) n2 n3).sel [0,2,3,1] (by kernel_rfl))).sel [1,0] (by kernel_rfl)
end
end Go.Proofs.Ytbcnbofkgkheeaa
