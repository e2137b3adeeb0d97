/- Part of a proof: see the last text. -/
import Derived.Test.YtbcnbofkgkheeaaZp16
import Derived.WalkKit
import Derived.WalkSpells
import Derived.Lib.Walk
import Derived.Lib.SliceRun
import Derived.Deep.LoopGhost
import Derived.Laws.AppendOwn
import Derived.Test.YtbcnbofkgkheeaaZp15
import Derived.Test.YtbcnbofkgkheeaaZp17
namespace Go.Proofs.Ytbcnbofkgkheeaa
open Go.RowKit Go.Lib
open Go.Ev (sy)
set_option linter.unusedVariables false
set_option linter.unusedSimpArgs false
theorem own_hold {l:List Ev.Asr} {e:TypeId} {v':Value} {n:Nat} {xs:List Value} {F:Nat→Prop} {w w':World} (h:Ev.Now l F w) (ho:w'.ownsRow w.heap.size e 1 v' n xs) (hb:Below w.heap.size w w') : ∃ v2 cd,Ev.dec cd=v2∧Ending.returned v'=.returned v2∧Ev.Hold ⟨w,F⟩ (Ev.slA e 1 v2 n xs::l) w':=by
 obtain ⟨hl,ho⟩:=ho
 have key:∃ Fn,Ev.SlV e 1 v' n xs Fn w'∧∀ j,Fn j→w.heap.size≤j:=by
  rcases ho with ⟨rfl,rfl⟩ | ⟨g,cap,cur,rfl,hg,hh,h1,h2,h3,h4⟩
  ·have:xs=[]:=List.eq_nil_of_length_eq_zero (by rw [hl])
   subst this
   exact ⟨fun _=>False,Ev.SlV.nil e 1 w',fun _ h=>h.elim⟩
  ·refine ⟨fun j=>j=g,⟨hl,.inr ⟨g,0,cap,cur,rfl,fun _=>Iff.rfl,hh,fun i hi=>?_,by rw [h3]; omega,h1⟩⟩,fun j hj=>by rw [hj]; exact hg⟩
   rw [← h4,Nat.zero_add,List.getElem?_take_of_lt hi]
   simp
 obtain ⟨Fn,k1,k2⟩:=key
 obtain ⟨cd,hcd⟩:=k1.code
 have hk:Ev.Now l F w':=Ev.now_keep h (fun j hj=>hb.block j (h.lt j hj)) hb.size
 refine ⟨v',cd,hcd,rfl,⟨⟨_,Ev.now_cons (a:=Ev.slA e 1 v' n xs) k1 hk (fun j hj=>Ev.SlV.lt k1 j hj) (fun j hj hf=>?_),⟨hb.os,hb.tape,hb.output,hb.size,fun j hj _=>hb.block j hj⟩,fun j hj=>?_⟩⟩⟩
 ·have:=h.lt j hf
  have:=k2 j hj
  omega
 ·exact hj.elim (fun h=>.inr (k2 j h)) .inl
set_option maxHeartbeats 2000000 in
set_option maxRecDepth 100000 in
theorem clone_int_at (ad:Addr) (n c:Nat) (xs:List Value) (w:World) (hl:xs.length=n) (hn:n≤1000000) (hone:∀ u ∈ xs,u.oneCell'=true) (hc:∀ (j:Nat) u,xs[j]? = some u→w.cell? (ad.add j)=some u) :
  Calls Try.prog 66 #[.slice (some ad) n c] w fun e w'=>∃ v',e=.returned v'∧w'.ownsRow w.heap.size 3 1 v' n xs∧Below w.heap.size w w':=by
 have mixed:=mixed_ok
 obtain ⟨i0,hi,hz1,hz0,hz2⟩:=infInt
 have q22:∀ (w:World) (a:Option Addr) (n c n' c':Nat),(binOp .eql 36 (.slice a n c) (.slice none n' c')).run Try.prog w=.ok (.bool a.isNone) w:=fun w a n c n' c'=>Lib.run_eql_slice_nil w _ _ a n c n' c' Try.underlying36
 have A:Aside (∀ (j:Nat) u,xs[j]? = some u→w.cell? (ad.add j)=some u):=hc
 clear hc
 go_enter Try.func66,Try.ntmps66
 go_wp2_with (at_builtin; refine wpList_append_own _ rfl _ _ 36 rfl w.heap.size 3 i0 (.int .i64 0) 1 8 Try.underlying36 hi hz0 hz1 hz2 rfl (by decide) _ _ _ rfl (World.ownsRow_made w #[] 0 (Nat.le_refl _) (Nat.zero_le _) rfl) ad n c xs rfl ?qc1 ?qc2 ?qc3 ?qc4 ?qc5 ?qc6 ?_)
 case qc1=>simp; omega
 case qc2 =>
  intro j u hj
  refine Lib.cell?_alloc_some _ ?_
  exact A.out j u hj
 case qc3=>exact hone
 case qc4=>unfold maxLen; omega
 case qc5=>omega
 case qc6=>simp
 intro v' w1 hown hgrow hnil
 go_wp2
 go_ret
 refine ⟨v',rfl,by simpa using hown,?_⟩
 exact ((Below.refl _ w).alloc (Nat.le_refl _) _).grown hgrow (by simp) (by intro k hk; simp [Value.ownBlock] at hk; omega)
set_option maxHeartbeats 1000000 in
theorem clone_int_nil (n c:Nat) (w:World) :
  Calls Try.prog 66 #[.slice none n c] w fun e w'=>e=.returned (.slice none 0 0)∧w'=w:=by
 have mixed:=mixed_ok
 have q22:∀ (w:World) (a:Option Addr) (n c n' c':Nat),(binOp .eql 36 (.slice a n c) (.slice none n' c')).run Try.prog w=.ok (.bool a.isNone) w:=fun w a n c n' c'=>Lib.run_eql_slice_nil w _ _ a n c n' c' Try.underlying36
 go_enter Try.func66,Try.ntmps66
 go_wp2
 go_ret
 exact ⟨rfl,rfl⟩
theorem clone_int {v:Value} {n:Nat} {xs:List Value} {F:Nat→Prop} {w:World} (hn:n≤1000000) (hone:∀ u ∈ xs,u.oneCell'=true) (h:Ev.Now [Ev.slA 3 1 v n xs] F w) :
  Calls Try.prog 66 #[v] w fun e w'=>∃ v' cd,Ev.dec cd=v'∧e=.returned v'∧Ev.Hold ⟨w,F⟩ [Ev.slA 3 1 v' n xs,Ev.slA 3 1 v n xs] w':=by
 obtain ⟨Fa,h1,h2⟩:=now_one h
 obtain ⟨hl,hr⟩:=Ev.SlV.ro h1
 rw [Nat.mul_one] at hl
 have some_case:∀ ad c,v=.slice (some ad) n c→(∀ (j:Nat) u,xs[j]? = some u→w.cell? (ad.add j)=some u)→Calls Try.prog 66 #[v] w fun e w'=>∃ v' cd,Ev.dec cd=v'∧e=.returned v'∧Ev.Hold ⟨w,F⟩ [Ev.slA 3 1 v' n xs,Ev.slA 3 1 v n xs] w':=by
  rintro ad c rfl hc
  refine (clone_int_at ad n c xs w hl hn hone hc).mono ?_
  rintro e w' ⟨v',rfl,ho,hb⟩
  exact own_hold h ho hb
 rcases hr with ⟨rfl,a,c,rfl⟩ | ⟨b,off,c,rfl,_,hx⟩
 ·cases a with
  | some a=>exact some_case a c rfl (fun j u hj=>by rw [List.eq_nil_of_length_eq_zero hl] at hj; simp at hj)
  | none =>
   refine (clone_int_nil 0 c w).mono ?_
   rintro e w' ⟨rfl,rfl⟩
   have hx0:xs=[]:=List.eq_nil_of_length_eq_zero hl
   subst hx0
   exact ⟨_,_,(Ev.SlV.nil 3 1 w').code.choose_spec,rfl,(Ev.Hold.start h).nilSl⟩
 ·refine some_case ⟨b,off,none⟩ c rfl (fun j u hj=>?_)
  have hj':=(List.getElem?_eq_some_iff.1 hj).1
  rw [Ev.addMk,hx j (by omega),hj]
set_option maxHeartbeats 2000000 in
set_option maxRecDepth 100000 in
theorem clone_u64_at (ad:Addr) (n c:Nat) (xs:List Value) (w:World) (hl:xs.length=n) (hn:n≤1000000) (hone:∀ u ∈ xs,u.oneCell'=true) (hc:∀ (j:Nat) u,xs[j]? = some u→w.cell? (ad.add j)=some u) :
  Calls Try.prog 55 #[.slice (some ad) n c] w fun e w'=>∃ v',e=.returned v'∧w'.ownsRow w.heap.size 30 1 v' n xs∧Below w.heap.size w w':=by
 have mixed:=mixed_ok
 obtain ⟨i0,hi,hz1,hz0,hz2⟩:=infU64
 have q22:∀ (w:World) (a:Option Addr) (n c n' c':Nat),(binOp .eql 29 (.slice a n c) (.slice none n' c')).run Try.prog w=.ok (.bool a.isNone) w:=fun w a n c n' c'=>Lib.run_eql_slice_nil w _ _ a n c n' c' Try.underlying29
 have A:Aside (∀ (j:Nat) u,xs[j]? = some u→w.cell? (ad.add j)=some u):=hc
 clear hc
 go_enter Try.func55,Try.ntmps55
 go_wp2_with (at_builtin; refine wpList_append_own _ rfl _ _ 29 rfl w.heap.size 30 i0 (.int .u64 0) 1 8 Try.underlying29 hi hz0 hz1 hz2 rfl (by decide) _ _ _ rfl (World.ownsRow_made w #[] 0 (Nat.le_refl _) (Nat.zero_le _) rfl) ad n c xs rfl ?qc1 ?qc2 ?qc3 ?qc4 ?qc5 ?qc6 ?_)
 case qc1=>simp; omega
 case qc2 =>
  intro j u hj
  refine Lib.cell?_alloc_some _ ?_
  exact A.out j u hj
 case qc3=>exact hone
 case qc4=>unfold maxLen; omega
 case qc5=>omega
 case qc6=>simp
 intro v' w1 hown hgrow hnil
 go_wp2
 go_ret
 refine ⟨v',rfl,by simpa using hown,?_⟩
 exact ((Below.refl _ w).alloc (Nat.le_refl _) _).grown hgrow (by simp) (by intro k hk; simp [Value.ownBlock] at hk; omega)
set_option maxHeartbeats 1000000 in
theorem clone_u64_nil (n c:Nat) (w:World) :
  Calls Try.prog 55 #[.slice none n c] w fun e w'=>e=.returned (.slice none 0 0)∧w'=w:=by
 have mixed:=mixed_ok
 have q22:∀ (w:World) (a:Option Addr) (n c n' c':Nat),(binOp .eql 29 (.slice a n c) (.slice none n' c')).run Try.prog w=.ok (.bool a.isNone) w:=fun w a n c n' c'=>Lib.run_eql_slice_nil w _ _ a n c n' c' Try.underlying29
 go_enter Try.func55,Try.ntmps55
 go_wp2
 go_ret
 exact ⟨rfl,rfl⟩
theorem clone_u64 {v:Value} {n:Nat} {xs:List Value} {F:Nat→Prop} {w:World} (hn:n≤1000000) (hone:∀ u ∈ xs,u.oneCell'=true) (h:Ev.Now [Ev.slA 30 1 v n xs] F w) :
  Calls Try.prog 55 #[v] w fun e w'=>∃ v' cd,Ev.dec cd=v'∧e=.returned v'∧Ev.Hold ⟨w,F⟩ [Ev.slA 30 1 v' n xs,Ev.slA 30 1 v n xs] w':=by
 obtain ⟨Fa,h1,h2⟩:=now_one h
 obtain ⟨hl,hr⟩:=Ev.SlV.ro h1
 rw [Nat.mul_one] at hl
 have some_case:∀ ad c,v=.slice (some ad) n c→(∀ (j:Nat) u,xs[j]? = some u→w.cell? (ad.add j)=some u)→Calls Try.prog 55 #[v] w fun e w'=>∃ v' cd,Ev.dec cd=v'∧e=.returned v'∧Ev.Hold ⟨w,F⟩ [Ev.slA 30 1 v' n xs,Ev.slA 30 1 v n xs] w':=by
  rintro ad c rfl hc
  refine (clone_u64_at ad n c xs w hl hn hone hc).mono ?_
  rintro e w' ⟨v',rfl,ho,hb⟩
  exact own_hold h ho hb
 rcases hr with ⟨rfl,a,c,rfl⟩ | ⟨b,off,c,rfl,_,hx⟩
 ·cases a with
  | some a=>exact some_case a c rfl (fun j u hj=>by rw [List.eq_nil_of_length_eq_zero hl] at hj; simp at hj)
  | none =>
   refine (clone_u64_nil 0 c w).mono ?_
   rintro e w' ⟨rfl,rfl⟩
   have hx0:xs=[]:=List.eq_nil_of_length_eq_zero hl
   subst hx0
   exact ⟨_,_,(Ev.SlV.nil 30 1 w').code.choose_spec,rfl,(Ev.Hold.start h).nilSl⟩
 ·refine some_case ⟨b,off,none⟩ c rfl (fun j u hj=>?_)
  have hj':=(List.getElem?_eq_some_iff.1 hj).1
  rw [Ev.addMk,hx j (by omega),hj]
end Go.Proofs.Ytbcnbofkgkheeaa
namespace Go.Proofs.Ytbcnbofkgkheeaa
open Go.RowKit
open Go.Ev (sy iz uz wz iN uN wN pz dv fc fn ak vk vd kn pc cc cr cm cd fr)
set_option linter.unusedVariables false
set_option linter.unusedSimpArgs false
set_option maxRecDepth 8000
attribute [local irreducible] Ev.wpL
theorem mnw (W0:World) (F0:Nat→Prop) (n:Nat) (hn:n≤65536) : Ev.PieE Try.prog 23 [] 0 9 ⟨W0,F0⟩ [(0,(iN (n)))] [] (fun κ:Ev.Ren=>(pz ((κ 404).getD 0))) (fun κ:Ev.Ren=>[Ev.blkA ((κ 404).getD 0) [(.int .u64 0),(.int .u64 0),(.int .u64 0),(.int .u64 0),(.int .u64 0),(.int .u64 0),(.slice none 0 0),(dv κ 403)] 102,Ev.slA 30 1 (dv κ 403) (n) (List.replicate (n) (.int .u64 0))]):=(trE (c:=⟨W0,F0⟩) 3 (kn [iN (n)] fr [] [] [] fn fn fn W0 F0 [[],[Ev.atD 403 (fun v=>Ev.slA 30 1 v (n) (List.replicate (n) (.int .u64 0)))]] [⟨[16,3,3],[sy 0,.int .i64 65536],none,0,none,sy 0,none⟩,⟨[17,3,3],[.int .i64 0,sy 0],none,0,none,sy 0,none⟩,⟨[19,29],[sy 0,sy 0],none,0,some 403,.complex .f32 403 0,some 1⟩] []) (fc (Ev.row_min (kd:=.i64) (a:=(n:Int)) (b:=65536) (Ev.isSym rfl) Ev.isInt (by show Value.int .i64 (n:Int)=_; rw [show min (n:Int) 65536=n by omega])) (fc (Ev.row_max (kd:=.i64) (a:=0) (b:=(n:Int)) Ev.isInt (Ev.isSym rfl) (by show Value.int .i64 (n:Int)=_; rw [show max 0 (n:Int)=n by omega])) (fc (by obtain ⟨i,i1,i2,i3,i4⟩:=infU64; exact Ev.mk_slice rfl rfl (Ev.isSym rfl) (Ev.isSym rfl) Try.underlying29 i1 i2 i3 rfl (by rw [i4]; omega) (by unfold maxLen; omega)) fn))) fn rfl [] [] [(404,[.int .u64 0,.int .u64 0,.int .u64 0,.int .u64 0,.int .u64 0,.int .u64 0,.slice none 0 0,.complex .f32 403 0],102)] 1 rfl rfl [(0,sy 0)] (.pointer (some ⟨404,0,none⟩))).conv (fun κ w=>⟨(fun _ h=>h),(fun _ h=>Ev.undy (a:=fun v=>Ev.slA 30 1 v (n) (List.replicate (n) (.int .u64 0))) (fun _ _ _ _ _ h=>h) h),trivial⟩)
theorem rnw (W0:World) (F0:Nat→Prop) (n:Nat) (hn:n≤65536) : Ev.PieE Try.prog 30 [] 0 8 ⟨W0,F0⟩ [(0,(iN (n)))] [] (fun κ:Ev.Ren=>(.agg #[(dv κ 407),(.int .u64 0)])) (fun κ:Ev.Ren=>[Ev.slA 30 1 (dv κ 407) (n) (List.replicate (n) (.int .u64 0))]):=(trE (c:=⟨W0,F0⟩) 3 (kn [iN (n)] fr [] [] [] fn fn fn W0 F0 [[],[Ev.atD 407 (fun v=>Ev.slA 30 1 v (n) (List.replicate (n) (.int .u64 0)))]] [⟨[16,3,3],[sy 0,.int .i64 65536],none,0,none,sy 0,none⟩,⟨[17,3,3],[.int .i64 0,sy 0],none,0,none,sy 0,none⟩,⟨[19,29],[sy 0,sy 0],none,0,some 407,.complex .f32 407 0,some 1⟩] []) (fc (Ev.row_min (kd:=.i64) (a:=(n:Int)) (b:=65536) (Ev.isSym rfl) Ev.isInt (by show Value.int .i64 (n:Int)=_; rw [show min (n:Int) 65536=n by omega])) (fc (Ev.row_max (kd:=.i64) (a:=0) (b:=(n:Int)) Ev.isInt (Ev.isSym rfl) (by show Value.int .i64 (n:Int)=_; rw [show max 0 (n:Int)=n by omega])) (fc (by obtain ⟨i,i1,i2,i3,i4⟩:=infU64; exact Ev.mk_slice rfl rfl (Ev.isSym rfl) (Ev.isSym rfl) Try.underlying29 i1 i2 i3 rfl (by rw [i4]; omega) (by unfold maxLen; omega)) fn))) fn rfl [] [] [] 1 rfl rfl [(0,sy 0)] (.agg #[.complex .f32 407 0,.int .u64 0])).conv (fun κ w=>⟨(fun _ h=>Ev.undy (a:=fun v=>Ev.slA 30 1 v (n) (List.replicate (n) (.int .u64 0))) (fun _ _ _ _ _ h=>h) h),trivial⟩)
theorem mAll (W0:World) (F0:Nat→Prop) (bm:Nat) (ops c1 c2 c3 c4 c5:Int) (lg cl:Value) (ll:Ev.leafV lg=true) (lc:Ev.leafV cl=true) (xs:List Int) (hx:xs.length≤1000000) (n:Nat) (xl:List Value) : Ev.PieE Try.prog 38 [] 0 10 ⟨W0,F0⟩ [(0,(pz bm))] [Ev.blkA bm [(uz (ops)),(uz (c1)),(uz (c2)),(uz (c3)),(uz (c4)),(uz (c5)),(lg),(cl)] 102,Ev.slA 30 1 (cl) (xs.length) (u64s xs),Ev.slA 109 4 (lg) (n) (xl)] (fun κ:Ev.Ren=>(dv κ 403)) (fun κ:Ev.Ren=>[Ev.blkA bm [(uz (ops)),(uz (c1)),(uz (c2)),(uz (c3)),(uz (c4)),(uz (c5)),(lg),(cl)] 102,Ev.slA 30 1 (dv κ 403) xs.length (u64s xs),Ev.slA 30 1 (cl) (xs.length) (u64s xs),Ev.slA 109 4 (lg) (n) (xl)]):=(trE (c:=⟨W0,F0⟩) 5 (kn [lg,cl,uz (ops),uz (c1),uz (c2),uz (c3),uz (c4),uz (c5)] (fc (by assumption) (fc (by assumption) fr)) [] [] [] fn fn fn W0 F0 [[Ev.slA 30 1 (cl) (xs.length) (u64s xs),Ev.slA 109 4 (lg) (n) (xl)],[Ev.atD 403 (fun v=>Ev.slA 30 1 v xs.length (u64s xs)),Ev.atD 403 (fun v=>Ev.slA 30 1 (cl) (xs.length) (u64s xs)),Ev.slA 109 4 (lg) (n) (xl)]] [] [⟨55,[sy 1],0,some 403,.complex .f32 403 0,some 1⟩]) fn (fc (cd rfl [fun v=>Ev.slA 30 1 v xs.length (u64s xs),fun v=>Ev.slA 30 1 (cl) (xs.length) (u64s xs)] [0] [1] (fun w F ho hn hF=>clone_u64 hx Ev.one_ints hn)) fn) rfl [(4,bm)] [(4,[sy 2,sy 3,sy 4,sy 5,sy 6,sy 7,sy 0,sy 1],102)] [(4,[sy 2,sy 3,sy 4,sy 5,sy 6,sy 7,sy 0,sy 1],102)] 1 rfl rfl [(0,.pointer (some ⟨4,0,none⟩))] (.complex .f32 403 0)).conv (fun κ w=>⟨(fun _ h=>h),(fun _ h=>Ev.undy (a:=fun v=>Ev.slA 30 1 v xs.length (u64s xs)) (fun _ _ _ _ _ h=>h) h),(fun _ h=>Ev.undy (a:=fun v=>Ev.slA 30 1 (cl) (xs.length) (u64s xs)) (fun _ _ _ _ _ h=>h) h),(fun _ h=>h),trivial⟩)
end Go.Proofs.Ytbcnbofkgkheeaa
namespace Go.Proofs.Ytbcnbofkgkheeaa
open Go.RowKit
open Go.Ev (sy)
set_option linter.unusedVariables false
set_option linter.unusedSimpArgs false
set_option maxRecDepth 8000
def memV (v:Value) (m:MemM) : Ev.Asr where
 p:=fun _ F w=>∃ bm,v=.pointer (some ⟨bm,0,none⟩)∧MemAt bm m F w
 keep:=fun _ F w w' hk ⟨bm,e,h⟩=>⟨bm,e,memAt_keep h hk⟩
 mono:=fun _ _ _ _ _ h=>h
theorem hold_memV {v:Value} {m:MemM} {c:Ev.Ctx} {l:List Ev.Asr} {w:World} (h:Ev.Hold c (memV v m::l) w) : ∃ bm,v=.pointer (some ⟨bm,0,none⟩)∧Ev.Hold c (memA bm m::l) w :=
 h.headE (b:=fun bm=>memA bm m) (p:=fun bm=>v=.pointer (some ⟨bm,0,none⟩)) (fun F ⟨bm,e,h⟩=>⟨bm,e,h⟩)
theorem memV_hold {bm:Nat} {m:MemM} {c:Ev.Ctx} {l:List Ev.Asr} {w:World} (h:Ev.Hold c (memA bm m::l) w) : Ev.Hold c (memV (.pointer (some ⟨bm,0,none⟩)) m::l) w :=
 h.head (fun F h=>⟨bm,rfl,h⟩)
theorem u64s_rep (n:Nat) : u64s (List.replicate n 0)=List.replicate n (.int .u64 0):=by simp [u64s]
section
variable {F:Nat→Prop} {w:World}
theorem mem_newH {n:Nat} (hn:n≤65536) (h:Ev.Now [] F w) :
  Calls Try.prog 23 #[.int .i64 (n:Int)] w fun e w'=>∃ v cd,Ev.dec cd=v∧e=.returned v∧Ev.Hold ⟨w,F⟩ [memV v ⟨List.replicate n 0,0⟩] w':=by
 refine startP (mnw w F n hn) (by kernel_rfl) h (by simp) (by simp) (fun κ w1 h1=>⟨_,_,Ev.dec_ptr _ _,rfl,?_⟩)
 refine memV_hold (mem_shut (0,0,0,0,0,.slice none 0 0,Ev.dec ((κ 403).getD 0),0,[]) (Nat.zero_le _) ?_)
 have h2:=h1.nilSl (e := 109) (sz:=4)
 rw [← u64s_rep] at h2
 have h3:=h2.sel [1,2,0] (by kernel_rfl)
 have e:(List.replicate n (0:Int)).length=n:=by simp
 simp only [memL,e]
 exact h3
theorem rNew_ok {n:Nat} (hn:n≤65536) (h:Ev.Now [] F w) :
  Calls Try.prog 30 #[.int .i64 (n:Int)] w fun e w'=>∃ v cd,Ev.dec cd=v∧e=.returned (.agg #[v,.int .u64 0])∧Ev.Hold ⟨w,F⟩ [Ev.slA 30 1 v n (u64s (List.replicate n 0))] w':=by
 refine startP (rnw w F n hn) (by kernel_rfl) h (by simp) (by simp) (fun κ w1 h1=>⟨_,_,rfl,rfl,?_⟩)
 rw [u64s_rep]
 exact h1
theorem ops_read {bm:Nat} {ops:Int} (w:World) (h:w.cell? ⟨bm,0,none⟩=some (.int .u64 ops)) :
  Calls Try.prog 45 #[.pointer (some ⟨bm,0,none⟩)] w fun e w'=>e=.returned (.int .u64 ops)∧w=w':=by
 go_enter Try.func45,Try.ntmps45
 go_wp2
 go_ret
 exact ⟨rfl,rfl⟩
theorem len_read {bm n c:Nat} {a:Option Addr} (w:World) (h:w.cell? ⟨bm,7,none⟩=some (.slice a n c)) :
  Calls Try.prog 58 #[.pointer (some ⟨bm,0,none⟩)] w fun e w'=>e=.returned (.int .i64 (n:Int))∧w=w':=by
 go_enter Try.func58,Try.ntmps58
 go_wp2
 go_ret
 exact ⟨rfl,rfl⟩
theorem mem_opsR {bm:Nat} {m:MemM} (h:Ev.Now [memA bm m] F w) :
  Calls Try.prog 45 #[.pointer (some ⟨bm,0,none⟩)] w fun e w'=>e=.returned (.int .u64 m.ops)∧Below w.heap.size w w':=by
 obtain ⟨Fa,⟨c1,c2,c3,c4,c5,lg,cl,n,G,hn,hb,h3,h4,h5⟩,h2⟩:=now_one h
 refine (ops_read w (ops:=m.ops) (by simp [World.cell?,hb])).mono ?_
 rintro e w' ⟨rfl,rfl⟩
 exact ⟨rfl,Below.refl _ _⟩
theorem mem_lenR {bm:Nat} {m:MemM} (h:Ev.Now [memA bm m] F w) :
  Calls Try.prog 58 #[.pointer (some ⟨bm,0,none⟩)] w fun e w'=>e=.returned (.int .i64 (m.cells.length:Int))∧Below w.heap.size w w':=by
 obtain ⟨Fa,⟨c1,c2,c3,c4,c5,lg,cl,n,G,hn,hb,⟨v,xl,Fl,Fc,e1,e2,e3,e4,e5⟩,h4,h5⟩,h2⟩:=now_one h
 have hcl:∃ a c,cl=.slice a m.cells.length c:=by
  obtain ⟨q1,⟨q2,q3,q4⟩ | ⟨b,off,c,arr,q2,_⟩⟩:=e3
  ·obtain ⟨a,rfl⟩:=q2.base
   exact ⟨a,0,by rw [q3]⟩
  ·exact ⟨_,c,q2⟩
 obtain ⟨a,c,rfl⟩:=hcl
 refine (len_read w (bm:=bm) (a:=a) (n:=m.cells.length) (c:=c) (by simp [World.cell?,hb])).mono ?_
 rintro e w' ⟨rfl,rfl⟩
 exact ⟨rfl,Below.refl _ _⟩
theorem mem_allH {bm:Nat} {m:MemM} (hx:m.cells.length≤1000000) (h:Ev.Now [memA bm m] F w) :
  Calls Try.prog 38 #[.pointer (some ⟨bm,0,none⟩)] w fun e w'=>∃ v cd,Ev.dec cd=v∧e=.returned v∧Ev.Hold ⟨w,F⟩ [Ev.slA 30 1 v m.cells.length (u64s m.cells),memA bm m] w':=by
 obtain ⟨⟨c1,c2,c3,c4,c5,lg,cl,n,xl⟩,hn,l1,l2,hh⟩:=mem_open (Ev.Hold.start h)
 obtain ⟨F',n1,n2,n3⟩:=hh.ex
 refine startP (mAll w F' bm m.ops c1 c2 c3 c4 c5 lg cl l1 l2 m.cells hx n xl) (by kernel_rfl) n1 (by simp) (by simp) (fun κ w1 h1=>⟨_,_,rfl,rfl,?_⟩)
 exact (mem_shut (l:=[_]) (c1,c2,c3,c4,c5,lg,cl,n,xl) hn ((h1.into (l:=[]) n2 n3).sel [0,2,3,1] (by kernel_rfl))).sel [1,0] (by kernel_rfl)
end
end Go.Proofs.Ytbcnbofkgkheeaa
namespace Go.Proofs.Ytbcnbofkgkheeaa
open Go.RowKit
open Go.Ev (sy iz uz wz iN uN wN pz dv fc fn ak vk vd kn pc cc cr cm cd fr)
set_option linter.unusedVariables false
set_option linter.unusedSimpArgs false
set_option maxRecDepth 8000
attribute [local irreducible] Ev.wpL
abbrev dm1a1 (cv:Value) (us:List Int) : Ev.Asr:=Ev.slA 30 1 (cv) (us.length) (u64s us)
abbrev dm1a12 (m:MemM) (rv:Value) : Ev.Asr:=Ev.slA 30 1 (rv) (m.cells.length) (u64s m.cells)
abbrev dm1a13 (cv:Value) (us:List Int) (bm:Nat) (m:MemM) (rv:Value) : List Ev.Asr:=[(dm1a1 cv us),memA bm m,(dm1a12 m rv)]
abbrev dm1a20 (cv:Value) (us:List Int) (bm:Nat) (b5:Nat) (b3:Nat) (m:MemM) (rv:Value) : List Ev.Asr:=[Ev.blkA b5 [(rv),(uz (m.ops))] 32,Ev.blkA b3 [(.slice none 0 0),(.int .u64 0)] 32,(dm1a1 cv us),memA bm m,(dm1a12 m rv)]
abbrev dm1a23:List Ev.Blk:=[(4,[sy 1,sy 4],32),(8,[.slice none 0 0,.int .u64 0],32)]
abbrev dm1a25:List (Nat×Value):=[(0,sy 0),(3,.pointer (some ⟨8,0,none⟩)),(4,sy 2),(5,.pointer (some ⟨4,0,none⟩))]
theorem dmA (W0:World) (F0:Nat→Prop) (cv:Value) (lcv:Ev.leafV cv=true) (us:List Int) (hu:us.length≤1000) : Ev.Pie Try.prog 9 [] 0 3 42 ⟨W0,F0⟩ [(0,(cv))] [(dm1a1 cv us)] .normal (fun κ:Ev.Ren=>[(0,(cv)),(3,(pz ((κ 400).getD 0))),(4,(dv κ 407)),(5,(pz ((κ 412).getD 0))),(6,(.int .i64 0))]) (fun κ:Ev.Ren=>[Ev.blkA ((κ 400).getD 0) [(.slice none 0 0),(.int .u64 0)] 32,Ev.blkA ((κ 412).getD 0) [(dv κ 411),(.int .u64 0)] 32,Ev.slA 30 1 (dv κ 411) us.length (u64s (List.replicate us.length 0)),memV (dv κ 407) ⟨List.replicate us.length 0,0⟩,(dm1a1 cv us)]):=(tr (c:=⟨W0,F0⟩) (kn [cv,iN (us.length)] (fc (by assumption) fr) [] [] [] fn fn fn W0 F0 [[(dm1a1 cv us)],[Ev.atD 407 (fun v=>memV v ⟨List.replicate us.length 0,0⟩),(dm1a1 cv us)],[Ev.atD 411 (fun v=>Ev.slA 30 1 v us.length (u64s (List.replicate us.length 0))),Ev.atD 407 (fun v=>memV v ⟨List.replicate us.length 0,0⟩),(dm1a1 cv us)]] [⟨[10,29],[sy 0],none,0,none,sy 1,none⟩,⟨[10,29],[sy 0],none,1,none,sy 1,none⟩] [⟨23,[sy 1],0,some 407,.complex .f32 407 0,some 1⟩,⟨30,[sy 1],1,some 411,.agg #[.complex .f32 411 0,.int .u64 0],some 2⟩]) (fc (by obtain ⟨i,i1,i2,i3,i4⟩:=infU64; exact Ev.sl_len (ci:=1) rfl rfl Try.underlying29 i2 rfl rfl) (fc (by obtain ⟨i,i1,i2,i3,i4⟩:=infU64; exact Ev.sl_len (ci:=2) rfl rfl Try.underlying29 i2 rfl rfl) fn)) (fc (by have q1:=hu; exact cd rfl [fun v=>memV v ⟨List.replicate us.length 0,0⟩] [] [0] (fun w F ho hn hF=>mem_newH (by omega) hn)) (fc (by have q1:=hu; exact cd rfl [fun v=>Ev.slA 30 1 v us.length (u64s (List.replicate us.length 0))] [] [0,1] (fun w F ho hn hF=>rNew_ok (by omega) hn)) fn)) rfl [] [] [(400,[.slice none 0 0,.int .u64 0],32),(412,[.complex .f32 411 0,.int .u64 0],32)] 2 rfl rfl [(0,sy 0)] [(0,sy 0),(3,.pointer (some ⟨400,0,none⟩)),(4,.complex .f32 407 0),(5,.pointer (some ⟨412,0,none⟩)),(6,.int .i64 0)] .normal).conv (fun κ w=>⟨(fun _ h=>h),(fun _ h=>h),(fun _ h=>Ev.undy (a:=fun v=>Ev.slA 30 1 v us.length (u64s (List.replicate us.length 0))) (fun _ _ _ _ _ h=>h) h),(fun _ h=>Ev.undy (a:=fun v=>memV v ⟨List.replicate us.length 0,0⟩) (fun _ _ _ _ _ h=>h) h),(fun _ h=>h),trivial⟩)
theorem dmB (W0:World) (F0:Nat→Prop) (cv:Value) (lcv:Ev.leafV cv=true) (us:List Int) (hu:us.length≤1000) (bm b5 b3:Nat) (m:MemM) (rv:Value) (lrv:Ev.leafV rv=true) (hm:m.cells.length=us.length) (j:Nat) (hj:j < us.length) (x:Int) (hx:us[j]? = some x) : Ev.Pie Try.prog 9 [6,0] 0 4 42 ⟨W0,F0⟩ [(0,(cv)),(3,(pz b3)),(4,(pz bm)),(5,(pz b5)),(6,(iN (j)))] (dm1a20 cv us bm b5 b3 m rv) .normal (fun κ:Ev.Ren=>[(0,(cv)),(3,(pz b3)),(4,(pz bm)),(5,(pz b5)),(6,(iN ((j)+1)))]) (fun κ:Ev.Ren=>[Ev.blkA b5 [(dv κ 407),(uz (IntKind.u64.wrap (m.ops+1)))] 32,Ev.blkA b3 [(.slice none 0 0),(.int .u64 0)] 32,Ev.slA 30 1 (dv κ 407) m.cells.length (u64s (m.cells.set j x)),memA bm (m.put j x),(dm1a1 cv us)]):=(tr (c:=⟨W0,F0⟩) (kn [cv,rv,Ev.ptrR (cv) ((j) * 1),pz bm,iN (j),uz (m.ops),iN (us.length),iN (m.cells.length),uz (x),uz (IntKind.u64.wrap (m.ops+1)),iN ((j)+1)] (fc (by assumption) (fc (by assumption) (fc (Ev.ptrR_leaf _ _) fr))) [(.lss,sy 4,sy 6,.bool true),(.lss,sy 4,sy 7,.bool true),(.add,sy 4,.int .i64 1,sy 10)] [] [] (fc (fun _ _ _=>Ev.bt_lss (by have q1:=hu; have q2:=hm; first | (simp; done) | (simp; omega))) (fc (fun _ _ _=>Ev.bt_lss (by have q1:=hu; have q2:=hm; first | (simp; done) | (simp; omega))) (fc (fun _ _ _=>Ev.bt_add (by have q1:=hu; have q2:=hm; rw [wrap_ok (by omega) (by omega)]; omega)) fn))) fn fn W0 F0 [(dm1a13 cv us bm m rv),[memA bm (m.put j x),(dm1a1 cv us),(dm1a12 m rv)],[Ev.atD 407 (fun v=>Ev.slA 30 1 v m.cells.length (u64s (m.cells.set j x))),memA bm (m.put j x),(dm1a1 cv us)]] [⟨[10,29],[sy 0],none,0,none,sy 6,none⟩,⟨[10,29],[sy 1],none,0,none,sy 7,none⟩,⟨[3,29],[sy 0,sy 4],none,0,none,sy 2,none⟩,⟨[1,30],[sy 2],none,0,none,sy 8,none⟩,⟨[3,29],[sy 0,sy 4],none,1,none,sy 2,none⟩,⟨[1,30],[sy 2],none,1,none,sy 8,none⟩] [⟨25,[sy 3,sy 4,sy 8],0,none,.tuple #[],some 1⟩,⟨31,[.agg #[sy 1,sy 5],sy 4,sy 8],1,some 407,.agg #[.complex .f32 407 0,sy 9],some 2⟩]) (fc (by obtain ⟨i,i1,i2,i3,i4⟩:=infU64; exact Ev.sl_len (ci:=1) rfl rfl Try.underlying29 i2 rfl rfl) (fc (by obtain ⟨i,i1,i2,i3,i4⟩:=infU64; exact Ev.sl_len (ci:=3) rfl rfl Try.underlying29 i2 rfl rfl) (fc (by obtain ⟨i,i1,i2,i3,i4⟩:=infU64; have q1:=hu; have q2:=hm; exact Ev.sl_index (ci:=1) (j:=(j)) rfl rfl Try.underlying29 i1 i2 rfl rfl (by omega) rfl) (fc (by have q1:=hu; have q2:=hm; exact Ev.sl_load (ci:=1) (m:=(j) * 1) (x:=(uz (x))) rfl rfl loadU64 (by simp [u64s,List.getElem?_map,hx]) (by simp; omega) rfl (fun ι=>(vk (by kernel_rfl) (by kernel_rfl)))) (fc (by obtain ⟨i,i1,i2,i3,i4⟩:=infU64; have q1:=hu; have q2:=hm; exact Ev.sl_index (ci:=2) (j:=(j)) rfl rfl Try.underlying29 i1 i2 rfl rfl (by omega) rfl) (fc (by have q1:=hu; have q2:=hm; exact Ev.sl_load (ci:=2) (m:=(j) * 1) (x:=(uz (x))) rfl rfl loadU64 (by simp [u64s,List.getElem?_map,hx]) (by simp; omega) rfl (fun ι=>(vk (by kernel_rfl) (by kernel_rfl)))) fn)))))) (fc (cc rfl [memA bm (m.put j x)] [1] [0,2] (fun w F ho hn hF=>mem_storeH hn (by have q1:=hu; have q2:=hm; omega) (by have q1:=hu; have q2:=hm; omega) x)) (fc (cd rfl [fun v=>Ev.slA 30 1 v m.cells.length (u64s (m.cells.set j x))] [2] [0,1] (fun w F ho hn hF=>rStore_ok lrv (by have q1:=hu; have q2:=hm; omega) m.ops (by have q1:=hu; have q2:=hm; omega) x hn)) fn)) rfl [(4,b5),(8,b3)] [(4,[sy 1,sy 5],32),(8,[.slice none 0 0,.int .u64 0],32)] [(4,[.complex .f32 407 0,sy 9],32),(8,[.slice none 0 0,.int .u64 0],32)] 2 rfl rfl [(0,sy 0),(3,.pointer (some ⟨8,0,none⟩)),(4,sy 3),(5,.pointer (some ⟨4,0,none⟩)),(6,sy 4)] [(0,sy 0),(3,.pointer (some ⟨8,0,none⟩)),(4,sy 3),(5,.pointer (some ⟨4,0,none⟩)),(6,sy 10)] .normal).conv (fun κ w=>⟨(fun _ h=>h),(fun _ h=>h),(fun _ h=>Ev.undy (a:=fun v=>Ev.slA 30 1 v m.cells.length (u64s (m.cells.set j x))) (fun _ _ _ _ _ h=>h) h),(fun _ h=>h),(fun _ h=>h),trivial⟩)
theorem dmC (W0:World) (F0:Nat→Prop) (cv:Value) (lcv:Ev.leafV cv=true) (us:List Int) (hu:us.length≤1000) (bm b5 b3:Nat) (m:MemM) (rv:Value) (lrv:Ev.leafV rv=true) (hm:m.cells.length=us.length) (j:Nat) (hj:j=us.length) : Ev.Pie Try.prog 9 [6,0] 0 4 42 ⟨W0,F0⟩ [(0,(cv)),(3,(pz b3)),(4,(pz bm)),(5,(pz b5)),(6,(iN (j)))] (dm1a20 cv us bm b5 b3 m rv) (.exit 0) (fun κ:Ev.Ren=>[(0,(cv)),(3,(pz b3)),(4,(pz bm)),(5,(pz b5))]) (fun κ:Ev.Ren=>(dm1a20 cv us bm b5 b3 m rv)):=(tr (c:=⟨W0,F0⟩) (kn [cv,rv,pz bm,iN (j),uz (m.ops),iN (us.length)] (fc (by assumption) (fc (by assumption) fr)) [(.lss,sy 3,sy 5,.bool false)] [] [] (fc (fun _ _ _=>Ev.bt_lss (by have q1:=hu; have q2:=hm; first | (simp; done) | (simp; omega))) fn) fn fn W0 F0 [(dm1a13 cv us bm m rv)] [⟨[10,29],[sy 0],none,0,none,sy 5,none⟩] []) (fc (by obtain ⟨i,i1,i2,i3,i4⟩:=infU64; exact Ev.sl_len (ci:=1) rfl rfl Try.underlying29 i2 rfl rfl) fn) fn rfl [(4,b5),(8,b3)] dm1a23 dm1a23 0 rfl rfl [(0,sy 0),(3,.pointer (some ⟨8,0,none⟩)),(4,sy 2),(5,.pointer (some ⟨4,0,none⟩)),(6,sy 3)] dm1a25 (.exit 0))
theorem dmD (W0:World) (F0:Nat→Prop) (cv:Value) (lcv:Ev.leafV cv=true) (us:List Int) (hu:us.length≤1000) (bm b5 b3:Nat) (m:MemM) (rv:Value) (lrv:Ev.leafV rv=true) (hm:m.cells.length=us.length) (j:Nat) : Ev.PieE Try.prog 9 [] 4 42 ⟨W0,F0⟩ [(0,(cv)),(3,(pz b3)),(4,(pz bm)),(5,(pz b5))] (dm1a20 cv us bm b5 b3 m rv) (fun κ:Ev.Ren=>(.tuple #[(pz bm),(.agg #[(rv),(uz (m.ops))])])) (fun κ:Ev.Ren=>[Ev.blkA b5 [(rv),(uz (m.ops))] 32,Ev.blkA b3 [(rv),(uz (m.ops))] 32,(dm1a1 cv us),memA bm m,(dm1a12 m rv)]):=(trE (c:=⟨W0,F0⟩) 2 (kn [cv,rv,pz bm,iN (j),uz (m.ops)] (fc (by assumption) (fc (by assumption) fr)) [] [] [] fn fn fn W0 F0 [(dm1a13 cv us bm m rv)] [] []) fn fn rfl [(4,b5),(8,b3)] dm1a23 [(4,[sy 1,sy 4],32),(8,[sy 1,sy 4],32)] 0 rfl rfl dm1a25 (.tuple #[sy 2,.agg #[sy 1,sy 4]]))
end Go.Proofs.Ytbcnbofkgkheeaa
namespace Go.Proofs.Ytbcnbofkgkheeaa
open Go.RowKit
open Go.Ev (sy)
set_option linter.unusedVariables false
set_option linter.unusedSimpArgs false
set_option maxRecDepth 8000
theorem wrapu_ok {n:Int} (h1:0≤n) (h2:n≤18446744073709551615) : IntKind.u64.wrap n=n:=by
 unfold IntKind.wrap
 simp [IntKind.signed,IntKind.bits]
 omega
theorem hold_code {c:Ev.Ctx} {e:TypeId} {sz n:Nat} {v:Value} {xs:List Value} {l:List Ev.Asr} {w:World} (h:Ev.Hold c (Ev.slA e sz v n xs::l) w) : ∃ cd,Ev.dec cd=v:=by
 obtain ⟨f,hf⟩:=h.first
 exact Ev.SlV.code hf
theorem docs_mem {w:World} {F:Nat→Prop} {cv:Value} (lcv:Ev.leafV cv=true) {us:List Int} (hu:us.length≤1000) (h:Ev.Now [Ev.slA 30 1 cv us.length (u64s us)] F w) :
  Calls Try.prog 9 #[cv] w fun e w'=>∃ v cd,Ev.dec cd=v∧e=.returned (.tuple #[Ev.subV 0 v,.agg #[Ev.subV 1 v,.int .u64 ((us.length:Nat) : Int)]])∧Ev.Hold ⟨w,F⟩ [memV (Ev.subV 0 v) ⟨us,((us.length:Nat) : Int)⟩,Ev.slA 30 1 (Ev.subV 1 v) us.length (u64s us)] w':=by
 refine Ev.con_start (N:=42) (tm:=[(0,cv)]) (by kernel_rfl) h (by simp) (by simp) (fun A hA=>?_)
 refine dmA w F cv lcv us hu A w _ hA ?_
 intro κ A1 w1 h1
 dsimp only at h1
 have hsel:=h1.hold.sel [3,0,1,2,4] (by kernel_rfl)
 obtain ⟨bm,e4,h2⟩:=hold_memV hsel
 have ht:=h1.tm
 rw [e4] at ht
 generalize (κ 400).getD 0=b3 at ht h2
 generalize (κ 412).getD 0=b5 at ht h2
 refine Ev.in_block (id:=0) (by kernel_rfl) ?_
 refine Ev.loop_st (by kernel_rfl) (fun (x:Nat×MemM×Value) A w'=>Ev.At ⟨w,F⟩ 42 [(0,cv),(3,.pointer (some ⟨b3,0,none⟩)),(4,.pointer (some ⟨bm,0,none⟩)),(5,.pointer (some ⟨b5,0,none⟩)),(6,.int .i64 ((x.1:Nat) : Int))] [Ev.blkA b5 [x.2.2,.int .u64 x.2.1.ops] 32,Ev.blkA b3 [.slice none 0 0,.int .u64 0] 32,Ev.slA 30 1 cv us.length (u64s us),memA bm x.2.1,Ev.slA 30 1 x.2.2 x.2.1.cells.length (u64s x.2.1.cells)] A w'∧x.1≤us.length∧x.2.1.cells.length=us.length∧x.2.1.ops=((x.1:Nat) : Int)∧∀ i,i < x.1→x.2.1.cells[i]? = us[i]?) (fun x=>us.length - x.1) (x:=(0,⟨List.replicate us.length 0,0⟩,Ev.dec ((κ 411).getD 0))) ⟨⟨h1.sz,h1.df,ht,?_⟩,Nat.zero_le _,by simp,rfl,fun i hi=>absurd hi (Nat.not_lt_zero _)⟩ ?_
 ·have h3:=h2.sel [2,1,4,0,3] (by kernel_rfl)
  have e:(List.replicate us.length (0:Int)).length=us.length:=by simp
  simp only [e]
  exact h3
 clear ht h2 hsel e4 h1 hA A1 w1
 rintro ⟨j,m,rv⟩ A1 w1 ⟨h1,hj,hm,ho,hc⟩
 replace hj:j≤us.length:=hj
 replace hm:m.cells.length=us.length:=hm
 replace ho:m.ops=((j:Nat) : Int):=ho
 replace hc:∀ i,i < j→m.cells[i]? = us[i]?:=hc
 have lrv:Ev.leafV rv=true:=hold_leaf (h1.hold.sel [4] (by kernel_rfl))
 by_cases hlt:j < us.length
 ·refine dmB w F cv lcv us hu bm b5 b3 m rv lrv hm j hlt us[j] (List.getElem?_eq_getElem hlt) A1 w1 _ h1 ?_
  intro κ' A2 w2 h2
  refine Ev.wpL_nil (by kernel_rfl) ⟨(j+1,m.put j us[j],Ev.dec ((κ' 407).getD 0)),⟨⟨h2.sz,h2.df,h2.tm,?_⟩,hlt,by show (m.cells.set j us[j]).length=_; simp [hm],?_,fun i hi=>?_⟩,by show us.length - (j+1) < us.length - j; omega⟩
  ·have h3:=h2.hold.sel [0,1,4,3,2] (by kernel_rfl)
   have e:(m.put j us[j]).cells.length=m.cells.length:=by show (m.cells.set j us[j]).length=_; simp
   simp only [e]
   exact h3
  ·show IntKind.u64.wrap (m.ops+1)=((j+1:Nat) : Int)
   rw [ho,wrapu_ok (by omega) (by omega)]
   omega
  ·show (m.cells.set j us[j])[i]? = us[i]?
   replace hi:i < j+1:=hi
   rcases Nat.lt_or_ge i j with h | h
   ·rw [List.getElem?_set_ne (by omega)]
    exact hc i h
   ·obtain rfl:i=j:=by omega
    rw [List.getElem?_set_self (by omega),List.getElem?_eq_getElem hlt]
 ·obtain rfl:j=us.length:=by omega
  have ec:m.cells=us:=by
   apply List.ext_getElem?
   intro i
   rcases Nat.lt_or_ge i us.length with h | h
   ·exact hc i h
   ·rw [List.getElem?_eq_none (by omega),List.getElem?_eq_none h]
  obtain ⟨cs,ops⟩:=m
  replace ec:cs=us:=ec
  replace ho:ops=_:=ho
  subst ec
  subst ho
  refine dmC w F cv lcv cs hu bm b5 b3 ⟨cs,_⟩ rv lrv hm cs.length rfl A1 w1 _ h1 ?_
  intro κ' A2 w2 h2
  refine dmD w F cv lcv cs hu bm b5 b3 ⟨cs,_⟩ rv lrv hm cs.length A2 w2 _ h2 ?_
  intro κ'' w3 h3
  obtain ⟨cd,ecd⟩:=hold_code (h3.sel [4] (by kernel_rfl))
  refine ⟨_,_,Ev.dec_u64 (Ev.prn (Ev.prn 1 (Ev.prn bm 0)) (Ev.prn cd 0)),?_,?_⟩
  ·rw [Ev.subV0,Ev.subV1,Ev.dec_ptr,ecd]
  ·rw [Ev.subV0,Ev.subV1,Ev.dec_ptr,ecd]
   exact memV_hold (h3.sel [3,4] (by kernel_rfl))
end Go.Proofs.Ytbcnbofkgkheeaa
namespace Go.Proofs.Ytbcnbofkgkheeaa
open Go.RowKit
open Go.Ev (sy iz uz wz iN uN wN pz dv fc fn ak vk vd kn pc cc cr cm cd fr)
set_option linter.unusedVariables false
set_option linter.unusedSimpArgs false
set_option maxRecDepth 8000
attribute [local irreducible] Ev.wpL
abbrev sm1a18 (a:Value) (b:Value) (xs:List Int) (ys:List Int) : List Ev.Asr:=[Ev.slA 3 1 (a) (xs.length) (ints xs),Ev.slA 3 1 (b) (ys.length) (ints ys)]
abbrev sm1a23 (a:Value) (b:Value) (xs:List Int) (ys:List Int) (us:List Int) : List Ev.Asr:=[Ev.slA 3 1 (a) (xs.length) (ints us),Ev.slA 3 1 (b) (ys.length) (ints ys)]
abbrev sm1a30 (b:Value) (ys:List Int) : Ev.Asr:=Ev.slA 30 1 (b) (ys.length) (u64s ys)
abbrev sm1a31 (a:Value) (b:Value) (xs:List Int) (ys:List Int) : List Ev.Asr:=[Ev.slA 30 1 (a) (xs.length) (u64s xs),(sm1a30 b ys)]
abbrev sm1a33 (a:Value) (b:Value) (xs:List Int) (ys:List Int) (us:List Int) : List Ev.Asr:=[Ev.slA 30 1 (a) (xs.length) (u64s us),(sm1a30 b ys)]
theorem siAY (W0:World) (F0:Nat→Prop) (a b:Value) (la:Ev.leafV a=true) (lb:Ev.leafV b=true) (xs ys:List Int) (hx:xs.length≤1000000) (hy:ys.length≤1000000) (h1:¬ ((xs.length:Nat) : Int) ≠ ((ys.length:Nat) : Int)) : Ev.Pie Try.prog 16 [] 0 4 26 ⟨W0,F0⟩ [(0,(a)),(1,(b))] (sm1a18 a b xs ys) .normal (fun κ:Ev.Ren=>[(0,(a)),(1,(b)),(5,(.int .i64 0))]) (fun κ:Ev.Ren=>(sm1a18 a b xs ys)):=(tr (c:=⟨W0,F0⟩) (kn [a,b,iN (xs.length),iN (ys.length)] (fc (by assumption) (fc (by assumption) fr)) [(.neq,sy 2,sy 3,.bool false)] [] [] (fc (fun _ _ _=>Ev.bt_neq (by first | (simpa using h1) | (simp; omega))) fn) fn fn W0 F0 [(sm1a18 a b xs ys)] [⟨[10,36],[sy 0],none,0,none,sy 2,none⟩,⟨[10,36],[sy 1],none,0,none,sy 3,none⟩] []) (fc (by obtain ⟨i,i1,i2,i3,i4⟩:=infInt; exact Ev.sl_len (ci:=1) rfl rfl Try.underlying36 i2 rfl rfl) (fc (by obtain ⟨i,i1,i2,i3,i4⟩:=infInt; exact Ev.sl_len (ci:=2) rfl rfl Try.underlying36 i2 rfl rfl) fn)) fn rfl [] [] [] 0 rfl rfl [(0,sy 0),(1,sy 1)] [(0,sy 0),(1,sy 1),(5,.int .i64 0)] .normal)
theorem siBY (W0:World) (F0:Nat→Prop) (a b:Value) (la:Ev.leafV a=true) (lb:Ev.leafV b=true) (xs ys:List Int) (hx:xs.length≤1000000) (hy:ys.length≤1000000) (us:List Int) (hu:us.length=xs.length) (hxy:xs.length=ys.length) (j:Nat) (hj:j < xs.length) (x y:Int) (hxj:us[j]? = some x) (hyj:ys[j]? = some y) (h1:¬ (x) ≠ (y)) : Ev.Pie Try.prog 16 [8,0] 0 4 26 ⟨W0,F0⟩ [(0,(a)),(1,(b)),(5,(iN (j)))] (sm1a23 a b xs ys us) .normal (fun κ:Ev.Ren=>[(0,(a)),(1,(b)),(5,(iN ((j)+1)))]) (fun κ:Ev.Ren=>(sm1a23 a b xs ys us)):=(tr (c:=⟨W0,F0⟩) (kn [a,b,Ev.ptrR (a) ((j) * 1),Ev.ptrR (b) ((j) * 1),iN (j),iN (xs.length),iz (x),iz (y),iN ((j)+1)] (fc (by assumption) (fc (by assumption) (fc (Ev.ptrR_leaf _ _) (fc (Ev.ptrR_leaf _ _) fr)))) [(.lss,sy 4,sy 5,.bool true),(.neq,sy 6,sy 7,.bool false),(.add,sy 4,.int .i64 1,sy 8)] [] [] (fc (fun _ _ _=>Ev.bt_lss (by have z1:=hx; have z2:=hy; have z3:=hu; have z4:=hxy; first | (simp; done) | (simp; omega))) (fc (fun _ _ _=>Ev.bt_neq (by have z1:=hx; have z2:=hy; have z3:=hu; have z4:=hxy; first | (simpa using h1) | (simp; omega))) (fc (fun _ _ _=>Ev.bt_add (by have z1:=hx; have z2:=hy; have z3:=hu; have z4:=hxy; rw [wrap_ok (by omega) (by omega)]; omega)) fn))) fn fn W0 F0 [(sm1a23 a b xs ys us)] [⟨[10,36],[sy 0],none,0,none,sy 5,none⟩,⟨[3,36],[sy 0,sy 4],none,0,none,sy 2,none⟩,⟨[1,3],[sy 2],none,0,none,sy 6,none⟩,⟨[3,36],[sy 1,sy 4],none,0,none,sy 3,none⟩,⟨[1,3],[sy 3],none,0,none,sy 7,none⟩] []) (fc (by obtain ⟨i,i1,i2,i3,i4⟩:=infInt; exact Ev.sl_len (ci:=1) rfl rfl Try.underlying36 i2 rfl rfl) (fc (by obtain ⟨i,i1,i2,i3,i4⟩:=infInt; have z1:=hx; have z2:=hy; have z3:=hu; have z4:=hxy; exact Ev.sl_index (ci:=1) (j:=(j)) rfl rfl Try.underlying36 i1 i2 rfl rfl (by omega) rfl) (fc (by have z1:=hx; have z2:=hy; have z3:=hu; have z4:=hxy; exact Ev.sl_load (ci:=1) (m:=(j) * 1) (x:=(iz (x))) rfl rfl loadInt (by simp [ints,List.getElem?_map,hxj]) (by simp; omega) rfl (fun ι=>(vk (by kernel_rfl) (by kernel_rfl)))) (fc (by obtain ⟨i,i1,i2,i3,i4⟩:=infInt; have z1:=hx; have z2:=hy; have z3:=hu; have z4:=hxy; exact Ev.sl_index (ci:=2) (j:=(j)) rfl rfl Try.underlying36 i1 i2 rfl rfl (by omega) rfl) (fc (by have z1:=hx; have z2:=hy; have z3:=hu; have z4:=hxy; exact Ev.sl_load (ci:=2) (m:=(j) * 1) (x:=(iz (y))) rfl rfl loadInt (by simp [ints,List.getElem?_map,hyj]) (by simp; omega) rfl (fun ι=>(vk (by kernel_rfl) (by kernel_rfl)))) fn))))) fn rfl [] [] [] 0 rfl rfl [(0,sy 0),(1,sy 1),(5,sy 4)] [(0,sy 0),(1,sy 1),(5,sy 8)] .normal)
theorem siCE (W0:World) (F0:Nat→Prop) (a b:Value) (la:Ev.leafV a=true) (lb:Ev.leafV b=true) (xs ys:List Int) (hx:xs.length≤1000000) (hy:ys.length≤1000000) (us:List Int) (hu:us.length=xs.length) : Ev.Pie Try.prog 16 [8,0] 0 4 26 ⟨W0,F0⟩ [(0,(a)),(1,(b)),(5,(iN (xs.length)))] (sm1a23 a b xs ys us) (.exit 0) (fun κ:Ev.Ren=>[(0,(a)),(1,(b))]) (fun κ:Ev.Ren=>(sm1a23 a b xs ys us)):=(tr (c:=⟨W0,F0⟩) (kn [a,b,iN (xs.length)] (fc (by assumption) (fc (by assumption) fr)) [(.lss,sy 2,sy 2,.bool false)] [] [] (fc (fun _ _ _=>Ev.bt_lss (by have z3:=hu; first | (simp; done) | (simp; omega))) fn) fn fn W0 F0 [(sm1a23 a b xs ys us)] [⟨[10,36],[sy 0],none,0,none,sy 2,none⟩] []) (fc (by obtain ⟨i,i1,i2,i3,i4⟩:=infInt; exact Ev.sl_len (ci:=1) rfl rfl Try.underlying36 i2 rfl rfl) fn) fn rfl [] [] [] 0 rfl rfl [(0,sy 0),(1,sy 1),(5,sy 2)] [(0,sy 0),(1,sy 1)] (.exit 0))
theorem siCL (W0:World) (F0:Nat→Prop) (a b:Value) (la:Ev.leafV a=true) (lb:Ev.leafV b=true) (xs ys:List Int) (hx:xs.length≤1000000) (hy:ys.length≤1000000) (us:List Int) (hu:us.length=xs.length) : Ev.Pie Try.prog 16 [] 5 2 26 ⟨W0,F0⟩ [(0,(a)),(1,(b))] (sm1a23 a b xs ys us) .ret (fun κ:Ev.Ren=>[(4,(.bool true))]) (fun κ:Ev.Ren=>(sm1a23 a b xs ys us)):=(tr (c:=⟨W0,F0⟩) (kn [a,b,iN (xs.length)] (fc (by assumption) (fc (by assumption) fr)) [] [] [] fn fn fn W0 F0 [(sm1a23 a b xs ys us)] [] []) fn fn rfl [] [] [] 0 rfl rfl [(0,sy 0),(1,sy 1)] [(4,.bool true)] .ret)
theorem scAY (W0:World) (F0:Nat→Prop) (a b:Value) (la:Ev.leafV a=true) (lb:Ev.leafV b=true) (xs ys:List Int) (hx:xs.length≤1000000) (hy:ys.length≤1000000) (h1:¬ ((xs.length:Nat) : Int) ≠ ((ys.length:Nat) : Int)) : Ev.Pie Try.prog 59 [] 0 4 34 ⟨W0,F0⟩ [(0,(a)),(1,(b))] (sm1a31 a b xs ys) .normal (fun κ:Ev.Ren=>[(0,(a)),(1,(b)),(5,(.int .i64 0))]) (fun κ:Ev.Ren=>(sm1a31 a b xs ys)):=(tr (c:=⟨W0,F0⟩) (kn [a,b,iN (xs.length),iN (ys.length)] (fc (by assumption) (fc (by assumption) fr)) [(.neq,sy 2,sy 3,.bool false)] [] [] (fc (fun _ _ _=>Ev.bt_neq (by first | (simpa using h1) | (simp; omega))) fn) fn fn W0 F0 [(sm1a31 a b xs ys)] [⟨[10,29],[sy 0],none,0,none,sy 2,none⟩,⟨[10,29],[sy 1],none,0,none,sy 3,none⟩] []) (fc (by obtain ⟨i,i1,i2,i3,i4⟩:=infU64; exact Ev.sl_len (ci:=1) rfl rfl Try.underlying29 i2 rfl rfl) (fc (by obtain ⟨i,i1,i2,i3,i4⟩:=infU64; exact Ev.sl_len (ci:=2) rfl rfl Try.underlying29 i2 rfl rfl) fn)) fn rfl [] [] [] 0 rfl rfl [(0,sy 0),(1,sy 1)] [(0,sy 0),(1,sy 1),(5,.int .i64 0)] .normal)
theorem scBY (W0:World) (F0:Nat→Prop) (a b:Value) (la:Ev.leafV a=true) (lb:Ev.leafV b=true) (xs ys:List Int) (hx:xs.length≤1000000) (hy:ys.length≤1000000) (us:List Int) (hu:us.length=xs.length) (hxy:xs.length=ys.length) (j:Nat) (hj:j < xs.length) (x y:Int) (hxj:us[j]? = some x) (hyj:ys[j]? = some y) (h1:¬ (x) ≠ (y)) : Ev.Pie Try.prog 59 [8,0] 0 4 34 ⟨W0,F0⟩ [(0,(a)),(1,(b)),(5,(iN (j)))] (sm1a33 a b xs ys us) .normal (fun κ:Ev.Ren=>[(0,(a)),(1,(b)),(5,(iN ((j)+1)))]) (fun κ:Ev.Ren=>[Ev.slA 30 1 (a) (xs.length) ((u64s us).set ((j) * 1) (uz (IntKind.u64.wrap ((x)+77)))),(sm1a30 b ys)]):=(tr (c:=⟨W0,F0⟩) (kn [a,b,Ev.ptrR (a) ((j) * 1),Ev.ptrR (b) ((j) * 1),iN (j),iN (xs.length),uz (x),uz (y),uz (IntKind.u64.wrap ((x)+77)),iN ((j)+1)] (fc (by assumption) (fc (by assumption) (fc (Ev.ptrR_leaf _ _) (fc (Ev.ptrR_leaf _ _) fr)))) [(.lss,sy 4,sy 5,.bool true),(.neq,sy 6,sy 7,.bool false),(.add,sy 6,.int .u64 77,sy 8),(.add,sy 4,.int .i64 1,sy 9)] [] [] (fc (fun _ _ _=>Ev.bt_lss (by have z1:=hx; have z2:=hy; have z3:=hu; have z4:=hxy; first | (simp; done) | (simp; omega))) (fc (fun _ _ _=>Ev.bt_neq (by have z1:=hx; have z2:=hy; have z3:=hu; have z4:=hxy; first | (simpa using h1) | (simp; omega))) (fc (fun _ _ _=>Ev.bt_add rfl) (fc (fun _ _ _=>Ev.bt_add (by have z1:=hx; have z2:=hy; have z3:=hu; have z4:=hxy; rw [wrap_ok (by omega) (by omega)]; omega)) fn)))) fn fn W0 F0 [(sm1a33 a b xs ys us),[Ev.slA 30 1 (a) (xs.length) ((u64s us).set ((j) * 1) (uz (IntKind.u64.wrap ((x)+77)))),(sm1a30 b ys)]] [⟨[10,29],[sy 0],none,0,none,sy 5,none⟩,⟨[3,29],[sy 0,sy 4],none,0,none,sy 2,none⟩,⟨[1,30],[sy 2],none,0,none,sy 6,none⟩,⟨[3,29],[sy 1,sy 4],none,0,none,sy 3,none⟩,⟨[1,30],[sy 3],none,0,none,sy 7,none⟩,⟨[2,30],[sy 2,sy 8],none,0,none,undef,some 1⟩] []) (fc (by obtain ⟨i,i1,i2,i3,i4⟩:=infU64; exact Ev.sl_len (ci:=1) rfl rfl Try.underlying29 i2 rfl rfl) (fc (by obtain ⟨i,i1,i2,i3,i4⟩:=infU64; have z1:=hx; have z2:=hy; have z3:=hu; have z4:=hxy; exact Ev.sl_index (ci:=1) (j:=(j)) rfl rfl Try.underlying29 i1 i2 rfl rfl (by omega) rfl) (fc (by have z1:=hx; have z2:=hy; have z3:=hu; have z4:=hxy; exact Ev.sl_load (ci:=1) (m:=(j) * 1) (x:=(uz (x))) rfl rfl loadU64 (by simp [u64s,List.getElem?_map,hxj]) (by simp; omega) rfl (fun ι=>(vk (by kernel_rfl) (by kernel_rfl)))) (fc (by obtain ⟨i,i1,i2,i3,i4⟩:=infU64; have z1:=hx; have z2:=hy; have z3:=hu; have z4:=hxy; exact Ev.sl_index (ci:=2) (j:=(j)) rfl rfl Try.underlying29 i1 i2 rfl rfl (by omega) rfl) (fc (by have z1:=hx; have z2:=hy; have z3:=hu; have z4:=hxy; exact Ev.sl_load (ci:=2) (m:=(j) * 1) (x:=(uz (y))) rfl rfl loadU64 (by simp [u64s,List.getElem?_map,hyj]) (by simp; omega) rfl (fun ι=>(vk (by kernel_rfl) (by kernel_rfl)))) (fc (by have z1:=hx; have z2:=hy; have z3:=hu; have z4:=hxy; exact Ev.sl_store (ci:=1) (m:=(j) * 1) (x:=(uz (IntKind.u64.wrap ((x)+77)))) rfl rfl rfl storeU64 (by simp; omega) rfl (Ev.isSym rfl) rfl) fn)))))) fn rfl [] [] [] 1 rfl rfl [(0,sy 0),(1,sy 1),(5,sy 4)] [(0,sy 0),(1,sy 1),(5,sy 9)] .normal)
theorem scCE (W0:World) (F0:Nat→Prop) (a b:Value) (la:Ev.leafV a=true) (lb:Ev.leafV b=true) (xs ys:List Int) (hx:xs.length≤1000000) (hy:ys.length≤1000000) (us:List Int) (hu:us.length=xs.length) : Ev.Pie Try.prog 59 [8,0] 0 4 34 ⟨W0,F0⟩ [(0,(a)),(1,(b)),(5,(iN (xs.length)))] (sm1a33 a b xs ys us) (.exit 0) (fun κ:Ev.Ren=>[(0,(a)),(1,(b))]) (fun κ:Ev.Ren=>(sm1a33 a b xs ys us)):=(tr (c:=⟨W0,F0⟩) (kn [a,b,iN (xs.length)] (fc (by assumption) (fc (by assumption) fr)) [(.lss,sy 2,sy 2,.bool false)] [] [] (fc (fun _ _ _=>Ev.bt_lss (by have z3:=hu; first | (simp; done) | (simp; omega))) fn) fn fn W0 F0 [(sm1a33 a b xs ys us)] [⟨[10,29],[sy 0],none,0,none,sy 2,none⟩] []) (fc (by obtain ⟨i,i1,i2,i3,i4⟩:=infU64; exact Ev.sl_len (ci:=1) rfl rfl Try.underlying29 i2 rfl rfl) fn) fn rfl [] [] [] 0 rfl rfl [(0,sy 0),(1,sy 1),(5,sy 2)] [(0,sy 0),(1,sy 1)] (.exit 0))
theorem scCL (W0:World) (F0:Nat→Prop) (a b:Value) (la:Ev.leafV a=true) (lb:Ev.leafV b=true) (xs ys:List Int) (hx:xs.length≤1000000) (hy:ys.length≤1000000) (us:List Int) (hu:us.length=xs.length) : Ev.Pie Try.prog 59 [] 5 2 34 ⟨W0,F0⟩ [(0,(a)),(1,(b))] (sm1a33 a b xs ys us) .ret (fun κ:Ev.Ren=>[(4,(.bool true))]) (fun κ:Ev.Ren=>(sm1a33 a b xs ys us)):=(tr (c:=⟨W0,F0⟩) (kn [a,b,iN (xs.length)] (fc (by assumption) (fc (by assumption) fr)) [] [] [] fn fn fn W0 F0 [(sm1a33 a b xs ys us)] [] []) fn fn rfl [] [] [] 0 rfl rfl [(0,sy 0),(1,sy 1)] [(4,.bool true)] .ret)
end Go.Proofs.Ytbcnbofkgkheeaa
namespace Go.Proofs.Ytbcnbofkgkheeaa
open Go.RowKit
open Go.Ev (sy)
set_option linter.unusedVariables false
set_option linter.unusedSimpArgs false
set_option maxRecDepth 8000
theorem same_ints {w:World} {F:Nat→Prop} {a b:Value} (la:Ev.leafV a=true) (lb:Ev.leafV b=true) {xs:List Int} (hx:xs.length≤1000000) (h:Ev.Now [Ev.slA 3 1 a xs.length (ints xs),Ev.slA 3 1 b xs.length (ints xs)] F w) :
  Calls Try.prog 16 #[a,b] w fun e w'=>e=.returned (.bool true)∧Ev.Hold ⟨w,F⟩ [Ev.slA 3 1 a xs.length (ints xs),Ev.slA 3 1 b xs.length (ints xs)] w':=by
 refine Ev.con_start (N:=26) (tm:=[(0,a),(1,b)]) (by kernel_rfl) h (by simp) (by simp) (fun A hA=>?_)
 refine siAY w F a b la lb xs xs hx hx (by simp) A w _ hA ?_
 intro κ A1 w1 h1
 refine Ev.in_block (id:=0) (by kernel_rfl) ?_
 refine Ev.loop_st (by kernel_rfl) (fun (j:Nat) A w'=>Ev.At ⟨w,F⟩ 26 [(0,a),(1,b),(5,.int .i64 (j:Int))] [Ev.slA 3 1 a xs.length (ints xs),Ev.slA 3 1 b xs.length (ints xs)] A w'∧j≤xs.length) (fun j=>xs.length - j) (x:=0) ⟨h1,by omega⟩ ?_
 clear h1 hA A1 w1
 rintro j A1 w1 ⟨h1,hj⟩
 by_cases hlt:j < xs.length
 ·refine siBY w F a b la lb xs xs hx hx xs rfl rfl j hlt xs[j] xs[j] (List.getElem?_eq_getElem hlt) (List.getElem?_eq_getElem hlt) (by simp) A1 w1 _ h1 ?_
  intro κ A2 w2 h2
  exact Ev.wpL_nil (by kernel_rfl) ⟨j+1,⟨h2,hlt⟩,by omega⟩
 ·obtain rfl:j=xs.length:=by omega
  refine siCE w F a b la lb xs xs hx hx xs rfl A1 w1 _ h1 ?_
  intro κ A2 w2 h2
  refine siCL w F a b la lb xs xs hx hx xs rfl A2 w2 _ h2 ?_
  intro κ A3 w3 h3
  exact h3.ret (by kernel_rfl) (List.mem_singleton.2 rfl) (fun hh=>⟨rfl,hh⟩)
theorem same_cells {w:World} {F:Nat→Prop} {a b:Value} (la:Ev.leafV a=true) (lb:Ev.leafV b=true) {xs:List Int} (hx:xs.length≤1000000) (h:Ev.Now [Ev.slA 30 1 a xs.length (u64s xs),Ev.slA 30 1 b xs.length (u64s xs)] F w) :
  Calls Try.prog 59 #[a,b] w fun e w'=>e=.returned (.bool true)∧Ev.Hold ⟨w,F⟩ [Ev.slA 30 1 b xs.length (u64s xs)] w':=by
 refine Ev.con_start (N:=34) (tm:=[(0,a),(1,b)]) (by kernel_rfl) h (by simp) (by simp) (fun A hA=>?_)
 refine scAY w F a b la lb xs xs hx hx (by simp) A w _ hA ?_
 intro κ A1 w1 h1
 refine Ev.in_block (id:=0) (by kernel_rfl) ?_
 refine Ev.loop_st (by kernel_rfl) (fun (x:Nat×List Int) A w'=>Ev.At ⟨w,F⟩ 34 [(0,a),(1,b),(5,.int .i64 (x.1:Int))] [Ev.slA 30 1 a xs.length (u64s x.2),Ev.slA 30 1 b xs.length (u64s xs)] A w'∧x.1≤xs.length∧x.2.length=xs.length∧∀ i,x.1≤i→x.2[i]? = xs[i]?) (fun x=>xs.length - x.1) (x:=(0,xs)) ⟨h1,by simp,rfl,fun i _=>rfl⟩ ?_
 clear h1 hA A1 w1
 rintro ⟨j,us⟩ A1 w1 ⟨h1,hj,hu,hus⟩
 replace hj:j≤xs.length:=hj
 replace hu:us.length=xs.length:=hu
 replace hus:∀ i,j≤i→us[i]? = xs[i]?:=hus
 by_cases hlt:j < xs.length
 ·have hg:xs[j]? = some xs[j]:=List.getElem?_eq_getElem hlt
  refine scBY w F a b la lb xs xs hx hx us hu rfl j hlt xs[j] xs[j] (by rw [hus j (Nat.le_refl _),hg]) hg (by simp) A1 w1 _ h1 ?_
  intro κ A2 w2 h2
  rw [u64s_set] at h2
  refine Ev.wpL_nil (by kernel_rfl) ⟨(j+1,us.set j (IntKind.u64.wrap (xs[j]+77))),⟨h2,hlt,by simp [hu],fun i hi=>?_⟩,by show xs.length - (j+1) < xs.length - j; omega⟩
  replace hi:j+1≤i:=hi
  rw [List.getElem?_set_ne (by omega)]
  exact hus i (by omega)
 ·obtain rfl:j=xs.length:=by omega
  refine scCE w F a b la lb xs xs hx hx us hu A1 w1 _ h1 ?_
  intro κ A2 w2 h2
  refine scCL w F a b la lb xs xs hx hx us hu A2 w2 _ h2 ?_
  intro κ A3 w3 h3
  exact h3.ret (by kernel_rfl) (List.mem_singleton.2 rfl) (fun hh=>⟨rfl,hh.sel [1] (by kernel_rfl)⟩)
end Go.Proofs.Ytbcnbofkgkheeaa
namespace Go.Proofs.Ytbcnbofkgkheeaa
open Go.RowKit
open Go.Ev (sy iz uz wz iN uN wN pz dv fc fn ak vk vd kn pc cc cr cm cd fr)
set_option linter.unusedVariables false
set_option linter.unusedSimpArgs false
set_option maxRecDepth 8000
attribute [local irreducible] Ev.wpL
theorem slA_leaf {l:List Ev.Asr} {F:Nat→Prop} {w:World} (h:Ev.Now l F w) {i:Nat} {e:TypeId} {sz n:Nat} {v:Value} {xs:List Value} (hi:l[i]? = some (Ev.slA e sz v n xs)) : Ev.leafV v=true:=by
 obtain ⟨f,hf⟩:=h.part hi
 exact Ev.SlV.leaf hf
abbrev do1a1 (m:MemM) (rv:Value) : Ev.Asr:=Ev.slA 30 1 (rv) (m.cells.length) (u64s m.cells)
theorem sm (W0:World) (F0:Nat→Prop) (bm:Nat) (m:MemM) (rv:Value) (lr:Ev.leafV rv=true) (hx:m.cells.length≤1000000) : Ev.PieE Try.prog 44 [] 0 25 ⟨W0,F0⟩ [(0,(pz bm)),(1,(.agg #[(rv),(uz (m.ops))]))] [memA bm m,(do1a1 m rv)] (fun κ:Ev.Ren=>(.bool true)) (fun κ:Ev.Ren=>[(do1a1 m rv),memA bm m]):=(trE (c:=⟨W0,F0⟩) 3 (kn [rv,pz bm,uz (m.ops),iN (m.cells.length)] (fc (by assumption) fr) [(.eql,sy 3,sy 3,.bool true),(.eql,sy 2,sy 2,.bool true)] [] [] (fc (fun _ _ _=>Ev.bt_eql (by first | (simp; done) | (simp; omega))) (fc (fun _ _ _=>Ev.bt_eql (by first | (simp; done) | (simp; omega))) fn)) fn fn W0 F0 [[memA bm m,(do1a1 m rv)],[Ev.atD 407 (fun v=>Ev.slA 30 1 v m.cells.length (u64s m.cells)),Ev.atD 407 (fun v=>memA bm m),(do1a1 m rv)],[(do1a1 m rv),Ev.atD 407 (fun v=>memA bm m)]] [⟨[10,29],[sy 0],none,0,none,sy 3,none⟩] [⟨58,[sy 1],0,none,sy 3,none⟩,⟨45,[sy 1],0,none,sy 2,none⟩,⟨38,[sy 1],0,some 407,.complex .f32 407 0,some 1⟩,⟨59,[.complex .f32 407 0,sy 0],1,none,.bool true,some 2⟩]) (fc (by obtain ⟨i,i1,i2,i3,i4⟩:=infU64; exact Ev.sl_len (ci:=2) rfl rfl Try.underlying29 i2 rfl rfl) fn) (fc (cr rfl [0] (fun w F ho hn=>mem_lenR hn)) (fc (cr rfl [0] (fun w F ho hn=>mem_opsR hn)) (fc (cd rfl [fun v=>Ev.slA 30 1 v m.cells.length (u64s m.cells),fun v=>memA bm m] [0] [1] (fun w F ho hn hF=>mem_allH hx hn)) (fc (Ev.gc_ofD (c:=⟨W0,F0⟩) (lpd:=[Ev.atD 407 (fun v=>Ev.slA 30 1 v m.cells.length (u64s m.cells)),Ev.slA 30 1 (rv) (m.cells.length) (u64s m.cells)]) (lp:=fun v=>[Ev.slA 30 1 v m.cells.length (u64s m.cells),Ev.slA 30 1 (rv) (m.cells.length) (u64s m.cells)]) (lq:=[Ev.slA 30 1 (rv) (m.cells.length) (u64s m.cells)]) (args:=fun v=>[v,(rv)]) [0,2] [1] rfl rfl rfl rfl (Ev.hf_at (fun _ _ _ _ _ h=>h) (Ev.hf_flat (fun _ _ _ _ h=>h) Ev.hf_nil)) (Ev.argD_here (ak (by kernel_rfl) (by kernel_rfl))) (fun ι=>(vk (by kernel_rfl) (by kernel_rfl))) (fun v w F ho hn hF=>same_cells (slA_leaf hn (i:=0) rfl) lr hx hn)) fn)))) rfl [] [] [] 2 rfl rfl [(0,sy 1),(1,.agg #[sy 0,sy 2])] (.bool true)).conv (fun κ w=>⟨(fun _ h=>h),(fun _ h=>Ev.undy (a:=fun v=>memA bm m) (fun _ _ _ _ _ h=>h) h),trivial⟩)
end Go.Proofs.Ytbcnbofkgkheeaa
