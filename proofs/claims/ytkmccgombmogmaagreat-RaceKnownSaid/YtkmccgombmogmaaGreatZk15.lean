/- Part of a proof: see the last text. -/
import Derived.Test.YtkmccgombmogmaaGreatZk14
import Derived.Test.YtkmccgombmogmaaGreatZk8
import Derived.LoopNIn
import Derived.LoopIn
import Derived.BigFrame
import Derived.Test.YtkmccgombmogmaaGreatZk13
import Derived.Test.YtkmccgombmogmaaGreatZk1
import Derived.Deep.MidRow
namespace Go.Proofs.YtkmccgombmogmaaGreat
open Go.RowKit
set_option linter.unusedVariables false
set_option linter.unusedSimpArgs false
set_option maxRecDepth 8000
abbrev cfC (c:Cfg) (b:Nat) (W:World) : Prop:=W.cell? ⟨b,0,none⟩=some (.int .i64 (c.n:Int))∧W.cell? ⟨b,1,none⟩=some (.int .i64 (c.q:Int))∧W.cell? ⟨b,2,none⟩=some (.int .i64 c.g)∧W.cell? ⟨b,3,none⟩=some (.int .i64 c.m)∧W.cell? ⟨b,4,none⟩=some (.int .i64 c.t)∧W.cell? ⟨b,5,none⟩=some (.int .i64 c.s)
abbrev HR (c:Cfg) (b3 b4:Nat) (rv:Value) (cs:List Int) (ops:Int) (r:List Ev.Asr) : List Ev.Asr:=Ev.blkA b3 (cfL c) 49 :: m06 b4 rv ops::uA rv cs::r
section
variable {ctx:Ev.Ctx} {w:World} {r:List Ev.Asr} {c:Cfg} {p:Nat} {m:MemM} {rv:Value}
set_option maxHeartbeats 4000000 in
theorem ring9H (n:Nat) (hp:p < c.n) (hm:MemOk c m) (hz:szW (ld m (c.word p))≤(c.q:Int)) (h:Ev.Hold ctx (uA rv m.cells::r) w) :
  CallsIn Fence.wide n Tryz.prog 91 #[c.v,.agg #[rv,.int .u64 m.ops],.int .i64 (p:Int)] w fun e w'=>∃ v,e=.returned v∧Ev.Hold ctx (isA v (ringL c m p)::uA rv m.cells::r) w':=by
 obtain ⟨av,ak,rfl⟩:=slr_val (hold_slr h)
 obtain ⟨x,hxe⟩ : ∃ x,ld m (c.word p)=x:=⟨_,rfl⟩
 obtain ⟨hx,-⟩:=hm.at_ (hm.lt_word hp)
 have hu:=(hm.get (hm.lt_word hp)).2
 have hq:=c.qb
 have hsz:=szW_bd x
 obtain ⟨f,hf⟩ : ∃ f:Nat→Int,(fun i:Nat=>IntKind.i64.wrap (ld m (c.slot p ((hdW x+(i:Int)) % 4294967296))))=f:=⟨_,rfl⟩
 have hr:ringL c m p=(List.range (szW x).toNat).map f:=by
  unfold ringL placesW
  rw [hxe] at hz ⊢
  rw [if_neg (by omega),List.map_map,← hf]
  rfl
 rw [hxe] at hx hu hz
 rw [hr]
 clear hr hxe
 obtain ⟨ops',ho'⟩ : ∃ o,IntKind.u64.wrap (m.ops+1)=o:=⟨_,rfl⟩
 obtain ⟨b3,W1,hb1,hW1,q1⟩:=newN (cfL c) 49 h
 obtain ⟨b4,W2,hb2,hW2,q2⟩:=newN [.slice av m.cells.length ak,.int .u64 m.ops] 53 q1
 have gd:Ev.Hold ctx (HR c b3 b4 (.slice av m.cells.length ak) m.cells m.ops r) W2:=hold_swap q2
 clear q1 q2
 have hP:∀ {R:List Ev.Asr} {W:World},Ev.Hold ctx (Ev.blkA b3 (cfL c) 49 :: m06 b4 (.slice av m.cells.length ak) m.ops::R) W→cfC c b3 W∧W.cell? ⟨b4,0,none⟩=some (.slice av m.cells.length ak)∧W.cell? ⟨b4,1,none⟩=some (.int .u64 m.ops):=fun hh=>⟨⟨blkc hh 0 _,blkc hh 1 _,blkc hh 2 _,blkc hh 3 _,blkc hh 4 _,blkc hh 5 _⟩,blkc (hold_up [_] hh) 0 _,blkc (hold_up [_] hh) 1 _⟩
 have hX:∀ {q:Ev.Asr} {R:List Ev.Asr} {W:World},Ev.Hold ctx (q::Ev.blkA b3 (cfL c) 49 :: m06 b4 (.slice av m.cells.length ak) m.ops::R) W→cfC c b3 W∧W.cell? ⟨b4,0,none⟩=some (.slice av m.cells.length ak)∧W.cell? ⟨b4,1,none⟩=some (.int .u64 m.ops):=fun hh=>hP (hold_drop (r:=[_]) hh)
 refine wen Tryz.func91 50 ?_
 gi_upto_region 2 with fail
 clear hW1 hW2 hb1 hb2
 gi_cut [7,9] from 13 (fun s7 s9 wx=>s7=.slice none 0 0∧s9=.int .u64 x∧Ev.Hold ctx (HR c b3 b4 (.slice av m.cells.length ak) m.cells m.ops r) wx)
 case first =>
  have hd:=hold_keep gd (Below.refl _ _).drew
  have cW:=rWord_ok c p hp
  have cL:∀ {R:List Ev.Asr} {W:World},Ev.Hold ctx (uA (.slice av m.cells.length ak) m.cells::R) W→_:=fun {R W} hh=>callsIn_wide.1 (rload_in (ctx:=ctx) (r:=R) (w:=W) 0 (ops:=m.ops) hx hh)
  rw [ho'] at cL
  have hdN:Ev.Hold ctx (m06 W2.heap.size (.slice none 0 0) 0::HR c b3 b4 (.slice av m.cells.length ak) m.cells m.ops r) (W2.alloc (.cells #[(.slice none 0 0),.int .u64 0] 53)).drew:=hold_new [(.slice none 0 0),.int .u64 0] 53 hd
  refine wpIn_wide.2 ?_
  go_region_held3 (fun W=>cfC c b3 W∧W.cell? ⟨b4,0,none⟩=some (.slice av m.cells.length ak)∧W.cell? ⟨b4,1,none⟩=some (.int .u64 m.ops)) ((first | exact hP hd | exact hX hdN | exact hP h1 | exact hX h1x | exact hX h1N | exact hP h2 | exact hX h2x | exact hX h2N | exact hX h4 | exact hX h4x | fail)) ((first
   | (have hcon:=cW W2.drew; (with_reducible refine hcon.mono ?_); clear hcon; rintro e w1 ⟨rfl,b1'⟩; (have h1:=hold_keep hd b1'; have h1N:=hold_new [(.slice none 0 0),.int .u64 0] 53 h1))
   | (have hcon:=cW (W2.alloc (.cells #[(.slice none 0 0),.int .u64 0] 53)).drew; (with_reducible refine hcon.mono ?_); clear hcon; rintro e w1 ⟨rfl,b1'⟩; have h1x:=hold_keep hdN b1')
   | (have hcon:=cL (hold_up [_,_] h1); (with_reducible refine hcon.mono ?_); clear hcon; rintro e w2 ⟨rfl,h2⟩; replace h2:=hold_dn [_,_] h2; have h2N:=hold_new [(.slice none 0 0),.int .u64 0] 53 h2; have h4:=hold_new [(.slice av m.cells.length ak),.int .u64 ops'] 53 h2)
   | (have hcon:=cL (hold_up [_,_,_] h1x); (with_reducible refine hcon.mono ?_); clear hcon; rintro e w2 ⟨rfl,h2⟩; have h2x:=hold_dn [_,_,_] h2; have x0:=blkc h2x 0 _; have x1:=blkc h2x 1 _; have f0:=froz_of (hold_blk h2x) 0; have f1:=froz_of (hold_blk h2x) 1; have h4x:=hold_set 1 (.int .u64 ops') (hold_set 0 (.slice av m.cells.length ak) h2x))
   | (have hcon:=cL (hold_up [_,_,_] h1N); (with_reducible refine hcon.mono ?_); clear hcon; rintro e w2 ⟨rfl,h2⟩; have h2x:=hold_dn [_,_,_] h2; have x0:=blkc h2x 0 _; have x1:=blkc h2x 1 _; have f0:=froz_of (hold_blk h2x) 0; have f1:=froz_of (hold_blk h2x) 1; have h4x:=hold_set 1 (.int .u64 ops') (hold_set 0 (.slice av m.cells.length ak) h2x))))
  all_goals
   gi_wp2
   gi_meet
   case rel=>first | exact ⟨rfl,rfl,hold_drop (r:=[_]) h4⟩ | exact ⟨rfl,rfl,hold_drop (r:=[_]) h4x⟩
 case rest =>
  obtain ⟨rfl,rfl,g1⟩:=hcut
  clear gd
  gi_wp2
  gi_loopw [7,10] (fun lv iv wr=>∃ (i:Nat) (a:Option Addr) (cc:Nat),lv=.slice a i cc∧iv=.int .u32 (i:Int)∧(i:Int)≤szW x∧Ev.Hold ctx (HR c b3 b4 (.slice av m.cells.length ak) m.cells m.ops (isA (.slice a i cc) ((List.range i).map f)::r)) wr) (fun _ iv _=>(szW x).toNat - (intOf iv).toNat)
  case atStart=>exact ⟨0,none,0,rfl,rfl,hsz.1,hsel [_,_,_,_] (g1.nilSl (e := 3) (sz:=1)) [1,2,3,0]⟩
  case round =>
   obtain ⟨i,a,cc,rfl,rfl,hi,hH⟩:=hrel
   have u1:IntKind.u32.wrap (c.q:Int)=(c.q:Int):=by rw [wrap32]; omega
   have hd0:=hold_keep hH (Below.refl _ _).drew
   by_cases hlt:(i:Int) < szW x
   ·have hlb:decide ((i:Int) < szW x)=true:=decide_eq_true hlt
    have hzb:decide (szW x≤(c.q:Int))=true:=decide_eq_true hz
    gi_upto_region 4 with fail
    refine wpIn_wide.2 ?_
    refine wp_region_held_drew (S:=fun W=>W.cell? ⟨b3,0,none⟩=some (.int .i64 (c.n:Int))∧W.cell? ⟨b3,1,none⟩=some (.int .i64 (c.q:Int))∧W.cell? ⟨b3,2,none⟩=some (.int .i64 c.g)∧W.cell? ⟨b3,3,none⟩=some (.int .i64 c.m)∧W.cell? ⟨b3,4,none⟩=some (.int .i64 c.t)∧W.cell? ⟨b3,5,none⟩=some (.int .i64 c.s)∧W.cell? ⟨b4,0,none⟩=some (.slice av m.cells.length ak)∧W.cell? ⟨b4,1,none⟩=some (.int .u64 m.ops)) (by kernel_rfl) ?_ (fun hHeld=>?_)
    ·obtain ⟨⟨s0,s1,s2,s3,s4,s5⟩,s6,s7⟩:=hP hd0
     exact ⟨s0,s1,s2,s3,s4,s5,s6,s7⟩
    refine wpAnyH_take (i:=0) (v:=?va0) rfl (by kernel_rfl) (by kernel_rfl) (by kernel_rfl) (fun _ _ _ h=>h) (Or.inl ⟨by kernel_rfl,?ya0⟩) (by assumption) ?ra0
    case ya0=>first | ((intro w hSw; (try dsimp only at hSw); go_simp); done) | ((intro w hSw; (try dsimp only at hSw); go_simp); with_reducible rfl)
    simp only [Act.put,List.getElem_toArray,List.getElem_cons_succ,List.getElem_cons_zero,List.setIfInBounds_toArray,List.set_cons_zero,List.set_cons_succ]
    refine wpAnyH_take (i:=1) (v:=?va1) rfl (by kernel_rfl) (by kernel_rfl) (by kernel_rfl) (fun _ _ _ h=>h) (Or.inl ⟨by kernel_rfl,?ya1⟩) (by assumption) ?ra1
    case ya1=>first | ((intro w hSw; (try dsimp only at hSw); go_simp); done) | ((intro w hSw; (try dsimp only at hSw); go_simp); with_reducible rfl)
    simp only [Act.put,List.getElem_toArray,List.getElem_cons_succ,List.getElem_cons_zero,List.setIfInBounds_toArray,List.set_cons_zero,List.set_cons_succ]
    refine wpAnyH_ready (rs:=[2]) (by kernel_rfl) (by simp) ?_
    refine AllReadyH.cons rfl (fun K hK=>?_) ?_
    rotate_left
    ·exact AllReadyH.nil
    go_simp
    (have hcon:=rSize x hu wr.drew; (with_reducible refine hcon.mono ?_); clear hcon; rintro e w1 ⟨rfl,hw1⟩; subst hw1)
    refine hK.out _ _ hHeld (fun hHeld=>?_)
    clear hK K
    try simp only [Act.put,List.getElem_toArray,List.getElem_cons_succ,List.getElem_cons_zero,List.setIfInBounds_toArray,List.set_cons_zero,List.set_cons_succ]
    refine wpAnyH_take (i:=3) (v:=?vb3) rfl (by kernel_rfl) (by kernel_rfl) (by kernel_rfl) (fun _ _ _ h=>h) (Or.inl ⟨by kernel_rfl,?yb3⟩) (by assumption) ?rb3
    case yb3=>first | ((intro w hSw; (try dsimp only at hSw); go_simp); done) | ((intro w hSw; (try dsimp only at hSw); go_simp); with_reducible rfl)
    simp only [Act.put,List.getElem_toArray,List.getElem_cons_succ,List.getElem_cons_zero,List.setIfInBounds_toArray,List.set_cons_zero,List.set_cons_succ]
    refine wpAnyH_take (i:=4) (v:=?vb4) rfl (by kernel_rfl) (by kernel_rfl) (by kernel_rfl) (fun _ _ _ h=>h) (Or.inl ⟨by kernel_rfl,?yb4⟩) (by assumption) ?rb4
    case yb4=>first | ((intro w hSw; (try dsimp only at hSw); go_simp); done) | ((intro w hSw; (try dsimp only at hSw); go_simp); with_reducible rfl)
    simp only [Act.put,List.getElem_toArray,List.getElem_cons_succ,List.getElem_cons_zero,List.setIfInBounds_toArray,List.set_cons_zero,List.set_cons_succ]
    refine wpAnyH_take (i:=5) (v:=?vb5) rfl (by kernel_rfl) (by kernel_rfl) (by kernel_rfl) (fun _ _ _ h=>h) (Or.inl ⟨by kernel_rfl,?yb5⟩) (by assumption) ?rb5
    case yb5=>first | ((intro w hSw; (try dsimp only at hSw); go_simp); done) | ((intro w hSw; (try dsimp only at hSw); go_simp); with_reducible rfl)
    simp only [Act.put,List.getElem_toArray,List.getElem_cons_succ,List.getElem_cons_zero,List.setIfInBounds_toArray,List.set_cons_zero,List.set_cons_succ]
    refine wpAnyH_take (i:=7) (v:=?vb7) rfl (by kernel_rfl) (by kernel_rfl) (by kernel_rfl) (fun _ _ _ h=>h) (Or.inl ⟨by kernel_rfl,?yb7⟩) (by assumption) ?rb7
    case yb7=>first | ((intro w hSw; (try dsimp only at hSw); go_simp); done) | ((intro w hSw; (try dsimp only at hSw); go_simp); with_reducible rfl)
    simp only [Act.put,List.getElem_toArray,List.getElem_cons_succ,List.getElem_cons_zero,List.setIfInBounds_toArray,List.set_cons_zero,List.set_cons_succ]
    refine wpAnyH_take (i:=8) (v:=?vb8) rfl (by kernel_rfl) (by kernel_rfl) (by kernel_rfl) (fun _ _ _ h=>h) (Or.inl ⟨by kernel_rfl,?yb8⟩) (by assumption) ?rb8
    case yb8=>first | ((intro w hSw; (try dsimp only at hSw); go_simp); done) | ((intro w hSw; (try dsimp only at hSw); go_simp); with_reducible rfl)
    simp only [Act.put,List.getElem_toArray,List.getElem_cons_succ,List.getElem_cons_zero,List.setIfInBounds_toArray,List.set_cons_zero,List.set_cons_succ]
    refine wpAnyH_take (i:=9) (v:=?vb9) rfl (by kernel_rfl) (by kernel_rfl) (by kernel_rfl) (fun _ _ _ h=>h) (Or.inl ⟨by kernel_rfl,?yb9⟩) (by assumption) ?rb9
    case yb9=>first | ((intro w hSw; (try dsimp only at hSw); go_simp); done) | ((intro w hSw; (try dsimp only at hSw); go_simp); with_reducible rfl)
    simp only [Act.put,List.getElem_toArray,List.getElem_cons_succ,List.getElem_cons_zero,List.setIfInBounds_toArray,List.set_cons_zero,List.set_cons_succ]
    refine wpAnyH_ready (rs:=[6]) (by kernel_rfl) (by simp) ?_
    refine AllReadyH.cons rfl (fun K hK=>?_) ?_
    rotate_left
    ·exact AllReadyH.nil
    go_simp
    (have hcon:=rSize x hu wr.drew; (with_reducible refine hcon.mono ?_); clear hcon; rintro e w1 ⟨rfl,hw1⟩; subst hw1)
    refine hK.out _ _ hHeld (fun hHeld=>?_)
    clear hK K
    try simp only [Act.put,List.getElem_toArray,List.getElem_cons_succ,List.getElem_cons_zero,List.setIfInBounds_toArray,List.set_cons_zero,List.set_cons_succ]
    refine wpAnyH_take (i:=10) (v:=?vc10) rfl (by kernel_rfl) (by kernel_rfl) (by kernel_rfl) (fun _ _ _ h=>h) (Or.inl ⟨by kernel_rfl,?yc10⟩) (by assumption) ?rc10
    case yc10=>first | ((intro w hSw; (try dsimp only at hSw); go_simp); done) | ((intro w hSw; (try dsimp only at hSw); go_simp); with_reducible rfl)
    simp only [Act.put,List.getElem_toArray,List.getElem_cons_succ,List.getElem_cons_zero,List.setIfInBounds_toArray,List.set_cons_zero,List.set_cons_succ]
    refine wpAnyH_take (i:=11) (v:=?vc11) rfl (by kernel_rfl) (by kernel_rfl) (by kernel_rfl) (fun _ _ _ h=>h) (Or.inl ⟨by kernel_rfl,?yc11⟩) (by assumption) ?rc11
    case yc11=>first | ((intro w hSw; (try dsimp only at hSw); go_simp); done) | ((intro w hSw; (try dsimp only at hSw); go_simp); with_reducible rfl)
    simp only [Act.put,List.getElem_toArray,List.getElem_cons_succ,List.getElem_cons_zero,List.setIfInBounds_toArray,List.set_cons_zero,List.set_cons_succ]
    refine wpAnyH_done (by kernel_rfl) ?_ _
    gi_upto_region 6 with fail
    obtain ⟨J,hJ⟩ : ∃ J,(hdW x+(i:Int)) % 4294967296=J:=⟨_,rfl⟩
    have u4:IntKind.u32.wrap (hdW x+(i:Int))=J:=by rw [wrap32,hJ]
    have hJ0:0≤J:=by rw [← hJ]; omega
    obtain ⟨V,hV,gV⟩:=hname hd0
    rw [← hV]
    clear hV hlb hzb
    obtain ⟨g,hge⟩ : ∃ g,ld m (c.slot p J)=g:=⟨_,rfl⟩
    obtain ⟨hx,-⟩:=hm.at_ (hm.lt_slot hp J)
    rw [hge] at hx
    obtain ⟨y,hy⟩ : ∃ y,IntKind.i64.wrap g=y:=⟨_,rfl⟩
    have hfi:f i=y:=by rw [← hf]; simp only [hJ,hge,hy]
    clear hJ hge
    gi_cut [12,52] from 35 (fun s12 s52 wx=>s12=.int .u64 g∧s52=u52∧Ev.Hold ctx (HR c b3 b4 (.slice av m.cells.length ak) m.cells m.ops (isA (.slice a i cc) ((List.range i).map f)::r)) wx)
    case first =>
     have hd:=hold_keep gV (Below.refl _ _).drew
     have cW:=rSlot_ok c p hp J hJ0
     have cH:=rHead x hu
     have cL:∀ {R:List Ev.Asr} {W:World},Ev.Hold ctx (uA (.slice av m.cells.length ak) m.cells::R) W→_:=fun {R W} hh=>callsIn_wide.1 (rload_in (ctx:=ctx) (r:=R) (w:=W) 0 (ops:=m.ops) hx hh)
     rw [ho'] at cL
     have hdN:Ev.Hold ctx (m06 V.heap.size (.slice none 0 0) 0::HR c b3 b4 (.slice av m.cells.length ak) m.cells m.ops (isA (.slice a i cc) ((List.range i).map f)::r)) (V.alloc (.cells #[(.slice none 0 0),.int .u64 0] 53)).drew:=hold_new [(.slice none 0 0),.int .u64 0] 53 hd
     refine wpIn_wide.2 ?_
     go_region_held3 (fun W=>cfC c b3 W∧W.cell? ⟨b4,0,none⟩=some (.slice av m.cells.length ak)∧W.cell? ⟨b4,1,none⟩=some (.int .u64 m.ops)) ((first | exact hP hd | exact hX hdN | exact hP h1 | exact hX h1x | exact hX h1N | exact hP h2 | exact hX h2x | exact hX h2N | exact hX h4 | exact hX h4x | fail)) ((first
      | (have hcon:=cW V.drew; (with_reducible refine hcon.mono ?_); clear hcon; rintro e w1 ⟨rfl,b1'⟩; (have h1:=hold_keep hd b1'; have h1N:=hold_new [(.slice none 0 0),.int .u64 0] 53 h1))
      | (have hcon:=cW (V.alloc (.cells #[(.slice none 0 0),.int .u64 0] 53)).drew; (with_reducible refine hcon.mono ?_); clear hcon; rintro e w1 ⟨rfl,b1'⟩; have h1x:=hold_keep hdN b1')
      | (have hcon:=cH V.drew; (with_reducible refine hcon.mono ?_); clear hcon; rintro e w1' ⟨rfl,hw1⟩; subst hw1)
      | (have hcon:=cH (V.alloc (.cells #[(.slice none 0 0),.int .u64 0] 53)).drew; (with_reducible refine hcon.mono ?_); clear hcon; rintro e w1' ⟨rfl,hw1⟩; subst hw1)
      | (have hcon:=cL (hold_up [_,_] h1); (with_reducible refine hcon.mono ?_); clear hcon; rintro e w2 ⟨rfl,h2⟩; replace h2:=hold_dn [_,_] h2; have h2N:=hold_new [(.slice none 0 0),.int .u64 0] 53 h2; have h4:=hold_new [(.slice av m.cells.length ak),.int .u64 ops'] 53 h2)
      | (have hcon:=cL (hold_up [_,_,_] h1x); (with_reducible refine hcon.mono ?_); clear hcon; rintro e w2 ⟨rfl,h2⟩; have h2x:=hold_dn [_,_,_] h2; have x0:=blkc h2x 0 _; have x1:=blkc h2x 1 _; have f0:=froz_of (hold_blk h2x) 0; have f1:=froz_of (hold_blk h2x) 1; have h4x:=hold_set 1 (.int .u64 ops') (hold_set 0 (.slice av m.cells.length ak) h2x))
      | (have hcon:=cL (hold_up [_,_,_] h1N); (with_reducible refine hcon.mono ?_); clear hcon; rintro e w2 ⟨rfl,h2⟩; have h2x:=hold_dn [_,_,_] h2; have x0:=blkc h2x 0 _; have x1:=blkc h2x 1 _; have f0:=froz_of (hold_blk h2x) 0; have f1:=froz_of (hold_blk h2x) 1; have h4x:=hold_set 1 (.int .u64 ops') (hold_set 0 (.slice av m.cells.length ak) h2x))))
     all_goals
      gi_wp2
      gi_meet
      case rel=>first | exact ⟨rfl,rfl,hold_drop (r:=[_]) h4⟩ | exact ⟨rfl,rfl,hold_drop (r:=[_]) h4x⟩
    case rest =>
     obtain ⟨rfl,rfl,g2⟩:=hcut
     clear hd0 gV hH
     have hl:((List.range i).map f).length=i:=by simp
     obtain ⟨a5,k5,w5,r5,h5⟩:=iapp1 y (by rw [hl]; omega) (hold_up [_,_,_] g2)
     rw [hl] at r5 h5
     have e:(List.range (i+1)).map f=(List.range i).map f++[y]:=by rw [List.range_succ,List.map_append]; simp [hfi]
     have hin:IntKind.u32.wrap ((i:Int)+1)=(i:Int)+1:=by rw [wrap32]; omega
     have h6:Ev.Hold ctx (HR c b3 b4 (.slice av m.cells.length ak) m.cells m.ops (isA (.slice a5 (i+1) k5) ((List.range (i+1)).map f)::r)) w5:=by rw [e]; exact hsel [_,_,_,_] h5 [1,2,3,0]
     clear hfi e hl h5
     gi_upto_region 5 with (gi_at_builtin; refine wpListIn_append_run rfl _ _ _ rfl r5 ?_)
     gi_wp2
     go_roundw
     ·exact ⟨i+1,a5,k5,rfl,rfl,by omega,h6⟩
     ·simp [intOf]
      omega
   ·have hlb:decide ((i:Int) < szW x)=false:=decide_eq_false hlt
    gi_upto_region 4 with fail
    refine wpIn_wide.2 ?_
    refine wp_region_held_drew (S:=fun W=>W.cell? ⟨b3,0,none⟩=some (.int .i64 (c.n:Int))∧W.cell? ⟨b3,1,none⟩=some (.int .i64 (c.q:Int))∧W.cell? ⟨b3,2,none⟩=some (.int .i64 c.g)∧W.cell? ⟨b3,3,none⟩=some (.int .i64 c.m)∧W.cell? ⟨b3,4,none⟩=some (.int .i64 c.t)∧W.cell? ⟨b3,5,none⟩=some (.int .i64 c.s)∧W.cell? ⟨b4,0,none⟩=some (.slice av m.cells.length ak)∧W.cell? ⟨b4,1,none⟩=some (.int .u64 m.ops)) (by kernel_rfl) ?_ (fun hHeld=>?_)
    ·obtain ⟨⟨s0,s1,s2,s3,s4,s5⟩,s6,s7⟩:=hP hd0
     exact ⟨s0,s1,s2,s3,s4,s5,s6,s7⟩
    refine wpAnyH_take (i:=0) (v:=?vd0) rfl (by kernel_rfl) (by kernel_rfl) (by kernel_rfl) (fun _ _ _ h=>h) (Or.inl ⟨by kernel_rfl,?yd0⟩) (by assumption) ?rd0
    case yd0=>first | ((intro w hSw; (try dsimp only at hSw); go_simp); done) | ((intro w hSw; (try dsimp only at hSw); go_simp); with_reducible rfl)
    simp only [Act.put,List.getElem_toArray,List.getElem_cons_succ,List.getElem_cons_zero,List.setIfInBounds_toArray,List.set_cons_zero,List.set_cons_succ]
    refine wpAnyH_take (i:=1) (v:=?vd1) rfl (by kernel_rfl) (by kernel_rfl) (by kernel_rfl) (fun _ _ _ h=>h) (Or.inl ⟨by kernel_rfl,?yd1⟩) (by assumption) ?rd1
    case yd1=>first | ((intro w hSw; (try dsimp only at hSw); go_simp); done) | ((intro w hSw; (try dsimp only at hSw); go_simp); with_reducible rfl)
    simp only [Act.put,List.getElem_toArray,List.getElem_cons_succ,List.getElem_cons_zero,List.setIfInBounds_toArray,List.set_cons_zero,List.set_cons_succ]
    refine wpAnyH_ready (rs:=[2]) (by kernel_rfl) (by simp) ?_
    refine AllReadyH.cons rfl (fun K hK=>?_) ?_
    rotate_left
    ·exact AllReadyH.nil
    go_simp
    (have hcon:=rSize x hu wr.drew; (with_reducible refine hcon.mono ?_); clear hcon; rintro e w1 ⟨rfl,hw1⟩; subst hw1)
    refine hK.out _ _ hHeld (fun hHeld=>?_)
    clear hK K
    try simp only [Act.put,List.getElem_toArray,List.getElem_cons_succ,List.getElem_cons_zero,List.setIfInBounds_toArray,List.set_cons_zero,List.set_cons_succ]
    refine wpAnyH_take (i:=3) (v:=?ve3) rfl (by kernel_rfl) (by kernel_rfl) (by kernel_rfl) (fun _ _ _ h=>h) (Or.inl ⟨by kernel_rfl,?ye3⟩) (by assumption) ?re3
    case ye3=>first | ((intro w hSw; (try dsimp only at hSw); go_simp); done) | ((intro w hSw; (try dsimp only at hSw); go_simp); with_reducible rfl)
    simp only [Act.put,List.getElem_toArray,List.getElem_cons_succ,List.getElem_cons_zero,List.setIfInBounds_toArray,List.set_cons_zero,List.set_cons_succ]
    refine wpAnyH_take (i:=4) (v:=?ve4) rfl (by kernel_rfl) (by kernel_rfl) (by kernel_rfl) (fun _ _ _ h=>h) (Or.inl ⟨by kernel_rfl,?ye4⟩) (by assumption) ?re4
    case ye4=>first | ((intro w hSw; (try dsimp only at hSw); go_simp); done) | ((intro w hSw; (try dsimp only at hSw); go_simp); with_reducible rfl)
    simp only [Act.put,List.getElem_toArray,List.getElem_cons_succ,List.getElem_cons_zero,List.setIfInBounds_toArray,List.set_cons_zero,List.set_cons_succ]
    refine wpAnyH_take (i:=5) (v:=undef) rfl (by kernel_rfl) (by kernel_rfl) (by kernel_rfl) (fun _ _ _ h=>h) (Or.inr ⟨by kernel_rfl,rfl⟩) (by assumption) ?_
    simp only [Act.put,List.getElem_toArray,List.getElem_cons_succ,List.getElem_cons_zero,List.setIfInBounds_toArray,List.set_cons_zero,List.set_cons_succ]
    refine wpAnyH_take (i:=6) (v:=undef) rfl (by kernel_rfl) (by kernel_rfl) (by kernel_rfl) (fun _ _ _ h=>h) (Or.inr ⟨by kernel_rfl,rfl⟩) (by assumption) ?_
    simp only [Act.put,List.getElem_toArray,List.getElem_cons_succ,List.getElem_cons_zero,List.setIfInBounds_toArray,List.set_cons_zero,List.set_cons_succ]
    refine wpAnyH_take (i:=7) (v:=undef) rfl (by kernel_rfl) (by kernel_rfl) (by kernel_rfl) (fun _ _ _ h=>h) (Or.inr ⟨by kernel_rfl,rfl⟩) (by assumption) ?_
    simp only [Act.put,List.getElem_toArray,List.getElem_cons_succ,List.getElem_cons_zero,List.setIfInBounds_toArray,List.set_cons_zero,List.set_cons_succ]
    refine wpAnyH_take (i:=8) (v:=undef) rfl (by kernel_rfl) (by kernel_rfl) (by kernel_rfl) (fun _ _ _ h=>h) (Or.inr ⟨by kernel_rfl,rfl⟩) (by assumption) ?_
    simp only [Act.put,List.getElem_toArray,List.getElem_cons_succ,List.getElem_cons_zero,List.setIfInBounds_toArray,List.set_cons_zero,List.set_cons_succ]
    refine wpAnyH_take (i:=9) (v:=undef) rfl (by kernel_rfl) (by kernel_rfl) (by kernel_rfl) (fun _ _ _ h=>h) (Or.inr ⟨by kernel_rfl,rfl⟩) (by assumption) ?_
    simp only [Act.put,List.getElem_toArray,List.getElem_cons_succ,List.getElem_cons_zero,List.setIfInBounds_toArray,List.set_cons_zero,List.set_cons_succ]
    refine wpAnyH_take (i:=10) (v:=undef) rfl (by kernel_rfl) (by kernel_rfl) (by kernel_rfl) (fun _ _ _ h=>h) (Or.inr ⟨by kernel_rfl,rfl⟩) (by assumption) ?_
    simp only [Act.put,List.getElem_toArray,List.getElem_cons_succ,List.getElem_cons_zero,List.setIfInBounds_toArray,List.set_cons_zero,List.set_cons_succ]
    refine wpAnyH_take (i:=11) (v:=?ve11) rfl (by kernel_rfl) (by kernel_rfl) (by kernel_rfl) (fun _ _ _ h=>h) (Or.inl ⟨by kernel_rfl,?ye11⟩) (by assumption) ?re11
    case ye11=>first | ((intro w hSw; (try dsimp only at hSw); go_simp); done) | ((intro w hSw; (try dsimp only at hSw); go_simp); with_reducible rfl)
    simp only [Act.put,List.getElem_toArray,List.getElem_cons_succ,List.getElem_cons_zero,List.setIfInBounds_toArray,List.set_cons_zero,List.set_cons_succ]
    refine wpAnyH_done (by kernel_rfl) ?_ _
    have he:Aside ((szW x).toNat=i):=by show _=_; omega
    gi_wp2
    refine bodyPost_ret (results_tmp rfl _ _ _) rfl ⟨_,rfl,?_⟩
    rw [he.out]
    exact hsel [_,_,_,_] hd0 [3,2]
end
end Go.Proofs.YtkmccgombmogmaaGreat
namespace Go.Proofs.YtkmccgombmogmaaGreat
open Go.RowKit
set_option linter.unusedVariables false
set_option linter.unusedSimpArgs false
set_option maxRecDepth 8000
theorem infBool:∃ i,Tryz.prog.info? 4 = some i∧i.size=1∧i.zero=some (.bool false)∧i.bytes=1:=info_z (by kernel_rfl)
def nums (n:Nat) : List Int:=(List.range n).map (fun i:Nat=>(i:Int))
def seen (l:List Int) (n k:Nat) : List Value:=(List.range n).map (fun i:Nat=>Value.bool (decide ((i:Int) ∈ l.take k)))
theorem seen_len (l:List Int) (n k:Nat) : (seen l n k).length=n:=by simp [seen]
theorem seen_get {l:List Int} {n k j:Nat} (h:j < n) : (seen l n k)[j]? = some (.bool (decide ((j:Int) ∈ l.take k))):=by simp [seen,h]
theorem seen_set {l:List Int} {n k j:Nat} (hk:k < l.length) (hj:l[k]=(j:Int)) (hn:j < n) : (seen l n k).set j (.bool true)=seen l n (k+1):=by
 apply List.ext_getElem?
 intro i
 by_cases hi:i < n
 ·rw [seen_get hi]
  have e:l.take (k+1)=l.take k++[(j:Int)]:=by rw [List.take_add_one,List.getElem?_eq_getElem hk,hj]; rfl
  by_cases e2:j=i
  ·subst e2
   rw [List.getElem?_set_self (by rw [seen_len]; exact hn),e]
   simp
  ·rw [List.getElem?_set_ne e2,seen_get hi,e]
   have:¬ (i:Int)=(j:Int):=by omega
   simp [this]
 ·rw [List.getElem?_eq_none (by simp [seen]; omega),List.getElem?_eq_none (by simp [seen]; omega)]
theorem own_mk {ctx:Ev.Ctx} {l:List Ev.Asr} {e:TypeId} {n:Nat} {v:Value} {xs:List Value} {w w':World} (h:Ev.Hold ctx l w) (ho:w'.ownsRow w.heap.size e 1 v n xs) (hb:Below w.heap.size w w') : Ev.Hold ctx (Ev.slA e 1 v n xs::l) w':=hold_own h ho hb
set_option maxHeartbeats 2000000 in
theorem once_in (m:Nat) {lv:Value} {l:List Int} {n:Nat} (hp:l.Perm (nums n)) (hn:n≤100000) {F:Nat→Prop} {w:World} (h:Ev.Now [isA lv l] F w) :
  CallsIn Fence.wide m Tryz.prog 20 #[lv,.int .i64 (n:Int)] w fun e w'=>e=.returned (.bool true)∧Ev.Hold ⟨w,F⟩ [isA lv l] w':=by
 refine callsIn_of_wp Tryz.func20 rfl trivial ?_ rfl
 simp only [Tryz.ntmps20,List.size_toArray,List.length_cons,List.length_nil,Nat.reduceAdd,Nat.reduceSub,Array.replicate_succ,Array.replicate_zero,List.push_toArray,List.append_toArray,List.nil_append,List.cons_append]
 have hlen:l.length=n:=by rw [hp.length_eq]; simp [nums]
 have hnd:l.Nodup:=hp.nodup_iff.2 (by
  unfold nums
  rw [List.Nodup,List.pairwise_map]
  exact (List.nodup_range (n:=n)).imp (fun hab e=>hab (by omega)))
 have hbd:∀ k (hk:k < l.length),∃ j:Nat,l[k]=(j:Int)∧j < n:=fun k hk=>by
  have hm:l[k] ∈ nums n:=hp.mem_iff.1 (List.getElem_mem hk)
  unfold nums at hm
  obtain ⟨i,hi,ei⟩:=List.mem_map.1 hm
  exact ⟨i,ei.symm,List.mem_range.1 hi⟩
 have hst:=Ev.Hold.start h
 obtain ⟨a0,c0,rfl⟩:=slr_val (hold_slr hst)
 obtain ⟨i0,hi,hz1,hz0,hz2⟩:=infBool
 obtain ⟨w1,r1,r2,r3⟩:=run_make_full (P:=Tryz.prog) w w.heap.size 99 4 i0 (.bool false) 1 Tryz.underlying99 hi hz0 hz1 .i64 .i64 n (by rw [hz2]; omega) (by unfold maxLen; omega) (Nat.le_refl _)
 have hB1:Below w.heap.size w w1:=Ev.grown_below r3
 have hrow:(madeCells (Value.bool false).cells (n * 1)).toList=seen l n 0:=by
  rw [Nat.mul_one]
  show (madeCells #[Value.bool false] n).toList=_
  rw [toList_madeCells_one]
  apply List.ext_getElem
  ·simp [seen]
  ·intro i h1 h2
   simp [seen]
 rw [hrow] at r2
 have h1:=own_mk hst r2 hB1
 have hlI:(l.length:Int)=(n:Int):=by omega
 have A:Aside ((∀ k (hk:k < l.length),∃ j:Nat,l[k]=(j:Int)∧j < n)∧l.Nodup):=⟨hbd,hnd⟩
 clear hbd hnd hp
 obtain ⟨L,hL⟩ : ∃ L,l.length=L:=⟨_,rfl⟩
 rw [hL] at hlI hlen ⊢
 have hst':Ev.SlR 1 (.slice a0 L c0) L (ints l) w:=by rw [← hL]; exact hold_slr hst
 gi_wp2
 gi_loopw [6] (fun q wr=>∃ k:Nat,q=.int .i64 (k:Int)∧k≤L∧Ev.Hold ⟨w,F⟩ [Ev.slA 4 1 (.slice (some ⟨w.heap.size,0,none⟩) n n) n (seen l n k),isA (.slice a0 L c0) l] wr) (fun q _=>L - (intOf q).toNat)
 case atStart=>exact ⟨0,rfl,Nat.zero_le _,by rw [← hL]; exact h1⟩
 case round =>
  obtain ⟨k,rfl,hk,hH⟩:=hrel
  by_cases hlt:k < L
  ·have hlI2:(k:Int) < (L:Int):=by omega
   have hkl:k < l.length:=by omega
   obtain ⟨j,hj,hjn⟩:=A.out.1 k hkl
   have hs:Ev.SlR 1 (.slice a0 l.length c0) l.length (ints l) wr:=by rw [hL]; have:=hold_slr (hold_swap hH); rwa [hL] at this
   obtain ⟨b1,o1,rfl,g1⟩:=slr_cell hs hkl
   have hgk:l.getD k 0=(j:Int):=by rw [List.getD_eq_getElem?_getD,List.getElem?_eq_getElem hkl]; exact hj
   rw [hgk] at g1
   have hjI:(j:Int) < (n:Int):=by omega
   have hj0:¬ (j:Int) < 0:=by omega
   have hjn':¬ (j:Int) ≥ (n:Int):=by omega
   have hnm:¬ (j:Int) ∈ l.take k:=by
    rw [← hj]
    intro hm
    obtain ⟨i,hi,e⟩:=List.getElem_of_mem hm
    rw [List.length_take] at hi
    rw [List.getElem_take] at e
    have hik:i < l.length:=by omega
    have:=(List.getElem?_inj (i:=i) (j:=k) hik A.out.2).1 (by rw [List.getElem?_eq_getElem hik,List.getElem?_eq_getElem hkl,e])
    omega
   have c1:wr.cell? ⟨w.heap.size,j,none⟩=some (.bool false):=by
    rcases (hold_slr hH).2 with ⟨e,_⟩ | ⟨b2,off,c2,e,_,hc⟩
    ·omega
    ·cases e
     have:=hc j (by omega)
     rw [Nat.zero_add] at this
     rw [this,seen_get hjn,decide_eq_false hnm]
   have f1:wr.frozen? ⟨w.heap.size,j,none⟩=false:=by
    obtain ⟨f,hf⟩:=hH.first
    obtain ⟨_,⟨_,h0,_⟩ | ⟨b',off,c',arr,e,_,hb,_⟩⟩:=hf
    ·omega
    ·cases e
     exact froz_of hb j
   have h2:=hold_setS (i:=j) (.bool true) (by omega) hH
   rw [Nat.zero_add,seen_set hkl hj hjn] at h2
   gi_wp2
   exact ⟨⟨k+1,rfl,by omega,h2⟩,by simp [intOf]; omega⟩
  ·obtain rfl:k=L:=by omega
   have hfin:Ev.Hold ⟨w,F⟩ [isA (.slice a0 k c0) l] wr:=hH.sel [1] (by kernel_rfl)
   have hlI2:¬ ((k:Nat) : Int) < (k:Int):=by omega
   subst hlen
   gi_wp2
   exact bodyPost_ret (results_tmp rfl _ _ _) rfl ⟨rfl,hfin⟩
end Go.Proofs.YtkmccgombmogmaaGreat
namespace Go.Proofs.YtkmccgombmogmaaGreat
open Go.RowKit
set_option linter.unusedVariables false
set_option linter.unusedSimpArgs false
set_option maxRecDepth 8000
section
variable {ctx:Ev.Ctx} {w:World} {r:List Ev.Asr} {b:RB} {c:Cfg} {x:RaceS} {p:Nat} {o:OwnS} {B:Int} {M:MacS}
theorem a_open (h:Ev.Hold ctx (raceA b c x::r) w) : ∃ es,Ev.Hold ctx (r++raceL b c x es) w:=by
 obtain ⟨es,h1⟩:=race_open h
 exact ⟨es,hold_perm List.perm_append_comm h1⟩
theorem a_shut {es:Nat→OwnV} (h:Ev.Hold ctx (r++raceL b c x es) w) : Ev.Hold ctx (raceA b c x::r) w:=race_close (hold_perm List.perm_append_comm h)
theorem abusy (n:Nat) (hp:p < c.n) (ho:x.ow[p]? = some o) (h:Ev.Hold ctx (raceA b c x::r) w) :
  CallsIn Fence.wide n Tryz.prog 12 #[.pointer (some ⟨b.br,0,none⟩),.int .i64 (p:Int)] w fun e w'=>e=.returned (.bool o.mac.isSome)∧w'=w:=by
 obtain ⟨es,h1⟩:=a_open h
 obtain ⟨F,k1,_⟩:=own_mac hp ho h1
 exact busy_in n (race_at h1) hp (row_at hp ho h1 rfl) (mac_val (Ev.Hold.start k1))
theorem abegin (n:Nat) (hlen:x.ow.length=c.n) (ho:x.ow[p]? = some o) (kd cv cg:Int) (h:Ev.Hold ctx (raceA b c x::r) w) :
  CallsIn Fence.wide n Tryz.prog 11 #[.pointer (some ⟨b.br,0,none⟩),.int .i64 (p:Int),.agg #[.int .i64 kd,.int .i64 cv,.int .i64 cg]] w fun e w'=>e=.returned (.int .i64 (begErr c p o kd cv cg))∧Ev.Hold ctx (raceA b c (begRace c x p o kd cv cg)::r) w':=by
 obtain ⟨F,k1,back⟩:=hold_fr [raceA b c x] h
 exact (begin_in n hlen ho kd cv cg k1).mono (fun e w' ⟨e1,hh⟩=>⟨e1,back _ _ hh⟩)
theorem astep (n:Nat) (hI:RaceI c B x) (hB:B+8≤1073741824) (ho:x.ow[p]? = some o) (hM:o.mac=some M) (h:Ev.Hold ctx (raceA b c x::r) w) :
  CallsIn Fence.wide n Tryz.prog 13 #[.pointer (some ⟨b.br,0,none⟩),.int .i64 (p:Int)] w fun e w'=>∃ a k,e=.returned (.tuple #[.agg #[.int .i64 (OutS.k (raceStep c x p o M).2),.int .i64 (OutS.g (raceStep c x p o M).2),.slice a (OutS.l (raceStep c x p o M).2).length k],.bool (raceStep c x p o M).2.isSome])∧Ev.Hold ctx (isA (.slice a (OutS.l (raceStep c x p o M).2).length k) (OutS.l (raceStep c x p o M).2)::raceA b c (raceStep c x p o M).1::r) w':=by
 obtain ⟨F,k1,back⟩:=hold_fr [raceA b c x] h
 refine (step_in n hI hB ho hM k1).mono ?_
 rintro e w' ⟨v,lv,rfl,hh⟩
 obtain ⟨a,k,rfl⟩:=slr_val (hold_slr hh)
 exact ⟨a,k,rfl,back _ _ hh⟩
theorem aidle (n:Nat) (hp:p < c.n) (ho:x.ow[p]? = some o) (hM:o.mac=none) (h:Ev.Hold ctx (raceA b c x::r) w) :
  CallsIn Fence.wide n Tryz.prog 13 #[.pointer (some ⟨b.br,0,none⟩),.int .i64 (p:Int)] w fun e w'=>e=.returned (.tuple #[.agg #[.int .i64 0,.int .i64 0,.slice none 0 0],.bool false])∧Ev.Hold ctx (raceA b c x::r) w':=by
 refine callsIn_of_wp Tryz.func13 rfl trivial ?_ rfl
 simp only [Tryz.ntmps13,List.size_toArray,List.length_cons,List.length_nil,Nat.reduceAdd,Nat.reduceSub,Array.replicate_succ,Array.replicate_zero,List.push_toArray,List.append_toArray,List.nil_append,List.cons_append]
 obtain ⟨W1,hW1⟩ : ∃ W1,w.alloc (.cells #[.int .i64 0,.int .i64 0,.slice none 0 0] 37)=W1:=⟨_,rfl⟩
 have h1:Ev.Hold ctx (Ev.blkA w.heap.size [.int .i64 0,.int .i64 0,.slice none 0 0] 37 :: raceA b c x::r) W1:=by rw [← hW1]; exact hold_new _ _ h
 have hb:=abusy (n - 1) hp ho (hold_swap h1)
 rw [hM] at hb
 have bt:=hold_blk h1
 have t0:W1.cell? ⟨w.heap.size,0,none⟩=some (.int .i64 0):=cell_of bt 0 _ rfl
 have t1:W1.cell? ⟨w.heap.size,1,none⟩=some (.int .i64 0):=cell_of bt 1 _ rfl
 have t2:W1.cell? ⟨w.heap.size,2,none⟩=some (.slice none 0 0):=cell_of bt 2 _ rfl
 have f0:W1.frozen? ⟨w.heap.size,0,none⟩=false:=froz_of bt 0
 have f1:W1.frozen? ⟨w.heap.size,1,none⟩=false:=froz_of bt 1
 have f2:W1.frozen? ⟨w.heap.size,2,none⟩=false:=froz_of bt 2
 have h9:=hold_set 2 (.slice none 0 0) (hold_set 1 (.int .i64 0) (hold_set 0 (.int .i64 0) h1))
 gi_wp2
 refine ⟨trivial,fun h=>by simp [Fence.wide] at h,hb.mono ?_⟩
 rintro e w' ⟨rfl,hw'⟩
 replace hw':=hw'.symm
 subst hw'
 gi_wp2
 exact post_cellT rfl rfl rfl (loadOut _ _ _ _ _ (hold_blk h9)) ⟨rfl,hold_drop (r:=[_]) h9⟩
theorem afits (n:Nat) (hx:x.bad=false) (h:Ev.Hold ctx (raceA b c x::r) w) :
  CallsIn Fence.wide n Tryz.prog 16 #[.pointer (some ⟨b.br,0,none⟩)] w fun e w'=>e=.returned (.bool true)∧w'=w:=by
 refine callsIn_of_wp Tryz.func16 rfl trivial ?_ rfl
 simp only [Tryz.ntmps16,List.size_toArray,List.length_cons,List.length_nil,Nat.reduceAdd,Nat.reduceSub,Array.replicate_succ,Array.replicate_zero,List.push_toArray,List.append_toArray,List.nil_append,List.cons_append]
 obtain ⟨es,h1⟩:=a_open h
 have e9:w.cell? ⟨b.br,9,none⟩=some (.bool false):=cell_of (race_at h1) 9 _ (by rw [← hx]; rfl)
 gi_wp2
 exact bodyPost_ret (results_tmp rfl _ _ _) rfl ⟨rfl,rfl⟩
theorem aring (n:Nat) (hp:p < c.n) (hm:MemOk c x.m) (h:Ev.Hold ctx (raceA b c x::r) w) :
  CallsIn Fence.wide n Tryz.prog 15 #[.pointer (some ⟨b.br,0,none⟩),.int .i64 (p:Int)] w fun e w'=>∃ a k,e=.returned (.slice a (ringL c x.m p).length k)∧Ev.Hold ctx (isA (.slice a (ringL c x.m p).length k) (ringL c x.m p)::raceA b c x::r) w':=by
 obtain ⟨es,h1⟩:=a_open h
 refine (rring_in n hp hm h1).mono ?_
 rintro e w' ⟨a,k,rfl,hh⟩
 exact ⟨a,k,rfl,hold_swap (a_shut (r:=isA _ _::r) hh)⟩
theorem adeque (n:Nat) (hq:c.q≤8) (hp:p < c.n) (ho:x.ow[p]? = some o) (hd:DqOk c o.dq) (h:Ev.Hold ctx (raceA b c x::r) w) :
  CallsIn Fence.wide n Tryz.prog 18 #[.pointer (some ⟨b.br,0,none⟩),.int .i64 (p:Int)] w fun e w'=>∃ a k,e=.returned (.slice a (dqAll c o.dq).length k)∧Ev.Hold ctx (isA (.slice a (dqAll c o.dq).length k) (dqAll c o.dq)::raceA b c x::r) w':=by
 obtain ⟨es,h1⟩:=a_open h
 refine (rdeque_in n hq hp ho hd h1).mono ?_
 rintro e w' ⟨a,k,rfl,hh⟩
 exact ⟨a,k,rfl,hold_swap (a_shut (r:=isA _ _::r) hh)⟩
theorem ahands (n:Nat) (hp:p < c.n) (ho:x.ow[p]? = some o) (hm:MemOk c x.m) (hM:∀ M,o.mac=some M→MacOk c p M) (h:Ev.Hold ctx (raceA b c x::r) w) :
  CallsIn Fence.wide n Tryz.prog 19 #[.pointer (some ⟨b.br,0,none⟩),.int .i64 (p:Int)] w fun e w'=>∃ a k,e=.returned (.slice a (handsO o).length k)∧Ev.Hold ctx (isA (.slice a (handsO o).length k) (handsO o)::raceA b c x::r) w':=by
 obtain ⟨es,h1⟩:=a_open h
 refine (rhands_in n hp ho hm hM h1).mono ?_
 rintro e w' ⟨a,k,rfl,hh⟩
 exact ⟨a,k,rfl,hold_swap (a_shut (r:=isA _ _::r) hh)⟩
theorem anew (n:Nat) (c:Cfg) (h:Ev.Hold ctx r w) :
  CallsIn Fence.wide n Tryz.prog 10 #[c.v] w fun e w'=>∃ b:RB,e=.returned (.tuple #[.pointer (some ⟨b.br,0,none⟩),.int .i64 0])∧Ev.Hold ctx (raceA b c (newRace c)::r) w':=by
 obtain ⟨F,k1,back⟩:=hold_fr (lp:=[]) (rest:=r) h
 refine (new_in n c k1).mono ?_
 rintro e w' ⟨b,rfl,hh⟩
 exact ⟨b,rfl,back _ _ hh⟩
end
end Go.Proofs.YtkmccgombmogmaaGreat
namespace Go.Proofs.YtkmccgombmogmaaGreat
open Go.RowKit
set_option linter.unusedVariables false
set_option linter.unusedSimpArgs false
set_option maxRecDepth 8000
end Go.Proofs.YtkmccgombmogmaaGreat
namespace Go.Proofs.YtkmccgombmogmaaGreat
open Go.RowKit
open Go.Ev (iz uz iN)
set_option linter.unusedVariables false
set_option linter.unusedSimpArgs false
set_option maxRecDepth 8000
theorem infOw:∃ i z,Tryz.prog.info? 114 = some i∧i.size=54∧i.zero=some z∧z.cells.size=54∧i.bytes≤4096:=by
 have h:((Tryz.prog.info? 114).map (fun i=>decide (i.size=54) && decide (i.bytes≤4096) && (match i.zero with | some z=>decide (z.cells.size=54) | none=>false)))=some true:=by kernel_rfl
 cases hi:Tryz.prog.info? 114 with
 | none=>rw [hi] at h; cases h
 | some i =>
  rw [hi] at h
  simp only [Option.map_some,Option.some.injEq,Bool.and_eq_true,decide_eq_true_eq] at h
  cases hz:i.zero with
  | none=>rw [hz] at h; exact absurd h.2 (by decide)
  | some z =>
   rw [hz] at h
   exact ⟨i,z,rfl,h.1.1,hz,by simpa using h.2,h.1.2⟩
theorem appOw {ctx:Ev.Ctx} {w:World} {r:List Ev.Asr} {lv:Value} {n:Nat} {xs:List Value} (hn:n≤8) (h1:∀ x ∈ xs,x.oneCell'=true) (h:Ev.Hold ctx (Ev.slA 114 54 lv n xs::r) w) :
  ∃ a k w',(Builtin.append_ #[54,54] 54 #[.slice none 0 0,lv]).run Tryz.prog w=.ok (.slice a n k) w'∧Ev.Hold ctx (Ev.slA 114 54 (.slice a n k) n xs::Ev.slA 114 54 lv n xs::r) w':=by
 obtain ⟨i,z,hi,hz,h0,hzs,hby⟩:=infOw
 have hs:=hold_slr h
 have h':=h.nilSl (e := 114) (sz:=54)
 obtain ⟨F',m1,m2,m3⟩:=h'.ex
 obtain ⟨Fa,Fl,k1,k2,k3,k4⟩:=Ev.now_uncons m1
 have k1':Ev.SlV 114 i.size (.slice none 0 0) 0 [] Fa w:=by rw [hz]; exact k1
 have hsrc:Src Tryz.prog i.size 54 lv n xs w:=by rw [hz]; exact hs.src Tryz.underlying54 h1
 obtain ⟨v',w',G,r1,r2,r3,r4⟩:=Ev.SlV.append (ty := 54) k1' Tryz.underlying54 hi h0 (by rw [hz]; exact hzs) hsrc (by rw [Nat.zero_add]; have:n * i.bytes≤8 * 4096:=Nat.mul_le_mul hn hby; omega) (by omega)
 have hFl:∀ j,Fl j→w'.heap[j]? = w.heap[j]?:=fun j hj=>r3.block j (k2.lt j hj) (fun hf=>k3 j hf hj)
 have q1:=Ev.now_keep k2 hFl r3.size
 have q0:(Ev.slA 114 54 v' n xs).p (fun _=>none) G w':=by
  show Ev.SlV 114 54 v' n xs G w'
  rw [hz,Nat.zero_add,List.nil_append] at r2
  exact r2
 have q2:=Ev.now_cons (a:=Ev.slA 114 54 v' n xs) (Fa:=G) q0 q1 (fun j hj=>(r4 j hj).1) (fun j hj hl=>by
  rcases (r4 j hj).2 with h | h
  ·exact k3 j h hl
  ·have:=k2.lt j hl
   omega)
 have hfin:Ev.Hold ctx (Ev.slA 114 54 v' n xs::Ev.slA 114 54 lv n xs::r) w':=by
  refine ⟨_,q2,⟨r3.os.trans m2.os,r3.tape.trans m2.tape,r3.output.trans m2.output,Nat.le_trans m2.size r3.size,fun j hj hx=>?_⟩,fun j hj=>?_⟩
  ·refine (r3.block j (Nat.lt_of_lt_of_le hj m2.size) (fun hf=>?_)).trans (m2.block j hj hx)
   rcases m3 j ((k4 j).2 (.inl hf)) with h | h
   ·exact hx h
   ·omega
  ·rcases hj with hj | hj
   ·rcases (r4 j hj).2 with h | h
    ·exact m3 j ((k4 j).2 (.inl h))
    ·exact .inr (Nat.le_trans m2.size h)
   ·exact m3 j ((k4 j).2 (.inr hj))
 obtain ⟨a,k,rfl⟩:=slr_val (hold_slr hfin)
 exact ⟨a,k,w',r1,hfin⟩
def rV (c:Cfg) (rv:Value) (ops:Int) (lv:Value) (pts:Int) : List Value:=[iN c.n,iN c.q,iz c.g,iz c.m,iz c.t,iz c.s,rv,uz ops,lv,iz pts]
abbrev rZ:List Value:=[.int .i64 0,.int .i64 0,.int .i64 0,.int .i64 0,.int .i64 0,.int .i64 0,.slice none 0 0,.int .u64 0,.slice none 0 0,.int .i64 0]
section
variable {ctx:Ev.Ctx} {w:World} {r:List Ev.Asr} {c:Cfg} {rv:Value} {ops pts:Int} {n p:Nat} {pre mid post oc:List Value} {la ra:Option Addr} {lk rn rk:Nat}
set_option maxHeartbeats 4000000 in
theorem with12 (m:Nat) (hn:n≤8) (hp:p < n) (hpre:pre.length=p * 54) (hmid:mid.length=54) (hoc:oc.length=54) (h1:∀ x ∈ oc,x.oneCell'=true) (h2:∀ x ∈ pre++(mid++post),x.oneCell'=true) (h:Ev.Hold ctx (Ev.slA 114 54 (.slice la n lk) n (pre++(mid++post))::r) w) :
  CallsIn Fence.wide m Tryz.prog 52 #[.agg (rV c (.slice ra rn rk) ops (.slice la n lk) pts).toArray,.int .i64 (p:Int),.agg oc.toArray] w fun e w'=>∃ a k,e=.returned (.agg (rV c (.slice ra rn rk) ops (.slice a n k) pts).toArray)∧Ev.Hold ctx (Ev.slA 114 54 (.slice a n k) n (pre++(oc++post))::r) w':=by
 refine callsIn_of_wp Tryz.func52 rfl trivial ?_ rfl
 simp only [Tryz.ntmps52,List.size_toArray,List.length_cons,List.length_nil,Nat.reduceAdd,Nat.reduceSub,Array.replicate_succ,Array.replicate_zero,List.push_toArray,List.append_toArray,List.nil_append,List.cons_append]
 obtain ⟨b1,hb1⟩ : ∃ b1,w.heap.size=b1:=⟨_,rfl⟩
 have g1:=hold_new (rV c (.slice ra rn rk) ops (.slice la n lk) pts) 56 h
 rw [hb1] at g1
 obtain ⟨W1,hW1⟩ : ∃ W1,w.alloc (.cells (rV c (.slice ra rn rk) ops (.slice la n lk) pts).toArray 56)=W1:=⟨_,rfl⟩
 rw [hW1] at g1
 obtain ⟨b2,hb2⟩ : ∃ b2,W1.heap.size=b2:=⟨_,rfl⟩
 have g2:=hold_new oc 114 g1
 rw [hb2] at g2
 obtain ⟨W2,hW2⟩ : ∃ W2,W1.alloc (.cells oc.toArray 114)=W2:=⟨_,rfl⟩
 rw [hW2] at g2
 obtain ⟨b3,hb3⟩ : ∃ b3,W2.heap.size=b3:=⟨_,rfl⟩
 have g3:=hold_new rZ 56 g2
 rw [hb3] at g3
 obtain ⟨W3,hW3⟩ : ∃ W3,W2.alloc (.cells #[.int .i64 0,.int .i64 0,.int .i64 0,.int .i64 0,.int .i64 0,.int .i64 0,.slice none 0 0,.int .u64 0,.slice none 0 0,.int .i64 0] 56)=W3:=⟨_,rfl⟩
 replace g3:Ev.Hold ctx (Ev.blkA b3 rZ 56 :: Ev.blkA b2 oc 114 :: Ev.blkA b1 (rV c (.slice ra rn rk) ops (.slice la n lk) pts) 56 :: Ev.slA 114 54 (.slice la n lk) n (pre++(mid++post))::r) W3:=by rw [← hW3]; exact g3
 have c8:W3.cell? ⟨b1,8,none⟩=some (.slice la n lk):=cell_of (hold_blk (hold_up [_,_] g3)) 8 _ rfl
 obtain ⟨a,k,w4,r1,g4⟩:=appOw hn h2 (hold_up [_,_,_] g3)
 obtain ⟨ba,off,kk,hav,hcc,hll⟩:=sl_some g4 (by omega) (by decide)
 cases hav
 have r2:=ld_blk (pre:=[]) (post:=[]) (o:=0) (t := 114) (by rw [List.append_nil]; exact hold_up [_,_,_] g4) rfl Tryz.underlying114 rfl (by rw [hoc]; kernel_rfl)
 obtain ⟨w5,r3,g5⟩:=st_sl (o:=off+p * 54) (t := 114) g4 (by rw [hpre]) (by rw [hoc,hmid]) h1 (by rw [hoc]; kernel_rfl) (by omega)
 have d8:w5.cell? ⟨b1,8,none⟩=some (.slice la n lk):=cell_of (hold_blk (hold_up [_,_,_,_] g5)) 8 _ rfl
 have f8:w5.frozen? ⟨b1,8,none⟩=false:=froz_of (hold_blk (hold_up [_,_,_,_] g5)) 8
 have g6:=hold_set 8 (.slice (some ⟨ba,off,none⟩) n k) (hold_up [_,_,_,_] g5)
 rw [show (rV c (.slice ra rn rk) ops (.slice la n lk) pts).set 8 (.slice (some ⟨ba,off,none⟩) n k)=rV c (.slice ra rn rk) ops (.slice (some ⟨ba,off,none⟩) n k) pts from rfl] at g6
 have hpI:(p:Int) < (n:Int):=by omega
 have r4:=ld_blk (pre:=[]) (post:=[]) (o:=0) (t := 56) (by rw [List.append_nil]; exact g6) rfl Tryz.underlying56 rfl (by kernel_rfl)
 obtain ⟨w7,r5,g7⟩:=st_blk (pre:=[]) (post:=[]) (o:=0) (t := 56) (mid:=rZ) (mid':=rV c (.slice ra rn rk) ops (.slice (some ⟨ba,off,none⟩) n k) pts) (by rw [List.append_nil]; exact hold_up [_,_,_] g6) rfl rfl (by simp [rV,Value.oneCell']) (by kernel_rfl)
 gi_wp2_with (first
  | (gi_at_builtin; refine wpListIn_append_run rfl _ _ _ rfl r1 ?_)
  | (refine wpListIn_load_run rfl _ _ rfl r2 rfl ?_)
  | (refine wpListIn_store_run rfl _ _ _ rfl r3 rfl rfl ?_)
  | (refine wpListIn_load_run rfl _ _ rfl r4 rfl ?_)
  | (refine wpListIn_store_run rfl _ _ _ rfl r5 rfl rfl ?_))
 refine post_cell rfl rfl rfl (lv_blk (pre:=[]) (post:=[]) (o:=0) (by rw [List.append_nil]; exact g7) rfl Tryz.underlying56 rfl (by kernel_rfl)) ?_
 exact ⟨_,_,rfl,hold_drop (r:=[_,_]) (hold_dn [_,_] (hold_drop (r:=[_,_]) g7))⟩
end
end Go.Proofs.YtkmccgombmogmaaGreat
