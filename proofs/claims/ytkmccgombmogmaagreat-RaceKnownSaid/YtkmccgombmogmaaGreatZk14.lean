/- Part of a proof: see the last text. -/
import Derived.Test.YtkmccgombmogmaaGreatZk13
import Derived.Test.YtkmccgombmogmaaGreatZk5
import Derived.Test.YtkmccgombmogmaaGreatZk3
import Derived.Test.YtkmccgombmogmaaGreatZk4
import Derived.LoopNIn
import Derived.LoopIn
namespace Go.Proofs.YtkmccgombmogmaaGreat
open Go.RowKit
set_option linter.unusedVariables false
set_option linter.unusedSimpArgs false
set_option maxRecDepth 8000
abbrev g10L (c:Cfg) (p:Nat) (st w0 sn gt:Int) (has:Bool) (tr:Int) : List Value:=cpL c p [.int .i64 st,.int .u64 w0,.int .i64 sn,.int .i64 gt,.bool has,.int .i64 tr]
def g10 (c:Cfg) (p:Nat) (x:GetS) (gt tr:Int) : Array Value:=(g10L c p (x.st:Int) x.w x.sn gt x.has tr).toArray
abbrev g10Z:List Value:=[.int .i64 0,.int .i64 0,.int .i64 0,.int .i64 0,.int .i64 0,.int .i64 0,.int .i64 0,.int .i64 0,.int .u64 0,.int .i64 0,.int .i64 0,.bool false,.int .i64 0]
abbrev m06 (b:Nat) (rv:Value) (ops:Int) : Ev.Asr:=Ev.blkA b [rv,.int .u64 ops] 53
section
variable {ctx:Ev.Ctx} {w:World} {r:List Ev.Asr} {c:Cfg} {p:Nat} {m:MemM} {rv:Value}
abbrev H10 (c:Cfg) (p b1 b2 b3 b4:Nat) (L:List Value) (rv:Value) (cs:List Int) (ops:Int) (r:List Ev.Asr) : List Ev.Asr:=Ev.blkA b1 L 108 :: m06 b2 rv ops::Ev.blkA b3 g10Z 108 :: m06 b4 (.slice none 0 0) 0::uA rv cs::r
set_option maxHeartbeats 8000000 in
theorem get10H (n:Nat) (hp:p < c.n) {u:GetS} (hu:GetOk u) (h0:u.st ≠ 0) (hm:MemOk c m) (hz:szW (ld m (c.word p))≤(c.q:Int)) (gt tr:Int) (h:Ev.Hold ctx (uA rv m.cells::r) w) :
  CallsIn Fence.wide n Tryz.prog 55 #[.agg (g10 c p u gt tr),.agg #[rv,.int .u64 m.ops]] w fun e w'=>∃ v gt' tr',e=.returned (.tuple #[.agg (g10 c p (getStep c p u m).1 gt' tr'),.agg #[v,.int .u64 (getStep c p u m).2.ops]])∧((getStep c p u m).1.has=true→gt'=(getStep c p u m).1.sn)∧Ev.Hold ctx (uA v (getStep c p u m).2.cells::r) w':=by
 obtain ⟨av,ak,rfl⟩:=slr_val (hold_slr h)
 have hst:=hu.st
 have hw0:U64 u.w:=hu.w
 obtain ⟨st,w0,sn,has⟩:=u
 obtain rfl:has=false:=hu.has h0
 dsimp only at hst hw0 h0
 have hbig:=hm.big
 obtain ⟨b1,W1,hb1,hW1,q1⟩:=newN (g10L c p (st:Int) w0 sn gt false tr) 108 h
 obtain ⟨b2,W2,hb2,hW2,q2⟩:=newN [.slice av m.cells.length ak,.int .u64 m.ops] 53 q1
 obtain ⟨b3,W3,hb3,hW3,q3⟩:=newN g10Z 108 q2
 obtain ⟨b4,W4,hb4,hW4,q4⟩:=newN [.slice none 0 0,.int .u64 0] 53 q3
 have g0:Ev.Hold ctx (H10 c p b1 b2 b3 b4 (g10L c p (st:Int) w0 sn gt false tr) (.slice av m.cells.length ak) m.cells m.ops r) W4:=hsel [_,_,_,_,_] q4 [3,2,1,0,4]
 clear q1 q2 q3 q4
 have gd:=hold_keep g0 (Below.refl _ _).drew
 have hq:IntKind.u32.wrap (c.q:Int)=(c.q:Int):=by have:=c.qb; rw [wrap32]; omega
 obtain ⟨Y,hY⟩ : ∃ Y,getStep c p ⟨st,w0,sn,false⟩ m=Y:=⟨_,rfl⟩
 have eg:g10 c p ⟨st,w0,sn,false⟩ gt tr=(g10L c p (st:Int) w0 sn gt false tr).toArray:=rfl
 rw [eg,hY]
 clear eg
 refine wen Tryz.func55 97 ?_
 gi_upto_region 1 with fail
 refine wpIn_wide.2 ?_
 go_region_held3 (fun W=>W.cell? ⟨b1,8,none⟩=some (.int .u64 w0)) ((first | exact blkc gd 8 _ | fail)) ((first
  | (have hcon:=rHead w0 hw0 W4.drew; (with_reducible refine hcon.mono ?_); clear hcon; rintro e w1 ⟨rfl,rfl⟩)
  | (have hcon:=rTail w0 hw0 W4.drew; (with_reducible refine hcon.mono ?_); clear hcon; rintro e w1 ⟨rfl,rfl⟩)))
 clear hW1 hW2 hW3 hW4 hb1 hb2 hb3 hb4 g0
 obtain ⟨W5,hW5⟩ : ∃ W5,W4.drew=W5:=⟨_,rfl⟩
 rw [hW5] at gd ⊢
 clear hW5
 have x7:=blkc gd 7 _
 gi_upto_region 3 with fail
 have hd:=hold_keep gd (Below.refl _ _).drew
 have y0:=blkc (hold_up [_] hd) 0 _
 have y1:=blkc (hold_up [_] hd) 1 _
 obtain ⟨ops',ho'⟩ : ∃ o,IntKind.u64.wrap (m.ops+1)=o:=⟨_,rfl⟩
 obtain rfl | rfl | rfl:st=1∨st=2∨st=3:=by omega
 ·
  obtain ⟨x,hxe⟩ : ∃ x,ld m (c.word p)=x:=⟨_,rfl⟩
  obtain ⟨hx,-⟩:=hm.at_ (hm.lt_word hp)
  have hu:=(hm.get (hm.lt_word hp)).2
  rw [hxe] at hx hz hu
  gi_upto_region 4 with fail
  gi_cut [] from 13 (fun wx=>∃ rv',Ev.Hold ctx (H10 c p b1 b2 b3 b4 (g10L c p 1 x sn gt false tr) rv' m.cells ops' r) wx)
  case first =>
   refine wpIn_wide.2 ?_
   refine wp_region_noPanic ?_
   refine wp_region_B (fun W=>cpC c p b1 W∧W.cell? ⟨b2,0,none⟩=some (.slice av m.cells.length ak)∧W.cell? ⟨b2,1,none⟩=some (.int .u64 m.ops)) 10 (by kernel_rfl) ?_ (fun hHeld=>?_)
   ·(try dsimp only); (first | exact ⟨cpc hd,blkc (hold_up [_] hd) 0 _,blkc (hold_up [_] hd) 1 _⟩ | exact ⟨cpc h1,blkc (hold_up [_] h1) 0 _,blkc (hold_up [_] h1) 1 _⟩ | exact ⟨cpc h2,blkc (hold_up [_] h2) 0 _,blkc (hold_up [_] h2) 1 _⟩)
   refine takeB (i:=0) (v:=?_) (Or.inl ⟨by kernel_rfl,?_⟩) (by assumption) ?_
   rotate_left
   ·intro w hSw; (try dsimp only at hSw); go_simp; try with_reducible rfl
   try simp only [Act.put,List.setIfInBounds_toArray,List.set_cons_zero,List.set_cons_succ]
   refine takeB0 (i:=1) (v:=?_) (Or.inl ⟨by kernel_rfl,?_⟩) (by assumption) ?_
   rotate_left
   ·intro w _; go_simp; try with_reducible rfl
   try simp only [Act.put,List.setIfInBounds_toArray,List.set_cons_zero,List.set_cons_succ]
   refine takeB (i:=2) (v:=?_) (Or.inl ⟨by kernel_rfl,?_⟩) (by assumption) ?_
   rotate_left
   ·intro w hSw; (try dsimp only at hSw); go_simp; try with_reducible rfl
   try simp only [Act.put,List.setIfInBounds_toArray,List.set_cons_zero,List.set_cons_succ]
   refine takeB0 (i:=3) (v:=?_) (Or.inl ⟨by kernel_rfl,?_⟩) (by assumption) ?_
   rotate_left
   ·intro w _; go_simp; try with_reducible rfl
   try simp only [Act.put,List.setIfInBounds_toArray,List.set_cons_zero,List.set_cons_succ]
   refine takeB (i:=4) (v:=?_) (Or.inl ⟨by kernel_rfl,?_⟩) (by assumption) ?_
   rotate_left
   ·intro w hSw; (try dsimp only at hSw); go_simp; try with_reducible rfl
   try simp only [Act.put,List.setIfInBounds_toArray,List.set_cons_zero,List.set_cons_succ]
   refine nextB (i:=5) (ho:=rfl) (fun K hK=>?_)
   go_simp
   (have hcon:=rWord_ok c p hp W5.drew; (with_reducible refine hcon.mono ?_); clear hcon; rintro e w1 ⟨rfl,b1'⟩; have h1:=hold_keep hd b1'; have z0:=blkc (hold_up [_] h1) 0 _; have z1:=blkc (hold_up [_] h1) 1 _)
   first | refine hK.out _ _ ?_ (fun hHeld=>?_) | (go_wp2_with fail; refine hK.out _ _ ?_ (fun hHeld=>?_))
   ·(try dsimp only); (first | exact ⟨cpc hd,blkc (hold_up [_] hd) 0 _,blkc (hold_up [_] hd) 1 _⟩ | exact ⟨cpc h1,blkc (hold_up [_] h1) 0 _,blkc (hold_up [_] h1) 1 _⟩ | exact ⟨cpc h2,blkc (hold_up [_] h2) 0 _,blkc (hold_up [_] h2) 1 _⟩)
   clear hK K
   try simp only [Act.put,List.setIfInBounds_toArray,List.set_cons_zero,List.set_cons_succ]
   refine nextB (i:=6) (ho:=rfl) (fun K hK=>?_)
   go_simp
   (have hcon:=callsIn_wide.1 (rload_in 0 (ops:=m.ops) hx (hold_up [_,_,_,_] h1)); rw [ho'] at hcon; (with_reducible refine hcon.mono ?_); clear hcon; rintro e w2 ⟨rfl,h2⟩; replace h2:=hold_dn [_,_,_,_] h2; have x20:=blkc (hold_up [_] h2) 0 _; have x21:=blkc (hold_up [_] h2) 1 _; have f20:=froz_of (hold_blk (hold_up [_] h2)) 0; have f21:=froz_of (hold_blk (hold_up [_] h2)) 1; have h3:=hold_dn [_] (hold_set 1 (.int .u64 ops') (hold_set 0 (.slice av m.cells.length ak) (hold_up [_] h2))); have x8:=blkc h2 8 _; have f8:=froz_of (hold_blk h2) 8; have h4:=hold_set 8 (.int .u64 x) h3)
   first | refine hK.out _ _ ?_ (fun hHeld=>?_) | (go_wp2_with fail; refine hK.out _ _ ?_ (fun hHeld=>?_))
   ·(try dsimp only); (first | exact ⟨cpc hd,blkc (hold_up [_] hd) 0 _,blkc (hold_up [_] hd) 1 _⟩ | exact ⟨cpc h1,blkc (hold_up [_] h1) 0 _,blkc (hold_up [_] h1) 1 _⟩ | exact ⟨cpc h2,blkc (hold_up [_] h2) 0 _,blkc (hold_up [_] h2) 1 _⟩)
   clear hK K
   try simp only [Act.put,List.setIfInBounds_toArray,List.set_cons_zero,List.set_cons_succ]
   refine takeB0 (i:=7) (v:=?_) (Or.inl ⟨by kernel_rfl,?_⟩) (by assumption) ?_
   rotate_left
   ·intro w _; go_simp; try with_reducible rfl
   try simp only [Act.put,List.setIfInBounds_toArray,List.set_cons_zero,List.set_cons_succ]
   refine takeB0 (i:=8) (v:=?_) (Or.inl ⟨by kernel_rfl,?_⟩) (by assumption) ?_
   rotate_left
   ·intro w _; go_simp; try with_reducible rfl
   try simp only [Act.put,List.setIfInBounds_toArray,List.set_cons_zero,List.set_cons_succ]
   refine takeB0 (i:=9) (v:=?_) (Or.inl ⟨by kernel_rfl,?_⟩) (by assumption) ?_
   rotate_left
   ·intro w _; go_simp; try with_reducible rfl
   try simp only [Act.put,List.setIfInBounds_toArray,List.set_cons_zero,List.set_cons_succ]
   refine lastB (i:=10) (ho:=rfl) (fun K hK=>?_)
   go_simp
   refine hK.out _ _ ?_
   clear hK K
   try simp only [Act.put,List.setIfInBounds_toArray,List.set_cons_zero,List.set_cons_succ]
   refine lastB (i:=11) (ho:=rfl) (fun K hK=>?_)
   go_simp
   refine hK.out _ _ ?_
   clear hK K
   try simp only [Act.put,List.setIfInBounds_toArray,List.set_cons_zero,List.set_cons_succ]
   refine lastB (i:=12) (ho:=rfl) (fun K hK=>?_)
   go_simp
   refine hK.out _ _ ?_
   clear hK K
   try simp only [Act.put,List.setIfInBounds_toArray,List.set_cons_zero,List.set_cons_succ]
   refine (doneB (h:=?_) (hr:=by kernel_rfl)) _
   refine NoPanic.normal ?_
   all_goals
    gi_wp2
    gi_meet
    case rel=>exact ⟨_,h4⟩
  case rest =>
   obtain ⟨rv',g1⟩:=hcut
   obtain ⟨av',ak',rfl⟩:=slr_val (hold_slr (hold_drop (r:=[_,_,_,_]) g1))
   clear gd hx hd y0 y1
   have x8:=blkc g1 8 _
   have x1:=blkc g1 1 _
   have x7:=blkc g1 7 _
   have f7:=froz_of (hold_blk g1) 7
   have g2:=hold_set 7 (.int .i64 2) g1
   have y8:=blkc g2 1 _
   have y7:=blkc g2 7 _
   have i7:=froz_of (hold_blk g2) 7
   have g3:=hold_set 7 (.int .i64 0) g2
   gi_wp2
   refine wcw (rSize x hu _) ?_
   rintro e w6 ⟨rfl,rfl⟩
   by_cases e:szW x=0
   ·have hb:(szW x == 0)=true:=by simpa using e
    have hs:Aside (Y=(⟨0,x,sn,false⟩,⟨m.cells,ops'⟩)):=by show Y=_; rw [← hY]; simp only [getStep,hxe,if_pos (Or.inl e),MemM.tick,ho']
    gi_upto_region 23 with fail
    refine wpIn_wide.2 (reg2 g3 (fun w' hw'=>?_) Tryz.underlying108 Tryz.underlying53 rfl rfl rfl rfl rfl rfl rfl rfl rfl rfl rfl)
    gi_wp2
    exact post_cell2 rfl rfl rfl rfl (lv_all (hold_up [_,_] hw') Tryz.underlying108 rfl (by kernel_rfl)) (lv_all (hold_up [_,_,_] hw') Tryz.underlying53 rfl (by kernel_rfl)) (by rw [hs.out]; first | exact ⟨_,gt,tr,rfl,fun h=>(by cases h),hold_drop (r:=[_,_,_,_]) hw'⟩ | exact ⟨_,gt,⟨tr,rfl⟩,fun h=>(by cases h),hold_drop (r:=[_,_,_,_]) hw'⟩)
   ·have hb:(szW x == 0)=false:=by simpa using e
    have hs:Aside (Y=(⟨2,x,sn,false⟩,⟨m.cells,ops'⟩)):=by show Y=_; rw [← hY]; simp only [getStep,hxe,if_neg (not_or.2 ⟨e,show ¬ (c.q:Int) < szW x by omega⟩),MemM.tick,ho']
    gi_upto_region 23 with fail
    refine wpIn_wide.2 (reg2 g2 (fun w' hw'=>?_) Tryz.underlying108 Tryz.underlying53 rfl rfl rfl rfl rfl rfl rfl rfl rfl rfl rfl)
    gi_wp2
    exact post_cell2 rfl rfl rfl rfl (lv_all (hold_up [_,_] hw') Tryz.underlying108 rfl (by kernel_rfl)) (lv_all (hold_up [_,_,_] hw') Tryz.underlying53 rfl (by kernel_rfl)) (by rw [hs.out]; first | exact ⟨_,gt,tr,rfl,fun h=>(by cases h),hold_drop (r:=[_,_,_,_]) hw'⟩ | exact ⟨_,gt,⟨tr,rfl⟩,fun h=>(by cases h),hold_drop (r:=[_,_,_,_]) hw'⟩)
 ·
  obtain ⟨x,hxe⟩ : ∃ x,ld m (c.slot p (hdW w0))=x:=⟨_,rfl⟩
  obtain ⟨hx,-⟩:=hm.at_ (hm.lt_slot hp (hdW w0))
  rw [hxe] at hx
  have h00:=(hdW_bd hw0).1
  gi_upto_region 10 with fail
  gi_cut [9,10] from 13 (fun s9 s10 wx=>∃ b9,s9=.pointer (some ⟨b9,0,none⟩)∧s10=.int .u64 x∧Ev.Hold ctx (m06 b9 (.slice av m.cells.length ak) ops'::H10 c p b1 b2 b3 b4 (g10L c p 2 w0 sn gt false tr) (.slice av m.cells.length ak) m.cells m.ops r) wx)
  case first =>
   have hP:∀ {R:List Ev.Asr} {W:World},Ev.Hold ctx (Ev.blkA b1 (g10L c p 2 w0 sn gt false tr) 108 :: m06 b2 (.slice av m.cells.length ak) m.ops::R) W→cpC c p b1 W∧W.cell? ⟨b2,0,none⟩=some (.slice av m.cells.length ak)∧W.cell? ⟨b2,1,none⟩=some (.int .u64 m.ops):=fun hh=>⟨cpc hh,blkc (hold_up [_] hh) 0 _,blkc (hold_up [_] hh) 1 _⟩
   have hX:∀ {q:Ev.Asr} {R:List Ev.Asr} {W:World},Ev.Hold ctx (q::Ev.blkA b1 (g10L c p 2 w0 sn gt false tr) 108 :: m06 b2 (.slice av m.cells.length ak) m.ops::R) W→cpC c p b1 W∧W.cell? ⟨b2,0,none⟩=some (.slice av m.cells.length ak)∧W.cell? ⟨b2,1,none⟩=some (.int .u64 m.ops):=fun hh=>hP (hold_drop (r:=[_]) hh)
   have hdN:Ev.Hold ctx (m06 W5.heap.size (.slice none 0 0) 0::H10 c p b1 b2 b3 b4 (g10L c p 2 w0 sn gt false tr) (.slice av m.cells.length ak) m.cells m.ops r) (W5.alloc (.cells #[.slice none 0 0,.int .u64 0] 53)).drew:=hold_new [.slice none 0 0,.int .u64 0] 53 hd
   have cW:=rSlot_ok c p hp (hdW w0) h00
   have cL:∀ {R:List Ev.Asr} {W:World},Ev.Hold ctx (uA (.slice av m.cells.length ak) m.cells::R) W→_:=fun {R W} hh=>callsIn_wide.1 (rload_in (ctx:=ctx) (r:=R) (w:=W) 0 (ops:=m.ops) hx hh)
   rw [ho'] at cL
   refine wpIn_wide.2 ?_
   go_region_held3 (fun W=>cpC c p b1 W∧W.cell? ⟨b2,0,none⟩=some (.slice av m.cells.length ak)∧W.cell? ⟨b2,1,none⟩=some (.int .u64 m.ops)) ((first | exact hP hd | exact hX hdN | exact hP h1 | exact hX h1x | exact hX h1N | exact hP h2 | exact hX h2x | exact hX h2N | exact hX h4 | exact hX h4x | fail)) ((first
    | (have hcon:=cW W5.drew; (with_reducible refine hcon.mono ?_); clear hcon; rintro e w1 ⟨rfl,b1'⟩; (have h1:=hold_keep hd b1'; have h1N:=hold_new [.slice none 0 0,.int .u64 0] 53 h1))
    | (have hcon:=cW (W5.alloc (.cells #[.slice none 0 0,.int .u64 0] 53)).drew; (with_reducible refine hcon.mono ?_); clear hcon; rintro e w1 ⟨rfl,b1'⟩; have h1x:=hold_keep hdN b1')
    | (have hcon:=cL (hold_up [_,_,_,_] h1); (with_reducible refine hcon.mono ?_); clear hcon; rintro e w2 ⟨rfl,h2⟩; replace h2:=hold_dn [_,_,_,_] h2; have h2N:=hold_new [.slice none 0 0,.int .u64 0] 53 h2; have h4:=hold_new [.slice av m.cells.length ak,.int .u64 ops'] 53 h2)
    | (have hcon:=cL (hold_up [_,_,_,_,_] h1x); (with_reducible refine hcon.mono ?_); clear hcon; rintro e w2 ⟨rfl,h2⟩; have h2x:=hold_dn [_,_,_,_,_] h2; have x0:=blkc h2x 0 _; have x1:=blkc h2x 1 _; have f0:=froz_of (hold_blk h2x) 0; have f1:=froz_of (hold_blk h2x) 1; have h4x:=hold_set 1 (.int .u64 ops') (hold_set 0 (.slice av m.cells.length ak) h2x))
    | (have hcon:=cL (hold_up [_,_,_,_,_] h1N); (with_reducible refine hcon.mono ?_); clear hcon; rintro e w2 ⟨rfl,h2⟩; have h2x:=hold_dn [_,_,_,_,_] h2; have x0:=blkc h2x 0 _; have x1:=blkc h2x 1 _; have f0:=froz_of (hold_blk h2x) 0; have f1:=froz_of (hold_blk h2x) 1; have h4x:=hold_set 1 (.int .u64 ops') (hold_set 0 (.slice av m.cells.length ak) h2x))))
   all_goals
    gi_wp2
    gi_meet
    case rel=>first | exact ⟨_,rfl,rfl,h4⟩ | exact ⟨_,rfl,rfl,h4x⟩
  case rest =>
   obtain ⟨b9,rfl,rfl,g1⟩:=hcut
   clear gd hx hd y0 y1 x7
   have a0:=blkc g1 0 _
   have a1:=blkc g1 1 _
   replace g1:=hsel [_,_,_] g1 [1,2,0]
   have c0:=blkc (hold_up [_] g1) 0 _
   have c1:=blkc (hold_up [_] g1) 1 _
   have f0:=froz_of (hold_blk (hold_up [_] g1)) 0
   have f1:=froz_of (hold_blk (hold_up [_] g1)) 1
   have g2:=hold_dn [_] (hold_set 1 (.int .u64 ops') (hold_set 0 (.slice av m.cells.length ak) (hold_up [_] g1)))
   obtain ⟨y,hy⟩ : ∃ y:Int,IntKind.i64.wrap x=y:=⟨_,rfl⟩
   have x9:=blkc g2 9 _
   have f9:=froz_of (hold_blk g2) 9
   have g3:=hold_set 9 (.int .i64 y) g2
   have x7:=blkc g3 7 _
   have f7:=froz_of (hold_blk g3) 7
   have g4:=hold_set 7 (.int .i64 3) g3
   have g5:Ev.Hold ctx (H10 c p b1 b2 b3 b4 (g10L c p 3 w0 y gt false tr) (.slice av m.cells.length ak) m.cells ops' r) _:=hsel [_,_,_,_,_,_] g4 [0,1,3,4,5]
   have hs:Aside (Y=(⟨3,w0,y,false⟩,⟨m.cells,ops'⟩)):=by show Y=_; rw [← hY]; simp only [getStep,hxe,hy,MemM.tick,ho']
   gi_upto_region 23 with fail
   refine wpIn_wide.2 (reg2 g5 (fun w' hw'=>?_) Tryz.underlying108 Tryz.underlying53 rfl rfl rfl rfl rfl rfl rfl rfl rfl rfl rfl)
   gi_wp2
   exact post_cell2 rfl rfl rfl rfl (lv_all (hold_up [_,_] hw') Tryz.underlying108 rfl (by kernel_rfl)) (lv_all (hold_up [_,_,_] hw') Tryz.underlying53 rfl (by kernel_rfl)) (by rw [hs.out]; first | exact ⟨_,gt,tr,rfl,fun h=>(by cases h),hold_drop (r:=[_,_,_,_]) hw'⟩ | exact ⟨_,gt,⟨tr,rfl⟩,fun h=>(by cases h),hold_drop (r:=[_,_,_,_]) hw'⟩)
 ·
  obtain ⟨hx,-⟩:=hm.at_ (hm.lt_word hp)
  obtain ⟨x,hxe⟩ : ∃ x,ld m (c.word p)=x:=⟨_,rfl⟩
  rw [hxe] at hx
  obtain ⟨z,hz'⟩ : ∃ z,decide (x=w0)=z:=⟨_,rfl⟩
  obtain ⟨CS,hCS⟩ : ∃ CS,(if x=w0 then m.cells.set (c.word p) (gnW w0 1) else m.cells)=CS:=⟨_,rfl⟩
  have hlen:CS.length=m.cells.length:=by rw [← hCS]; split <;> simp
  have e3:IntKind.u32.wrap (hdW w0+1)=(hdW w0+1) % 4294967296:=wrap32 _
  gi_upto_region 15 with fail
  gi_cut [11,12] from 13 (fun s9 s10 wx=>∃ b9 a2 k2,s9=.pointer (some ⟨b9,0,none⟩)∧s10=.bool z∧Ev.Hold ctx (m06 b9 (.slice a2 m.cells.length k2) ops'::Ev.blkA b1 (g10L c p 3 w0 sn gt false tr) 108 :: m06 b2 (.slice av m.cells.length ak) m.ops::Ev.blkA b3 g10Z 108 :: m06 b4 (.slice none 0 0) 0::uA (.slice a2 m.cells.length k2) CS::r) wx)
  case first =>
   have hP:∀ {R:List Ev.Asr} {W:World},Ev.Hold ctx (Ev.blkA b1 (g10L c p 3 w0 sn gt false tr) 108 :: m06 b2 (.slice av m.cells.length ak) m.ops::R) W→cpC c p b1 W∧W.cell? ⟨b2,0,none⟩=some (.slice av m.cells.length ak)∧W.cell? ⟨b2,1,none⟩=some (.int .u64 m.ops)∧W.cell? ⟨b1,8,none⟩=some (.int .u64 w0):=fun hh=>⟨cpc hh,blkc (hold_up [_] hh) 0 _,blkc (hold_up [_] hh) 1 _,blkc hh 8 _⟩
   have hX:∀ {q:Ev.Asr} {R:List Ev.Asr} {W:World},Ev.Hold ctx (q::Ev.blkA b1 (g10L c p 3 w0 sn gt false tr) 108 :: m06 b2 (.slice av m.cells.length ak) m.ops::R) W→cpC c p b1 W∧W.cell? ⟨b2,0,none⟩=some (.slice av m.cells.length ak)∧W.cell? ⟨b2,1,none⟩=some (.int .u64 m.ops)∧W.cell? ⟨b1,8,none⟩=some (.int .u64 w0):=fun hh=>hP (hold_drop (r:=[_]) hh)
   have hdN:Ev.Hold ctx (m06 W5.heap.size (.slice none 0 0) 0::H10 c p b1 b2 b3 b4 (g10L c p 3 w0 sn gt false tr) (.slice av m.cells.length ak) m.cells m.ops r) (W5.alloc (.cells #[.slice none 0 0,.int .u64 0] 53)).drew:=hold_new [.slice none 0 0,.int .u64 0] 53 hd
   have cW:=rWord_ok c p hp
   have cP:=fun W=>rPack ((hdW w0+1) % 4294967296) (tlW w0) (by omega) (tlW_bd w0) W
   rw [show packW ((hdW w0+1) % 4294967296) (tlW w0)=gnW w0 1 from rfl] at cP
   have cL:∀ {R:List Ev.Asr} {W:World},Ev.Hold ctx (uA (.slice av m.cells.length ak) m.cells::R) W→Calls Tryz.prog 85 #[.agg #[.slice av m.cells.length ak,.int .u64 m.ops],.int .i64 ((c.word p:Nat) : Int),.int .u64 w0,.int .u64 (gnW w0 1)] W fun e w'=>∃ a2 k2,e=.returned (.tuple #[.agg #[.slice a2 m.cells.length k2,.int .u64 ops'],.bool z])∧Ev.Hold ctx (uA (.slice a2 m.cells.length k2) CS::R) w':=fun {R W} hh=>by
    refine (callsIn_wide.1 (rcas_in 0 (ops:=m.ops) (by omega) hx w0 (gnW w0 1) hh)).mono ?_
    rintro e w' ⟨al,rfl,h1⟩
    rw [hz',ho']
    rw [hCS] at h1
    obtain ⟨a2,k2,rfl⟩:=slr_val (hold_slr h1)
    rw [hlen] at h1 ⊢
    exact ⟨a2,k2,rfl,h1⟩
   refine wpIn_wide.2 ?_
   go_region_held3 (fun W=>cpC c p b1 W∧W.cell? ⟨b2,0,none⟩=some (.slice av m.cells.length ak)∧W.cell? ⟨b2,1,none⟩=some (.int .u64 m.ops)∧W.cell? ⟨b1,8,none⟩=some (.int .u64 w0)) ((first | exact hP hd | exact hX hdN | exact hP h1 | exact hX h1x | exact hX h1N | exact hP h2 | exact hX h2x | exact hX h2N | exact hX h4 | exact hX h4x | fail)) ((first
    | (have hcon:=cW W5.drew; (with_reducible refine hcon.mono ?_); clear hcon; rintro e w1 ⟨rfl,b1'⟩; (have h1:=hold_keep hd b1'; have h1N:=hold_new [.slice none 0 0,.int .u64 0] 53 h1))
    | (have hcon:=cW (W5.alloc (.cells #[.slice none 0 0,.int .u64 0] 53)).drew; (with_reducible refine hcon.mono ?_); clear hcon; rintro e w1 ⟨rfl,b1'⟩; have h1x:=hold_keep hdN b1')
    | (have hcon:=cP W5.drew; (with_reducible refine hcon.mono ?_); clear hcon; rintro e w1 ⟨rfl,hw1⟩; subst hw1)
    | (have hcon:=cP (W5.alloc (.cells #[.slice none 0 0,.int .u64 0] 53)).drew; (with_reducible refine hcon.mono ?_); clear hcon; rintro e w1 ⟨rfl,hw1⟩; subst hw1)
    | (have hcon:=cP w1; (with_reducible refine hcon.mono ?_); clear hcon; rintro e w1' ⟨rfl,hw1⟩; subst hw1)
    | (have hcon:=cP (w1.alloc (.cells #[.slice none 0 0,.int .u64 0] 53)); (with_reducible refine hcon.mono ?_); clear hcon; rintro e w1' ⟨rfl,hw1⟩; subst hw1)
    | (have hcon:=cL (hold_up [_,_,_,_] h1); (with_reducible refine hcon.mono ?_); clear hcon; rintro e w2 ⟨a2,k2,rfl,h2⟩; replace h2:=hold_dn [_,_,_,_] h2; have h2N:=hold_new [.slice none 0 0,.int .u64 0] 53 h2; have h4:=hold_new [.slice a2 m.cells.length k2,.int .u64 ops'] 53 h2)
    | (have hcon:=cL (hold_up [_,_,_,_,_] h1x); (with_reducible refine hcon.mono ?_); clear hcon; rintro e w2 ⟨a2,k2,rfl,h2⟩; have h2x:=hold_dn [_,_,_,_,_] h2; have x0:=blkc h2x 0 _; have x1:=blkc h2x 1 _; have f0:=froz_of (hold_blk h2x) 0; have f1:=froz_of (hold_blk h2x) 1; have h4x:=hold_set 1 (.int .u64 ops') (hold_set 0 (.slice a2 m.cells.length k2) h2x))
    | (have hcon:=cL (hold_up [_,_,_,_,_] h1N); (with_reducible refine hcon.mono ?_); clear hcon; rintro e w2 ⟨a2,k2,rfl,h2⟩; have h2x:=hold_dn [_,_,_,_,_] h2; have x0:=blkc h2x 0 _; have x1:=blkc h2x 1 _; have f0:=froz_of (hold_blk h2x) 0; have f1:=froz_of (hold_blk h2x) 1; have h4x:=hold_set 1 (.int .u64 ops') (hold_set 0 (.slice a2 m.cells.length k2) h2x))))
   all_goals
    gi_wp2
    gi_meet
    case rel=>first | exact ⟨_,_,_,rfl,rfl,h4⟩ | exact ⟨_,_,_,rfl,rfl,h4x⟩
  case rest =>
   obtain ⟨b9,a2,k2,rfl,rfl,g1⟩:=hcut
   clear gd hx hd y0 y1 x7
   have a0:=blkc g1 0 _
   have a1:=blkc g1 1 _
   replace g1:=hsel [_,_,_] g1 [1,2,0]
   have c0:=blkc (hold_up [_] g1) 0 _
   have c1:=blkc (hold_up [_] g1) 1 _
   have f0:=froz_of (hold_blk (hold_up [_] g1)) 0
   have f1:=froz_of (hold_blk (hold_up [_] g1)) 1
   have g2:=hold_dn [_] (hold_set 1 (.int .u64 ops') (hold_set 0 (.slice a2 m.cells.length k2) (hold_up [_] g1)))
   by_cases he:x=w0
   ·obtain rfl:true=z:=by rw [← hz']; simp [he]
    have x9:=blkc g2 9 _
    have x10:=blkc g2 10 _
    have f10:=froz_of (hold_blk g2) 10
    have g3:=hold_set 10 (.int .i64 sn) g2
    have x11:=blkc g3 11 _
    have f11:=froz_of (hold_blk g3) 11
    have g4:=hold_set 11 (.bool true) g3
    have x7:=blkc g4 7 _
    have f7:=froz_of (hold_blk g4) 7
    have g5:=hold_set 7 (.int .i64 0) g4
    have g6:Ev.Hold ctx (H10 c p b1 b2 b3 b4 (g10L c p 0 w0 sn sn true tr) (.slice a2 m.cells.length k2) CS ops' r) _:=hsel [_,_,_,_,_,_] g5 [0,1,3,4,5]
    have hs:Aside (Y=(⟨0,w0,sn,true⟩,⟨CS,ops'⟩)):=by show Y=_; rw [← hY,← hCS,if_pos he]; simp only [getStep,hxe,if_pos he,MemM.put,ho']
    clear hCS hz' hlen
    gi_upto_region 23 with fail
    refine wpIn_wide.2 (reg2 g6 (fun w' hw'=>?_) Tryz.underlying108 Tryz.underlying53 rfl rfl rfl rfl rfl rfl rfl rfl rfl rfl rfl)
    gi_wp2
    exact post_cell2 rfl rfl rfl rfl (lv_all (hold_up [_,_] hw') Tryz.underlying108 rfl (by kernel_rfl)) (lv_all (hold_up [_,_,_] hw') Tryz.underlying53 rfl (by kernel_rfl)) (by rw [hs.out]; first | exact ⟨_,sn,tr,rfl,fun _=>rfl,hold_drop (r:=[_,_,_,_]) hw'⟩ | exact ⟨_,sn,⟨tr,rfl⟩,fun _=>rfl,hold_drop (r:=[_,_,_,_]) hw'⟩)
   ·obtain rfl:false=z:=by rw [← hz']; simp [he]
    obtain ⟨tr2,ht2⟩ : ∃ t,IntKind.i64.wrap (tr+1)=t:=⟨_,rfl⟩
    have x12:=blkc g2 12 _
    have f12:=froz_of (hold_blk g2) 12
    have g4:=hold_set 12 (.int .i64 tr2) g2
    have x7:=blkc g4 7 _
    have f7:=froz_of (hold_blk g4) 7
    have g5:=hold_set 7 (.int .i64 1) g4
    have g6:Ev.Hold ctx (H10 c p b1 b2 b3 b4 (g10L c p 1 w0 sn gt false tr2) (.slice a2 m.cells.length k2) CS ops' r) _:=hsel [_,_,_,_,_,_] g5 [0,1,3,4,5]
    have hs:Aside (Y=(⟨1,w0,sn,false⟩,⟨CS,ops'⟩)):=by show Y=_; rw [← hY,← hCS,if_neg he]; simp only [getStep,hxe,if_neg he,MemM.tick,ho']
    clear hCS hz' hlen
    gi_upto_region 23 with fail
    refine wpIn_wide.2 (reg2 g6 (fun w' hw'=>?_) Tryz.underlying108 Tryz.underlying53 rfl rfl rfl rfl rfl rfl rfl rfl rfl rfl rfl)
    gi_wp2
    exact post_cell2 rfl rfl rfl rfl (lv_all (hold_up [_,_] hw') Tryz.underlying108 rfl (by kernel_rfl)) (lv_all (hold_up [_,_,_] hw') Tryz.underlying53 rfl (by kernel_rfl)) (by rw [hs.out]; first | exact ⟨_,gt,tr2,rfl,fun h=>(by cases h),hold_drop (r:=[_,_,_,_]) hw'⟩ | exact ⟨_,gt,⟨tr2,rfl⟩,fun h=>(by cases h),hold_drop (r:=[_,_,_,_]) hw'⟩)
end
end Go.Proofs.YtkmccgombmogmaaGreat
namespace Go.Proofs.YtkmccgombmogmaaGreat
open Go.RowKit
set_option linter.unusedVariables false
set_option linter.unusedSimpArgs false
set_option maxRecDepth 8000
abbrev p9L (c:Cfg) (p:Nat) (gg st w0:Int) (tk hd:Value) : List Value:=cpL c p [.int .i64 gg,.int .i64 st,.int .u64 w0,tk,hd]
def p9 (c:Cfg) (p:Nat) (x:PutS) (tk hd:Value) : Array Value:=(p9L c p x.gg (x.st:Int) x.w tk hd).toArray
abbrev p9Z:List Value:=[.int .i64 0,.int .i64 0,.int .i64 0,.int .i64 0,.int .i64 0,.int .i64 0,.int .i64 0,.int .i64 0,.int .i64 0,.int .u64 0,.slice none 0 0,.slice none 0 0]
section
variable {ctx:Ev.Ctx} {w:World} {r:List Ev.Asr} {c:Cfg} {p:Nat} {m:MemM} {rv tk hd:Value}
theorem hname {l:List Ev.Asr} {w:World} (h:Ev.Hold ctx l w) : ∃ V,V=w∧Ev.Hold ctx l V:=⟨w,rfl,h⟩
abbrev H9 (c:Cfg) (p b1 b2 b3 b4:Nat) (L:List Value) (rv:Value) (cs:List Int) (ops:Int) (tk hd:Value) (ts hs:List Int) (r:List Ev.Asr) : List Ev.Asr:=Ev.blkA b1 L 106 :: m06 b2 rv ops::Ev.blkA b3 p9Z 106 :: m06 b4 (.slice none 0 0) 0::uA rv cs::isA tk ts::isA hd hs::r
abbrev Put9 (ctx:Ev.Ctx) (r:List Ev.Asr) (c:Cfg) (p:Nat) (m:MemM) (rv tk hd:Value) (x:PutS) (n:Nat) (w:World) : Prop:=CallsIn Fence.wide n Tryz.prog 53 #[.agg (p9 c p x tk hd),.agg #[rv,.int .u64 m.ops]] w fun e w'=>∃ v tk' hd',e=.returned (.tuple #[.agg (p9 c p (putStep c p x m).1 tk' hd'),.agg #[v,.int .u64 (putStep c p x m).2.ops]])∧Ev.Hold ctx (uA v (putStep c p x m).2.cells::isA tk' (putStep c p x m).1.ts::isA hd' (putStep c p x m).1.hs::r) w'
end
end Go.Proofs.YtkmccgombmogmaaGreat
namespace Go.Proofs.YtkmccgombmogmaaGreat
open Go.RowKit
set_option linter.unusedVariables false
set_option linter.unusedSimpArgs false
set_option maxRecDepth 8000
theorem room_full {c:Cfg} {ls:List Int} {v:Int} (h:¬ szW v < (c.q:Int)) : roomN c ls v=0:=by
 unfold roomN
 omega
theorem room_some {c:Cfg} {ls:List Int} {v:Int} (h:szW v < (c.q:Int)) : ((roomN c ls v:Nat) : Int)=min ((ls.length:Nat) : Int) (((c.q:Nat) : Int) - szW v):=by
 have:=szW_bd v
 unfold roomN
 omega
abbrev l9L (c:Cfg) (p:Nat) (st w0 n k:Int) (lf:Value) : List Value:=cpL c p [lf,.int .i64 st,.int .u64 w0,.int .i64 n,.int .i64 k]
def l9 (c:Cfg) (p:Nat) (x:LayS) (lf:Value) : Array Value:=(l9L c p (x.st:Int) x.w (x.n:Int) (x.k:Int) lf).toArray
abbrev l9Z:List Value:=[.int .i64 0,.int .i64 0,.int .i64 0,.int .i64 0,.int .i64 0,.int .i64 0,.int .i64 0,.slice none 0 0,.int .i64 0,.int .u64 0,.int .i64 0,.int .i64 0]
section
variable {ctx:Ev.Ctx} {w:World} {r:List Ev.Asr} {c:Cfg} {p:Nat} {m:MemM} {rv lf:Value}
abbrev HL (c:Cfg) (p b1 b2 b3 b4:Nat) (L:List Value) (rv:Value) (cs:List Int) (ops:Int) (lf:Value) (ls:List Int) (r:List Ev.Asr) : List Ev.Asr:=Ev.blkA b1 L 110 :: m06 b2 rv ops::Ev.blkA b3 l9Z 110 :: m06 b4 (.slice none 0 0) 0::uA rv cs::isA lf ls::r
abbrev Lay9 (ctx:Ev.Ctx) (r:List Ev.Asr) (c:Cfg) (p:Nat) (m:MemM) (rv lf:Value) (x:LayS) (n:Nat) (w:World) : Prop:=CallsIn Fence.wide n Tryz.prog 111 #[.agg (l9 c p x lf),.agg #[rv,.int .u64 m.ops]] w fun e w'=>∃ v lf',e=.returned (.tuple #[.agg (l9 c p (layStep c p x m).1 lf'),.agg #[v,.int .u64 (layStep c p x m).2.ops]])∧Ev.Hold ctx (uA v (layStep c p x m).2.cells::isA lf' (layStep c p x m).1.ls::r) w'
end
end Go.Proofs.YtkmccgombmogmaaGreat
namespace Go.Proofs.YtkmccgombmogmaaGreat
open Go.RowKit
set_option linter.unusedVariables false
set_option linter.unusedSimpArgs false
set_option maxRecDepth 8000
section
variable {ctx:Ev.Ctx} {w:World} {r:List Ev.Asr} {c:Cfg} {p:Nat} {bt:Value} {bs:List Int}
abbrev cfL (c:Cfg) : List Value:=[.int .i64 (c.n:Int),.int .i64 (c.q:Int),.int .i64 c.g,.int .i64 c.m,.int .i64 c.t,.int .i64 c.s]
theorem cut1 (hb:1≤bs.length) (h:Ev.Hold ctx (isA bt bs::r) w) : Ev.SlR 1 (Ev.cutV 1 bt 1 bs.length) (bs.drop 1).length (ints (bs.drop 1)) w:=by
 have hs:=(hold_slr h).cut (lo:=1) (hi:=bs.length) hb (Nat.le_refl _)
 have e1:((ints bs).drop (1 * 1)).take ((bs.length - 1) * 1)=ints (bs.drop 1):=by
  rw [Nat.mul_one,Nat.mul_one,ints_drop,List.take_of_length_le]
  simp [ints]
 rwa [e1,show bs.length - 1=(bs.drop 1).length by simp] at hs
set_option maxHeartbeats 2000000 in
theorem newlay_at (n:Nat) (hp:p < c.n) (hb:1≤bs.length) (hl:bs.length≤64) (hg:∀ g ∈ bs,Gn g) (h:Ev.Hold ctx (isA bt bs::r) w) :
  CallsIn Fence.wide n Tryz.prog 110 #[c.v,.int .i64 (p:Int),Ev.cutV 1 bt 1 bs.length] w fun e w'=>∃ v,e=.returned (.agg (l9 c p ⟨1,0,0,0,bs.drop 1⟩ v))∧Ev.Hold ctx (isA v (bs.drop 1)::isA bt bs::r) w':=by
 have hC:∀ {R:List Ev.Asr} {W:World},Ev.Hold ctx (isA bt bs::R) W→Ev.SlR 1 (Ev.cutV 1 bt 1 bs.length) (bs.drop 1).length (ints (bs.drop 1)) W:=fun hh=>cut1 hb hh
 obtain ⟨L,hL⟩ : ∃ L,bs.drop 1=L:=⟨_,rfl⟩
 have hLl:L.length≤63:=by rw [← hL,List.length_drop]; omega
 have hLg:∀ g ∈ L,Gn g:=fun g hh=>hg g (List.mem_of_mem_drop (by rw [hL]; exact hh))
 rw [hL] at hC ⊢
 obtain ⟨a0,k0,e0⟩:=slr_val (hC h)
 rw [e0] at hC ⊢
 clear e0 hL
 obtain ⟨b0,W1,hb1,hW1,q1⟩:=newN (cfL c) 49 h
 obtain ⟨b6,W2,hb2,hW2,q2⟩:=newN l9Z 110 q1
 have d0:=ld_all (hold_up [_] q2) Tryz.underlying49 rfl (by kernel_rfl)
 refine wen Tryz.func110 35 ?_
 gi_wp2_with (refine wpListIn_load_run rfl _ _ rfl d0 rfl ?_)
 refine wcw (there_ok c p hp _) ?_
 rintro e w1 ⟨rfl,bl1⟩
 have q3:=hold_keep q2 bl1
 obtain ⟨b7,W3,hb3,hW3,q4⟩:=newN l9Z 110 q3
 obtain ⟨W4,s4,q5⟩:=st_all (t := 110) (cs':=l9L c p 1 0 0 0 (.slice none 0 0)) q4 rfl (by simp [Value.oneCell']) (by kernel_rfl)
 have d1:=ld_all (hold_up [_] q3) Tryz.underlying49 rfl (by kernel_rfl)
 have q6:Ev.Hold ctx (Ev.blkA b7 (l9L c p 1 0 0 0 (.slice none 0 0)) 110 :: isA (.slice none 0 0) (L.take 0)::Ev.blkA b6 l9Z 110 :: isA bt bs::r) W4:=hsel [_,_,_,_,_] (q5.nilSl (e := 3) (sz:=1)) [1,0,2,4]
 clear hW1 hW2 hb1 hb2 d0 q1 q2 q3 q4
 gi_upto_region 4 with (first | refine wpListIn_load_run rfl _ _ rfl d1 rfl ?_ | refine wpListIn_store_run rfl _ _ _ rfl s4 rfl rfl ?_)
 clear hW3 hb3 d1 s4 q5
 gi_wp2
 gi_loopw [8] (fun q wr=>∃ (k:Nat) (a:Option Addr) (cc:Nat),q=.int .i64 (k:Int)∧k≤L.length∧Ev.Hold ctx (Ev.blkA b7 (l9L c p 1 0 0 0 (.slice a k cc)) 110 :: isA (.slice a k cc) (L.take k)::Ev.blkA b6 l9Z 110 :: isA bt bs::r) wr) (fun q _=>L.length - (intOf q).toNat)
 case atStart=>exact ⟨0,none,0,rfl,Nat.zero_le _,q6⟩
 case round =>
  obtain ⟨k,a,cc,rfl,hk,hH⟩:=hrel
  by_cases hlt:k < L.length
  ·have hlI:(k:Int) < (L.length:Int):=by omega
   have hw:IntKind.i64.wrap ((k:Int)+1)=(k:Int)+1:=wrap_ok (by omega) (by omega)
   obtain ⟨bb,oo,rfl,g1⟩:=slr_cell (hC (hold_drop (r:=[_,_,_]) hH)) hlt
   obtain ⟨x,hx⟩ : ∃ x,L.getD k 0=x:=⟨_,rfl⟩
   have hx0:0≤x:=by rw [← hx,List.getD_eq_getElem?_getD,List.getElem?_eq_getElem hlt]; exact (hLg _ (List.getElem_mem hlt)).1
   have hE:∀ {q1 q2 q3:Ev.Asr} {R:List Ev.Asr} {W:World},Ev.Hold ctx (q1::q2::q3::isA bt bs::R) W→W.cell? ⟨bb,oo+k,none⟩=some (.int .i64 x):=fun hh=>by
    obtain ⟨_,_,hv,g⟩:=slr_cell (hC (hold_drop (r:=[_,_,_]) hh)) hlt
    cases hv
    rw [g,hx]
   rw [hx] at g1
   have hd:=hold_keep hH (Below.refl _ _).drew
   have h3:=hold_new [.int .i64 x] 3 hd
   obtain ⟨a5,k5,w5,r5,h5⟩:=iapp1 x (by rw [List.length_take]; omega) (hold_up [_] hd)
   rw [List.length_take,Nat.min_eq_left hk] at r5 h5
   replace h5:=hold_up [_] h5
   have c7:=blkc h5 7 _
   have f7:=froz_of (hold_blk h5) 7
   have h6:=hold_set 7 (.slice a5 (k+1) k5) h5
   have e:L.take (k+1)=L.take k++[x]:=by
    rw [List.take_add_one,List.getElem?_eq_getElem hlt,← hx,List.getD_eq_getElem?_getD,List.getElem?_eq_getElem hlt]
    rfl
   have h7:Ev.Hold ctx (Ev.blkA b7 (l9L c p 1 0 0 0 (.slice a5 (k+1) k5)) 110 :: isA (.slice a5 (k+1) k5) (L.take (k+1))::Ev.blkA b6 l9Z 110 :: isA bt bs::r) (w5.setCell ⟨b7,7,none⟩ (.slice a5 (k+1) k5)):=by rw [e]; exact h6
   clear e
   have e7:=blkc hd 7 _
   have e7x:(wr.alloc (.cells #[.int .i64 x] 3)).drew.cell? ⟨b7,7,none⟩=some (.slice a k cc):=blkc (hold_up [_] h3) 7 _
   have S6:=hE h6
   gi_upto_region 8 with fail
   refine wpIn_wide.2 ?_
   refine wp_region_noPanic ?_
   refine wp_region_B (fun W=>W.cell? ⟨bb,oo+k,none⟩=some (.int .i64 x)∧W.cell? ⟨b7,7,none⟩=some (.slice a k cc)) 8 (by kernel_rfl) ?_ (fun hHeld=>?_)
   ·(try dsimp only); (first | exact ⟨hE hd,blkc hd 7 _⟩ | exact ⟨hE (hold_drop (r:=[_]) h3),blkc (hold_up [_] h3) 7 _⟩ | exact ⟨hE h5,blkc h5 7 _⟩)
   refine takeB0 (i:=0) (v:=?_) (Or.inl ⟨by kernel_rfl,?_⟩) (by assumption) ?_
   rotate_left
   ·intro w _; go_simp; try with_reducible rfl
   try simp only [Act.put,List.setIfInBounds_toArray,List.set_cons_zero,List.set_cons_succ]
   refine takeB (i:=1) (v:=?_) (Or.inl ⟨by kernel_rfl,?_⟩) (by assumption) ?_
   rotate_left
   ·intro w hSw; (try dsimp only at hSw); go_simp; try with_reducible rfl
   try simp only [Act.put,List.setIfInBounds_toArray,List.set_cons_zero,List.set_cons_succ]
   refine takeB0 (i:=2) (v:=?_) (Or.inl ⟨by kernel_rfl,?_⟩) (by assumption) ?_
   rotate_left
   ·intro w _; go_simp; try with_reducible rfl
   try simp only [Act.put,List.setIfInBounds_toArray,List.set_cons_zero,List.set_cons_succ]
   refine takeB0 (i:=3) (v:=?_) (Or.inl ⟨by kernel_rfl,?_⟩) (by assumption) ?_
   rotate_left
   ·intro w _; go_simp; try with_reducible rfl
   try simp only [Act.put,List.setIfInBounds_toArray,List.set_cons_zero,List.set_cons_succ]
   refine takeB0 (i:=4) (v:=?_) (Or.inl ⟨by kernel_rfl,?_⟩) (by assumption) ?_
   rotate_left
   ·intro w _; go_simp; try with_reducible rfl
   try simp only [Act.put,List.setIfInBounds_toArray,List.set_cons_zero,List.set_cons_succ]
   refine takeB (i:=5) (v:=?_) (Or.inl ⟨by kernel_rfl,?_⟩) (by assumption) ?_
   rotate_left
   ·intro w hSw; (try dsimp only at hSw); go_simp; try with_reducible rfl
   try simp only [Act.put,List.setIfInBounds_toArray,List.set_cons_zero,List.set_cons_succ]
   refine nextB (i:=6) (ho:=rfl) (fun K hK=>?_)
   go_simp
   refine hK.out _ _ ?_ (fun hHeld=>?_)
   ·(try dsimp only); (first | exact ⟨hE hd,blkc hd 7 _⟩ | exact ⟨hE (hold_drop (r:=[_]) h3),blkc (hold_up [_] h3) 7 _⟩ | exact ⟨hE h5,blkc h5 7 _⟩)
   clear hK K
   try simp only [Act.put,List.setIfInBounds_toArray,List.set_cons_zero,List.set_cons_succ]
   refine nextB (i:=7) (ho:=rfl) (fun K hK=>?_)
   (rw [if_pos (by rfl)]; refine wp_append_run _ _ _ rfl r5 ?_)
   refine hK.out _ _ ?_ (fun hHeld=>?_)
   ·(try dsimp only); (first | exact ⟨hE hd,blkc hd 7 _⟩ | exact ⟨hE (hold_drop (r:=[_]) h3),blkc (hold_up [_] h3) 7 _⟩ | exact ⟨hE h5,blkc h5 7 _⟩)
   clear hK K
   try simp only [Act.put,List.setIfInBounds_toArray,List.set_cons_zero,List.set_cons_succ]
   refine lastB (i:=8) (ho:=rfl) (fun K hK=>?_)
   go_simp
   refine hK.out _ _ ?_
   clear hK K
   try simp only [Act.put,List.setIfInBounds_toArray,List.set_cons_zero,List.set_cons_succ]
   refine lastB (i:=9) (ho:=rfl) (fun K hK=>?_)
   go_simp
   refine hK.out _ _ ?_
   clear hK K
   try simp only [Act.put,List.setIfInBounds_toArray,List.set_cons_zero,List.set_cons_succ]
   refine (doneB (h:=?_) (hr:=by kernel_rfl)) _
   refine NoPanic.normal ?_
   all_goals
    gi_wp2
    exact ⟨⟨k+1,a5,k5,rfl,hlt,h7⟩,by simp [intOf]; omega⟩
  ·obtain rfl:k=L.length:=by omega
   have hlI:¬ ((L.length:Nat) : Int) < (L.length:Int):=by omega
   rw [List.take_length] at hH
   have d7:=ld_all hH Tryz.underlying110 rfl (by kernel_rfl)
   obtain ⟨W6,s6,h6⟩:=st_all (t := 110) (cs':=l9L c p 1 0 0 0 (.slice a L.length cc)) (hold_up [_,_] hH) rfl (by simp [Value.oneCell']) (by kernel_rfl)
   gi_wp2_with (first | refine wpListIn_load_run rfl _ _ rfl d7 rfl ?_ | refine wpListIn_store_run rfl _ _ _ rfl s6 rfl rfl ?_)
   exact post_cell rfl rfl rfl (lv_all h6 Tryz.underlying110 rfl (by kernel_rfl)) ⟨_,rfl,hsel [_,_,_,_] h6 [2,3]⟩
end
end Go.Proofs.YtkmccgombmogmaaGreat
