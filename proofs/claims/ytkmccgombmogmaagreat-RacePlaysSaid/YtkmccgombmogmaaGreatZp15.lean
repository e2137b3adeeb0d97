/- Part of a proof: see the last text. -/
import Derived.Test.YtkmccgombmogmaaGreatZp4
import Derived.Test.YtkmccgombmogmaaGreatZp3
namespace Go.Proofs.YtkmccgombmogmaaGreat
open Go.RowKit
set_option linter.unusedVariables false
set_option linter.unusedSimpArgs false
set_option maxRecDepth 8000
section
variable {ctx:Ev.Ctx} {w:World} {r:List Ev.Asr} {c:Cfg} {p:Nat} {m:MemM} {rv tk hd:Value}
set_option maxHeartbeats 8000000 in
theorem put9_1 (n:Nat) (hp:p < c.n) {x:PutS} (hx:PutOk c x) (hk:x.st=1) (hm:MemOk c m) (h:Ev.Hold ctx (uA rv m.cells::isA tk x.ts::isA hd x.hs::r) w) : Put9 ctx r c p m rv tk hd x n w:=by
 have h0:x.st ≠ 0:=by omega
 unfold Put9
 obtain ⟨av,ak,rfl⟩:=slr_val (hold_slr h)
 obtain ⟨ta,tc,rfl⟩:=slr_val (hold_slr (hold_drop (r:=[_]) h))
 obtain ⟨ha,hc,rfl⟩:=slr_val (hold_slr (hold_drop (r:=[_,_]) h))
 have hst:=hx.st
 have hw0:U64 x.w:=hx.w
 have hts:=hx.ts
 have hgg:=hx.gg h0
 obtain ⟨st,gg,w0,ts,hs⟩:=x
 dsimp only at hst hw0 h0 hts hgg
 have hbig:=hm.big
 obtain ⟨b1,W1,hb1,hW1,q1⟩:=newN (p9L c p gg (st:Int) w0 (.slice ta ts.length tc) (.slice ha hs.length hc)) 106 h
 obtain ⟨b2,W2,hb2,hW2,q2⟩:=newN [.slice av m.cells.length ak,.int .u64 m.ops] 53 q1
 obtain ⟨b3,W3,hb3,hW3,q3⟩:=newN p9Z 106 q2
 obtain ⟨b4,W4,hb4,hW4,q4⟩:=newN [.slice none 0 0,.int .u64 0] 53 q3
 have g0:Ev.Hold ctx (H9 c p b1 b2 b3 b4 (p9L c p gg (st:Int) w0 (.slice ta ts.length tc) (.slice ha hs.length hc)) (.slice av m.cells.length ak) m.cells m.ops (.slice ta ts.length tc) (.slice ha hs.length hc) ts hs r) W4:=hsel [_,_,_,_,_] q4 [3,2,1,0,4]
 clear q1 q2 q3 q4
 have gd:=g0
 obtain ⟨Y,hY⟩ : ∃ Y,putStep c p ⟨st,gg,w0,ts,hs⟩ m=Y:=⟨_,rfl⟩
 have eg:∀ (a b:Value),p9 c p ⟨st,gg,w0,ts,hs⟩ a b=(p9L c p gg (st:Int) w0 a b).toArray:=fun _ _=>rfl
 rw [eg,hY]
 clear eg
 have x9:=blkc gd 9 _
 have x8:=blkc gd 8 _
 refine wen Tryz.func53 160 ?_
 gi_wp2
 refine wcw (rTail w0 hw0 _) ?_
 rintro e w1 ⟨rfl,rfl⟩
 clear hW1 hW2 hW3 hW4 hb1 hb2 hb3 hb4 g0 x9
 have hd:=hold_keep gd (Below.refl _ _).drew
 obtain ⟨ops',ho'⟩ : ∃ o,IntKind.u64.wrap (m.ops+1)=o:=⟨_,rfl⟩
 obtain rfl:st=1:=hk
 obtain ⟨x,hxe⟩ : ∃ x,ld m (c.word p)=x:=⟨_,rfl⟩
 obtain ⟨hx,-⟩:=hm.at_ (hm.lt_word hp)
 have hu:=(hm.get (hm.lt_word hp)).2
 rw [hxe] at hx hu
 have hq:IntKind.u32.wrap (c.q:Int)=(c.q:Int):=by have:=c.qb; rw [wrap32]; omega
 gi_upto_region 5 with fail
 gi_cut [] from 6 (fun wx=>Ev.Hold ctx (H9 c p b1 b2 b3 b4 (p9L c p gg 1 x (.slice ta ts.length tc) (.slice ha hs.length hc)) (.slice av m.cells.length ak) m.cells ops' (.slice ta ts.length tc) (.slice ha hs.length hc) ts hs r) wx)
 case first =>
  have cL:∀ {R:List Ev.Asr} {W:World},Ev.Hold ctx (uA (.slice av m.cells.length ak) m.cells::R) W→_:=fun {R W} hh=>callsIn_wide.1 (rload_in (ctx:=ctx) (r:=R) (w:=W) 0 (ops:=m.ops) hx hh)
  rw [ho'] at cL
  have y0:=blkc (hold_up [_] hd) 0 _
  have y1:=blkc (hold_up [_] hd) 1 _
  refine wpIn_wide.2 ?_
  refine wp_region_noPanic ?_
  refine wp_region_B (fun W=>cpC c p b1 W∧W.cell? ⟨b2,0,none⟩=some (.slice av m.cells.length ak)∧W.cell? ⟨b2,1,none⟩=some (.int .u64 m.ops)) 10 (by kernel_rfl) ?_ (fun hHeld=>?_)
  ·(try dsimp only); (first | exact ⟨cpc hd,blkc (hold_up [_] hd) 0 _,blkc (hold_up [_] hd) 1 _⟩ | exact ⟨cpc h1,blkc (hold_up [_] h1) 0 _,blkc (hold_up [_] h1) 1 _⟩ | exact ⟨cpc h2,blkc (hold_up [_] h2) 0 _,blkc (hold_up [_] h2) 1 _⟩)
  refine takeB (i:=0) (v:=?_) (Or.inl ⟨by kernel_rfl,?_⟩) (by assumption) ?_
  rotate_left
  ·intro w hSw; (try dsimp only at hSw); go_simp; try with_reducible rfl
  try simp only [Act.put,List.setIfInBounds_toArray,List.set_cons_zero,List.set_cons_succ]
  refine takeB0 (i:=1) (v:=?_) (Or.inl ⟨by kernel_rfl,?_⟩) (by assumption) ?_
  rotate_left
  ·intro w _; go_simp; try with_reducible rfl
  try simp only [Act.put,List.setIfInBounds_toArray,List.set_cons_zero,List.set_cons_succ]
  refine takeB (i:=2) (v:=?_) (Or.inl ⟨by kernel_rfl,?_⟩) (by assumption) ?_
  rotate_left
  ·intro w hSw; (try dsimp only at hSw); go_simp; try with_reducible rfl
  try simp only [Act.put,List.setIfInBounds_toArray,List.set_cons_zero,List.set_cons_succ]
  refine takeB0 (i:=3) (v:=?_) (Or.inl ⟨by kernel_rfl,?_⟩) (by assumption) ?_
  rotate_left
  ·intro w _; go_simp; try with_reducible rfl
  try simp only [Act.put,List.setIfInBounds_toArray,List.set_cons_zero,List.set_cons_succ]
  refine takeB (i:=4) (v:=?_) (Or.inl ⟨by kernel_rfl,?_⟩) (by assumption) ?_
  rotate_left
  ·intro w hSw; (try dsimp only at hSw); go_simp; try with_reducible rfl
  try simp only [Act.put,List.setIfInBounds_toArray,List.set_cons_zero,List.set_cons_succ]
  refine nextB (i:=5) (ho:=rfl) (fun K hK=>?_)
  go_simp
  (have hcon:=rWord_ok c p hp W4.drew; (with_reducible refine hcon.mono ?_); clear hcon; rintro e w1 ⟨rfl,b1'⟩; have h1:=hold_keep hd b1'; have z0:=blkc (hold_up [_] h1) 0 _; have z1:=blkc (hold_up [_] h1) 1 _)
  first | refine hK.out _ _ ?_ (fun hHeld=>?_) | (go_wp2_with fail; refine hK.out _ _ ?_ (fun hHeld=>?_))
  ·(try dsimp only); (first | exact ⟨cpc hd,blkc (hold_up [_] hd) 0 _,blkc (hold_up [_] hd) 1 _⟩ | exact ⟨cpc h1,blkc (hold_up [_] h1) 0 _,blkc (hold_up [_] h1) 1 _⟩ | exact ⟨cpc h2,blkc (hold_up [_] h2) 0 _,blkc (hold_up [_] h2) 1 _⟩)
  clear hK K
  try simp only [Act.put,List.setIfInBounds_toArray,List.set_cons_zero,List.set_cons_succ]
  refine nextB (i:=6) (ho:=rfl) (fun K hK=>?_)
  go_simp
  (have hcon:=cL (hold_up [_,_,_,_] h1); (with_reducible refine hcon.mono ?_); clear hcon; rintro e w2 ⟨rfl,h2⟩; replace h2:=hold_dn [_,_,_,_] h2; have x20:=blkc (hold_up [_] h2) 0 _; have x21:=blkc (hold_up [_] h2) 1 _; have f20:=froz_of (hold_blk (hold_up [_] h2)) 0; have f21:=froz_of (hold_blk (hold_up [_] h2)) 1; have h3:=hold_dn [_] (hold_set 1 (.int .u64 ops') (hold_set 0 (.slice av m.cells.length ak) (hold_up [_] h2))); have x9:=blkc h2 9 _; have f9:=froz_of (hold_blk h2) 9; have h4:=hold_set 9 (.int .u64 x) h3)
  first | refine hK.out _ _ ?_ (fun hHeld=>?_) | (go_wp2_with fail; refine hK.out _ _ ?_ (fun hHeld=>?_))
  ·(try dsimp only); (first | exact ⟨cpc hd,blkc (hold_up [_] hd) 0 _,blkc (hold_up [_] hd) 1 _⟩ | exact ⟨cpc h1,blkc (hold_up [_] h1) 0 _,blkc (hold_up [_] h1) 1 _⟩ | exact ⟨cpc h2,blkc (hold_up [_] h2) 0 _,blkc (hold_up [_] h2) 1 _⟩)
  clear hK K
  try simp only [Act.put,List.setIfInBounds_toArray,List.set_cons_zero,List.set_cons_succ]
  refine takeB0 (i:=7) (v:=?_) (Or.inl ⟨by kernel_rfl,?_⟩) (by assumption) ?_
  rotate_left
  ·intro w _; go_simp; try with_reducible rfl
  try simp only [Act.put,List.setIfInBounds_toArray,List.set_cons_zero,List.set_cons_succ]
  refine takeB0 (i:=8) (v:=?_) (Or.inl ⟨by kernel_rfl,?_⟩) (by assumption) ?_
  rotate_left
  ·intro w _; go_simp; try with_reducible rfl
  try simp only [Act.put,List.setIfInBounds_toArray,List.set_cons_zero,List.set_cons_succ]
  refine takeB0 (i:=9) (v:=?_) (Or.inl ⟨by kernel_rfl,?_⟩) (by assumption) ?_
  rotate_left
  ·intro w _; go_simp; try with_reducible rfl
  try simp only [Act.put,List.setIfInBounds_toArray,List.set_cons_zero,List.set_cons_succ]
  refine lastB (i:=10) (ho:=rfl) (fun K hK=>?_)
  go_simp
  refine hK.out _ _ ?_
  clear hK K
  try simp only [Act.put,List.setIfInBounds_toArray,List.set_cons_zero,List.set_cons_succ]
  refine lastB (i:=11) (ho:=rfl) (fun K hK=>?_)
  go_simp
  refine hK.out _ _ ?_
  clear hK K
  try simp only [Act.put,List.setIfInBounds_toArray,List.set_cons_zero,List.set_cons_succ]
  refine lastB (i:=12) (ho:=rfl) (fun K hK=>?_)
  go_simp
  refine hK.out _ _ ?_
  clear hK K
  try simp only [Act.put,List.setIfInBounds_toArray,List.set_cons_zero,List.set_cons_succ]
  refine (doneB (h:=?_) (hr:=by kernel_rfl)) _
  refine NoPanic.normal ?_
  all_goals
   gi_wp2
   gi_meet
   case rel=>exact h4
 case rest =>
  have g1:=hcut
  clear hcut gd hd
  have x10:=blkc g1 10 _
  have f10:=froz_of (hold_blk g1) 10
  have g2:=hold_set 10 (.slice none 0 0) g1
  have x8:=blkc g2 8 _
  have f8:=froz_of (hold_blk g2) 8
  have g3:=hold_set 8 (.int .i64 2) g2
  gi_upto_region 8 with fail
  have g30:Ev.Hold ctx (H9 c p b1 b2 b3 b4 (p9L c p gg 2 x (.slice none 0 0) (.slice ha hs.length hc)) (.slice av m.cells.length ak) m.cells ops' (.slice none 0 0) (.slice ha hs.length hc) [] hs r) _:=hsel [_,_,_,_,_,_,_,_] (g3.nilSl (e := 3) (sz:=1)) [1,2,3,4,5,0,7]
  obtain ⟨V,hV,g4⟩:=hname g30
  rw [← hV]
  clear hV x8 x10 f8 f10 g1 g2 g3 g30
  have g5:=hold_keep g4 (Below.refl _ _).drew
  refine wpIn_wide.2 ?_
  go_region_held3 (fun W=>cpC c p b1 W∧W.cell? ⟨b1,9,none⟩=some (.int .u64 x)) (exact ⟨cpc g5,blkc g5 9 _⟩) ((have hcon:=rSize x hu V.drew; (with_reducible refine hcon.mono ?_); clear hcon; rintro e w1 ⟨rfl,rfl⟩))
  have x8:=blkc g5 8 _
  have f8:=froz_of (hold_blk g5) 8
  by_cases hz:(c.q:Int)≤szW x
  ·have g6:Ev.Hold ctx (H9 c p b1 b2 b3 b4 (p9L c p gg 4 x (.slice none 0 0) (.slice ha hs.length hc)) (.slice av m.cells.length ak) m.cells ops' (.slice none 0 0) (.slice ha hs.length hc) [] hs r) _:=hold_set 8 (.int .i64 4) g5
   have ho:Aside (Y=(⟨4,gg,x,[],hs⟩,⟨m.cells,ops'⟩)):=by show Y=_; rw [← hY]; simp only [putStep,ge_iff_le,hxe,if_pos hz,MemM.tick,MemM.put,ho']
   gi_upto_region 36 with fail
   refine wpIn_wide.2 (reg2 g6 (fun w' hw'=>?_) Tryz.underlying106 Tryz.underlying53 rfl rfl rfl rfl rfl rfl rfl rfl rfl rfl rfl)
   gi_wp2
   exact post_cell2 rfl rfl rfl rfl (lv_all (hold_up [_,_] hw') Tryz.underlying106 rfl (by kernel_rfl)) (lv_all (hold_up [_,_,_] hw') Tryz.underlying53 rfl (by kernel_rfl)) (by rw [ho.out]; first | exact ⟨_,_,_,rfl,hold_drop (r:=[_,_,_,_]) hw'⟩ | exact ⟨_,_,⟨_,rfl⟩,hold_drop (r:=[_,_,_,_]) hw'⟩ | exact ⟨_,⟨_,_,rfl⟩,hold_drop (r:=[_,_,_,_]) hw'⟩)
  ·have hz':(c.q:Int)≤szW x↔False:=by simp only [hz]
   have ho:Aside (Y=(⟨2,gg,x,[],hs⟩,⟨m.cells,ops'⟩)):=by show Y=_; rw [← hY]; simp only [putStep,ge_iff_le,hxe,if_neg hz,MemM.tick,MemM.put,ho']
   gi_upto_region 36 with fail
   refine wpIn_wide.2 (reg2 g5 (fun w' hw'=>?_) Tryz.underlying106 Tryz.underlying53 rfl rfl rfl rfl rfl rfl rfl rfl rfl rfl rfl)
   gi_wp2
   exact post_cell2 rfl rfl rfl rfl (lv_all (hold_up [_,_] hw') Tryz.underlying106 rfl (by kernel_rfl)) (lv_all (hold_up [_,_,_] hw') Tryz.underlying53 rfl (by kernel_rfl)) (by rw [ho.out]; first | exact ⟨_,_,_,rfl,hold_drop (r:=[_,_,_,_]) hw'⟩ | exact ⟨_,_,⟨_,rfl⟩,hold_drop (r:=[_,_,_,_]) hw'⟩ | exact ⟨_,⟨_,_,rfl⟩,hold_drop (r:=[_,_,_,_]) hw'⟩)
end
end Go.Proofs.YtkmccgombmogmaaGreat
namespace Go.Proofs.YtkmccgombmogmaaGreat
open Go.RowKit
set_option linter.unusedVariables false
set_option linter.unusedSimpArgs false
set_option maxRecDepth 8000
section
variable {ctx:Ev.Ctx} {w:World} {r:List Ev.Asr} {c:Cfg} {p:Nat} {m:MemM} {rv tk hd:Value}
set_option maxHeartbeats 8000000 in
theorem put9_2 (n:Nat) (hp:p < c.n) {x:PutS} (hx:PutOk c x) (hk:x.st=2) (hm:MemOk c m) (h:Ev.Hold ctx (uA rv m.cells::isA tk x.ts::isA hd x.hs::r) w) : Put9 ctx r c p m rv tk hd x n w:=by
 have h0:x.st ≠ 0:=by omega
 unfold Put9
 obtain ⟨av,ak,rfl⟩:=slr_val (hold_slr h)
 obtain ⟨ta,tc,rfl⟩:=slr_val (hold_slr (hold_drop (r:=[_]) h))
 obtain ⟨ha,hc,rfl⟩:=slr_val (hold_slr (hold_drop (r:=[_,_]) h))
 have hst:=hx.st
 have hw0:U64 x.w:=hx.w
 have hts:=hx.ts
 have hgg:=hx.gg h0
 obtain ⟨st,gg,w0,ts,hs⟩:=x
 dsimp only at hst hw0 h0 hts hgg
 have hbig:=hm.big
 obtain ⟨b1,W1,hb1,hW1,q1⟩:=newN (p9L c p gg (st:Int) w0 (.slice ta ts.length tc) (.slice ha hs.length hc)) 106 h
 obtain ⟨b2,W2,hb2,hW2,q2⟩:=newN [.slice av m.cells.length ak,.int .u64 m.ops] 53 q1
 obtain ⟨b3,W3,hb3,hW3,q3⟩:=newN p9Z 106 q2
 obtain ⟨b4,W4,hb4,hW4,q4⟩:=newN [.slice none 0 0,.int .u64 0] 53 q3
 have g0:Ev.Hold ctx (H9 c p b1 b2 b3 b4 (p9L c p gg (st:Int) w0 (.slice ta ts.length tc) (.slice ha hs.length hc)) (.slice av m.cells.length ak) m.cells m.ops (.slice ta ts.length tc) (.slice ha hs.length hc) ts hs r) W4:=hsel [_,_,_,_,_] q4 [3,2,1,0,4]
 clear q1 q2 q3 q4
 have gd:=g0
 obtain ⟨Y,hY⟩ : ∃ Y,putStep c p ⟨st,gg,w0,ts,hs⟩ m=Y:=⟨_,rfl⟩
 have eg:∀ (a b:Value),p9 c p ⟨st,gg,w0,ts,hs⟩ a b=(p9L c p gg (st:Int) w0 a b).toArray:=fun _ _=>rfl
 rw [eg,hY]
 clear eg
 have x9:=blkc gd 9 _
 have x8:=blkc gd 8 _
 refine wen Tryz.func53 160 ?_
 gi_wp2
 refine wcw (rTail w0 hw0 _) ?_
 rintro e w1 ⟨rfl,rfl⟩
 clear hW1 hW2 hW3 hW4 hb1 hb2 hb3 hb4 g0 x9
 have hd:=hold_keep gd (Below.refl _ _).drew
 obtain ⟨ops',ho'⟩ : ∃ o,IntKind.u64.wrap (m.ops+1)=o:=⟨_,rfl⟩
 obtain rfl:st=2:=hk
 have e2:IntKind.u64.wrap gg=gg:=by rw [IntKind.wrap_u64]; omega
 have hlt:=hm.lt_slot hp (tlW w0)
 obtain ⟨CS,hCS⟩ : ∃ CS,m.cells.set (c.slot p (tlW w0)) gg=CS:=⟨_,rfl⟩
 gi_upto_region 11 with fail
 gi_cut [] from 12 (fun wx=>∃ a2 k2,Ev.Hold ctx (H9 c p b1 b2 b3 b4 (p9L c p gg 2 w0 (.slice ta ts.length tc) (.slice ha hs.length hc)) (.slice a2 CS.length k2) CS ops' (.slice ta ts.length tc) (.slice ha hs.length hc) ts hs r) wx)
 case first =>
  have y0:=blkc (hold_up [_] hd) 0 _
  have y1:=blkc (hold_up [_] hd) 1 _
  have cL:∀ {R:List Ev.Asr} {W:World},Ev.Hold ctx (uA (.slice av m.cells.length ak) m.cells::R) W→Calls Tryz.prog 83 #[.agg #[(.slice av m.cells.length ak),.int .u64 m.ops],.int .i64 ((c.slot p (tlW w0) : Nat) : Int),.int .u64 gg] W fun e w'=>∃ a2 k2,e=.returned (.agg #[(.slice a2 CS.length k2),.int .u64 ops'])∧Ev.Hold ctx (uA (.slice a2 CS.length k2) CS::uA (.slice av m.cells.length ak) m.cells::R) w':=fun {R W} hh=>by
   refine (callsIn_wide.1 (rstore_in 0 (ops:=m.ops) (by omega) hlt gg hh)).mono ?_
   rintro e w' ⟨al,rfl,h1⟩
   rw [ho']
   rw [hCS] at h1
   obtain ⟨a2,k2,rfl⟩:=slr_val (hold_slr h1)
   exact ⟨a2,k2,rfl,h1⟩
  refine wpIn_wide.2 ?_
  refine wp_region_noPanic ?_
  refine wp_region_B (fun W=>cpC c p b1 W∧W.cell? ⟨b2,0,none⟩=some (.slice av m.cells.length ak)∧W.cell? ⟨b2,1,none⟩=some (.int .u64 m.ops)∧W.cell? ⟨b1,7,none⟩=some (.int .i64 gg)) 11 (by kernel_rfl) ?_ (fun hHeld=>?_)
  ·(try dsimp only); (first | exact ⟨cpc hd,blkc (hold_up [_] hd) 0 _,blkc (hold_up [_] hd) 1 _,blkc hd 7 _⟩ | exact ⟨cpc h1,blkc (hold_up [_] h1) 0 _,blkc (hold_up [_] h1) 1 _,blkc h1 7 _⟩ | exact ⟨cpc h2,blkc (hold_up [_] h2) 0 _,blkc (hold_up [_] h2) 1 _,blkc h2 7 _⟩)
  refine takeB (i:=0) (v:=?_) (Or.inl ⟨by kernel_rfl,?_⟩) (by assumption) ?_
  rotate_left
  ·intro w hSw; (try dsimp only at hSw); go_simp; try with_reducible rfl
  try simp only [Act.put,List.setIfInBounds_toArray,List.set_cons_zero,List.set_cons_succ]
  refine takeB0 (i:=1) (v:=?_) (Or.inl ⟨by kernel_rfl,?_⟩) (by assumption) ?_
  rotate_left
  ·intro w _; go_simp; try with_reducible rfl
  try simp only [Act.put,List.setIfInBounds_toArray,List.set_cons_zero,List.set_cons_succ]
  refine takeB (i:=2) (v:=?_) (Or.inl ⟨by kernel_rfl,?_⟩) (by assumption) ?_
  rotate_left
  ·intro w hSw; (try dsimp only at hSw); go_simp; try with_reducible rfl
  try simp only [Act.put,List.setIfInBounds_toArray,List.set_cons_zero,List.set_cons_succ]
  refine takeB0 (i:=3) (v:=?_) (Or.inl ⟨by kernel_rfl,?_⟩) (by assumption) ?_
  rotate_left
  ·intro w _; go_simp; try with_reducible rfl
  try simp only [Act.put,List.setIfInBounds_toArray,List.set_cons_zero,List.set_cons_succ]
  refine takeB (i:=4) (v:=?_) (Or.inl ⟨by kernel_rfl,?_⟩) (by assumption) ?_
  rotate_left
  ·intro w hSw; (try dsimp only at hSw); go_simp; try with_reducible rfl
  try simp only [Act.put,List.setIfInBounds_toArray,List.set_cons_zero,List.set_cons_succ]
  refine takeB0 (i:=5) (v:=?_) (Or.inl ⟨by kernel_rfl,?_⟩) (by assumption) ?_
  rotate_left
  ·intro w _; go_simp; try with_reducible rfl
  try simp only [Act.put,List.setIfInBounds_toArray,List.set_cons_zero,List.set_cons_succ]
  refine takeB0 (i:=7) (v:=?_) (Or.inl ⟨by kernel_rfl,?_⟩) (by assumption) ?_
  rotate_left
  ·intro w _; go_simp; try with_reducible rfl
  try simp only [Act.put,List.setIfInBounds_toArray,List.set_cons_zero,List.set_cons_succ]
  refine takeB (i:=8) (v:=?_) (Or.inl ⟨by kernel_rfl,?_⟩) (by assumption) ?_
  rotate_left
  ·intro w hSw; (try dsimp only at hSw); go_simp; try with_reducible rfl
  try simp only [Act.put,List.setIfInBounds_toArray,List.set_cons_zero,List.set_cons_succ]
  refine takeB0 (i:=9) (v:=?_) (Or.inl ⟨by kernel_rfl,?_⟩) (by assumption) ?_
  rotate_left
  ·intro w _; go_simp; try with_reducible rfl
  try simp only [Act.put,List.setIfInBounds_toArray,List.set_cons_zero,List.set_cons_succ]
  refine nextB (i:=6) (ho:=rfl) (fun K hK=>?_)
  go_simp
  (have hcon:=rSlot_ok c p hp (tlW w0) (tlW_bd w0).1 W4.drew; (with_reducible refine hcon.mono ?_); clear hcon; rintro e w1 ⟨rfl,b1'⟩; have h1:=hold_keep hd b1'; have z0:=blkc (hold_up [_] h1) 0 _; have z1:=blkc (hold_up [_] h1) 1 _)
  first | refine hK.out _ _ ?_ (fun hHeld=>?_) | (go_wp2_with fail; refine hK.out _ _ ?_ (fun hHeld=>?_))
  ·(try dsimp only); (first | exact ⟨cpc hd,blkc (hold_up [_] hd) 0 _,blkc (hold_up [_] hd) 1 _,blkc hd 7 _⟩ | exact ⟨cpc h1,blkc (hold_up [_] h1) 0 _,blkc (hold_up [_] h1) 1 _,blkc h1 7 _⟩ | exact ⟨cpc h2,blkc (hold_up [_] h2) 0 _,blkc (hold_up [_] h2) 1 _,blkc h2 7 _⟩)
  clear hK K
  try simp only [Act.put,List.setIfInBounds_toArray,List.set_cons_zero,List.set_cons_succ]
  refine nextB (i:=10) (ho:=rfl) (fun K hK=>?_)
  go_simp
  (have hcon:=cL (hold_up [_,_,_,_] h1); (with_reducible refine hcon.mono ?_); clear hcon; rintro e w2 ⟨a2,k2,rfl,h2⟩; replace h2:=hsel [_,_,_,_,_,_] h2 [2,3,4,5,0]; have x20:=blkc (hold_up [_] h2) 0 _; have x21:=blkc (hold_up [_] h2) 1 _; have f20:=froz_of (hold_blk (hold_up [_] h2)) 0; have f21:=froz_of (hold_blk (hold_up [_] h2)) 1; have h3:=hold_dn [_] (hold_set 1 (.int .u64 ops') (hold_set 0 (.slice a2 CS.length k2) (hold_up [_] h2))))
  first | refine hK.out _ _ ?_ (fun hHeld=>?_) | (go_wp2_with fail; refine hK.out _ _ ?_ (fun hHeld=>?_))
  ·(try dsimp only); (first | exact ⟨cpc hd,blkc (hold_up [_] hd) 0 _,blkc (hold_up [_] hd) 1 _,blkc hd 7 _⟩ | exact ⟨cpc h1,blkc (hold_up [_] h1) 0 _,blkc (hold_up [_] h1) 1 _,blkc h1 7 _⟩ | exact ⟨cpc h2,blkc (hold_up [_] h2) 0 _,blkc (hold_up [_] h2) 1 _,blkc h2 7 _⟩)
  clear hK K
  try simp only [Act.put,List.setIfInBounds_toArray,List.set_cons_zero,List.set_cons_succ]
  refine lastB (i:=11) (ho:=rfl) (fun K hK=>?_)
  go_simp
  refine hK.out _ _ ?_
  clear hK K
  try simp only [Act.put,List.setIfInBounds_toArray,List.set_cons_zero,List.set_cons_succ]
  refine (doneB (h:=?_) (hr:=by kernel_rfl)) _
  refine NoPanic.normal ?_
  all_goals
   gi_wp2
   gi_meet
   case rel=>exact ⟨_,_,h3⟩
 case rest =>
  obtain ⟨a2,k2,g1⟩:=hcut
  clear hd gd
  have x8:=blkc g1 8 _
  have f8:=froz_of (hold_blk g1) 8
  have g2:Ev.Hold ctx (H9 c p b1 b2 b3 b4 (p9L c p gg 3 w0 (.slice ta ts.length tc) (.slice ha hs.length hc)) (.slice a2 CS.length k2) CS ops' (.slice ta ts.length tc) (.slice ha hs.length hc) ts hs r) _:=hold_set 8 (.int .i64 3) g1
  have ho:Aside (Y=(⟨3,gg,w0,ts,hs⟩,⟨CS,ops'⟩)):=by show Y=_; rw [← hY]; simp only [putStep,ge_iff_le,← hCS,MemM.tick,MemM.put,ho']
  clear hCS
  gi_upto_region 36 with fail
  refine wpIn_wide.2 (reg2 g2 (fun w' hw'=>?_) Tryz.underlying106 Tryz.underlying53 rfl rfl rfl rfl rfl rfl rfl rfl rfl rfl rfl)
  gi_wp2
  exact post_cell2 rfl rfl rfl rfl (lv_all (hold_up [_,_] hw') Tryz.underlying106 rfl (by kernel_rfl)) (lv_all (hold_up [_,_,_] hw') Tryz.underlying53 rfl (by kernel_rfl)) (by rw [ho.out]; first | exact ⟨_,_,_,rfl,hold_drop (r:=[_,_,_,_]) hw'⟩ | exact ⟨_,_,⟨_,rfl⟩,hold_drop (r:=[_,_,_,_]) hw'⟩ | exact ⟨_,⟨_,_,rfl⟩,hold_drop (r:=[_,_,_,_]) hw'⟩)
end
end Go.Proofs.YtkmccgombmogmaaGreat
namespace Go.Proofs.YtkmccgombmogmaaGreat
open Go.RowKit
set_option linter.unusedVariables false
set_option linter.unusedSimpArgs false
set_option maxRecDepth 8000
section
variable {ctx:Ev.Ctx} {w:World} {r:List Ev.Asr} {c:Cfg} {p:Nat} {m:MemM} {rv tk hd:Value}
set_option maxHeartbeats 8000000 in
theorem put9_3 (n:Nat) (hp:p < c.n) {x:PutS} (hx:PutOk c x) (hk:x.st=3) (hm:MemOk c m) (h:Ev.Hold ctx (uA rv m.cells::isA tk x.ts::isA hd x.hs::r) w) : Put9 ctx r c p m rv tk hd x n w:=by
 have h0:x.st ≠ 0:=by omega
 unfold Put9
 obtain ⟨av,ak,rfl⟩:=slr_val (hold_slr h)
 obtain ⟨ta,tc,rfl⟩:=slr_val (hold_slr (hold_drop (r:=[_]) h))
 obtain ⟨ha,hc,rfl⟩:=slr_val (hold_slr (hold_drop (r:=[_,_]) h))
 have hst:=hx.st
 have hw0:U64 x.w:=hx.w
 have hts:=hx.ts
 have hgg:=hx.gg h0
 obtain ⟨st,gg,w0,ts,hs⟩:=x
 dsimp only at hst hw0 h0 hts hgg
 have hbig:=hm.big
 obtain ⟨b1,W1,hb1,hW1,q1⟩:=newN (p9L c p gg (st:Int) w0 (.slice ta ts.length tc) (.slice ha hs.length hc)) 106 h
 obtain ⟨b2,W2,hb2,hW2,q2⟩:=newN [.slice av m.cells.length ak,.int .u64 m.ops] 53 q1
 obtain ⟨b3,W3,hb3,hW3,q3⟩:=newN p9Z 106 q2
 obtain ⟨b4,W4,hb4,hW4,q4⟩:=newN [.slice none 0 0,.int .u64 0] 53 q3
 have g0:Ev.Hold ctx (H9 c p b1 b2 b3 b4 (p9L c p gg (st:Int) w0 (.slice ta ts.length tc) (.slice ha hs.length hc)) (.slice av m.cells.length ak) m.cells m.ops (.slice ta ts.length tc) (.slice ha hs.length hc) ts hs r) W4:=hsel [_,_,_,_,_] q4 [3,2,1,0,4]
 clear q1 q2 q3 q4
 have gd:=g0
 obtain ⟨Y,hY⟩ : ∃ Y,putStep c p ⟨st,gg,w0,ts,hs⟩ m=Y:=⟨_,rfl⟩
 have eg:∀ (a b:Value),p9 c p ⟨st,gg,w0,ts,hs⟩ a b=(p9L c p gg (st:Int) w0 a b).toArray:=fun _ _=>rfl
 rw [eg,hY]
 clear eg
 have x9:=blkc gd 9 _
 have x8:=blkc gd 8 _
 refine wen Tryz.func53 160 ?_
 gi_wp2
 refine wcw (rTail w0 hw0 _) ?_
 rintro e w1 ⟨rfl,rfl⟩
 clear hW1 hW2 hW3 hW4 hb1 hb2 hb3 hb4 g0 x9
 have hd:=hold_keep gd (Below.refl _ _).drew
 obtain ⟨ops',ho'⟩ : ∃ o,IntKind.u64.wrap (m.ops+1)=o:=⟨_,rfl⟩
 obtain rfl:st=3:=hk
 obtain ⟨hx,-⟩:=hm.at_ (hm.lt_word hp)
 obtain ⟨x,hxe⟩ : ∃ x,ld m (c.word p)=x:=⟨_,rfl⟩
 rw [hxe] at hx
 obtain ⟨z,hz'⟩ : ∃ z,decide (x=w0)=z:=⟨_,rfl⟩
 obtain ⟨CS,hCS⟩ : ∃ CS,(if x=w0 then m.cells.set (c.word p) (mvW w0 1) else m.cells)=CS:=⟨_,rfl⟩
 have x9d:=blkc hd 9 _
 gi_upto_region 14 with fail
 gi_cut [7] from 15 (fun s7 wx=>∃ a2 k2,s7=.bool z∧Ev.Hold ctx (H9 c p b1 b2 b3 b4 (p9L c p gg 3 w0 (.slice ta ts.length tc) (.slice ha hs.length hc)) (.slice a2 CS.length k2) CS ops' (.slice ta ts.length tc) (.slice ha hs.length hc) ts hs r) wx)
 case first =>
  have y0:=blkc (hold_up [_] hd) 0 _
  have y1:=blkc (hold_up [_] hd) 1 _
  have cL:∀ {R:List Ev.Asr} {W:World},Ev.Hold ctx (uA (.slice av m.cells.length ak) m.cells::R) W→Calls Tryz.prog 85 #[.agg #[(.slice av m.cells.length ak),.int .u64 m.ops],.int .i64 ((c.word p:Nat) : Int),.int .u64 w0,.int .u64 (mvW w0 1)] W fun e w'=>∃ a2 k2,e=.returned (.tuple #[.agg #[(.slice a2 CS.length k2),.int .u64 ops'],.bool z])∧Ev.Hold ctx (uA (.slice a2 CS.length k2) CS::R) w':=fun {R W} hh=>by
   refine (callsIn_wide.1 (rcas_in 0 (ops:=m.ops) (by omega) hx w0 (mvW w0 1) hh)).mono ?_
   rintro e w' ⟨al,rfl,h1⟩
   rw [hz',ho']
   rw [hCS] at h1
   obtain ⟨a2,k2,rfl⟩:=slr_val (hold_slr h1)
   exact ⟨a2,k2,rfl,h1⟩
  have e3:IntKind.u32.wrap (tlW w0+1)=(tlW w0+1) % 4294967296:=wrap32 _
  have cP:=fun W=>rPack (hdW w0) ((tlW w0+1) % 4294967296) (hdW_bd hw0) (by omega) W
  rw [show packW (hdW w0) ((tlW w0+1) % 4294967296)=mvW w0 1 from rfl] at cP
  refine wpIn_wide.2 ?_
  refine wp_region_noPanic ?_
  refine wp_region_B (fun W=>cpC c p b1 W∧W.cell? ⟨b2,0,none⟩=some (.slice av m.cells.length ak)∧W.cell? ⟨b2,1,none⟩=some (.int .u64 m.ops)∧W.cell? ⟨b1,9,none⟩=some (.int .u64 w0)) 18 (by kernel_rfl) ?_ (fun hHeld=>?_)
  ·(try dsimp only); (first | exact ⟨cpc hd,blkc (hold_up [_] hd) 0 _,blkc (hold_up [_] hd) 1 _,blkc hd 9 _⟩ | exact ⟨cpc h1,blkc (hold_up [_] h1) 0 _,blkc (hold_up [_] h1) 1 _,blkc h1 9 _⟩ | exact ⟨cpc h2,blkc (hold_up [_] h2) 0 _,blkc (hold_up [_] h2) 1 _,blkc h2 9 _⟩)
  refine takeB (i:=0) (v:=?_) (Or.inl ⟨by kernel_rfl,?_⟩) (by assumption) ?_
  rotate_left
  ·intro w hSw; (try dsimp only at hSw); go_simp; try with_reducible rfl
  try simp only [Act.put,List.setIfInBounds_toArray,List.set_cons_zero,List.set_cons_succ]
  refine takeB0 (i:=1) (v:=?_) (Or.inl ⟨by kernel_rfl,?_⟩) (by assumption) ?_
  rotate_left
  ·intro w _; go_simp; try with_reducible rfl
  try simp only [Act.put,List.setIfInBounds_toArray,List.set_cons_zero,List.set_cons_succ]
  refine takeB (i:=2) (v:=?_) (Or.inl ⟨by kernel_rfl,?_⟩) (by assumption) ?_
  rotate_left
  ·intro w hSw; (try dsimp only at hSw); go_simp; try with_reducible rfl
  try simp only [Act.put,List.setIfInBounds_toArray,List.set_cons_zero,List.set_cons_succ]
  refine takeB0 (i:=3) (v:=?_) (Or.inl ⟨by kernel_rfl,?_⟩) (by assumption) ?_
  rotate_left
  ·intro w _; go_simp; try with_reducible rfl
  try simp only [Act.put,List.setIfInBounds_toArray,List.set_cons_zero,List.set_cons_succ]
  refine takeB (i:=4) (v:=?_) (Or.inl ⟨by kernel_rfl,?_⟩) (by assumption) ?_
  rotate_left
  ·intro w hSw; (try dsimp only at hSw); go_simp; try with_reducible rfl
  try simp only [Act.put,List.setIfInBounds_toArray,List.set_cons_zero,List.set_cons_succ]
  refine takeB0 (i:=6) (v:=?_) (Or.inl ⟨by kernel_rfl,?_⟩) (by assumption) ?_
  rotate_left
  ·intro w _; go_simp; try with_reducible rfl
  try simp only [Act.put,List.setIfInBounds_toArray,List.set_cons_zero,List.set_cons_succ]
  refine takeB (i:=7) (v:=?_) (Or.inl ⟨by kernel_rfl,?_⟩) (by assumption) ?_
  rotate_left
  ·intro w hSw; (try dsimp only at hSw); go_simp; try with_reducible rfl
  try simp only [Act.put,List.setIfInBounds_toArray,List.set_cons_zero,List.set_cons_succ]
  refine takeB0 (i:=8) (v:=?_) (Or.inl ⟨by kernel_rfl,?_⟩) (by assumption) ?_
  rotate_left
  ·intro w _; go_simp; try with_reducible rfl
  try simp only [Act.put,List.setIfInBounds_toArray,List.set_cons_zero,List.set_cons_succ]
  refine takeB (i:=9) (v:=?_) (Or.inl ⟨by kernel_rfl,?_⟩) (by assumption) ?_
  rotate_left
  ·intro w hSw; (try dsimp only at hSw); go_simp; try with_reducible rfl
  try simp only [Act.put,List.setIfInBounds_toArray,List.set_cons_zero,List.set_cons_succ]
  refine takeB0 (i:=11) (v:=?_) (Or.inl ⟨by kernel_rfl,?_⟩) (by assumption) ?_
  rotate_left
  ·intro w _; go_simp; try with_reducible rfl
  try simp only [Act.put,List.setIfInBounds_toArray,List.set_cons_zero,List.set_cons_succ]
  refine takeB0 (i:=12) (v:=?_) (Or.inl ⟨by kernel_rfl,?_⟩) (by assumption) ?_
  rotate_left
  ·intro w _; go_simp; try with_reducible rfl
  try simp only [Act.put,List.setIfInBounds_toArray,List.set_cons_zero,List.set_cons_succ]
  refine nextB (i:=5) (ho:=rfl) (fun K hK=>?_)
  go_simp
  (have hcon:=rWord_ok c p hp W4.drew; (with_reducible refine hcon.mono ?_); clear hcon; rintro e w1 ⟨rfl,b1'⟩; have h1:=hold_keep hd b1'; have z0:=blkc (hold_up [_] h1) 0 _; have z1:=blkc (hold_up [_] h1) 1 _)
  first | refine hK.out _ _ ?_ (fun hHeld=>?_) | (go_wp2_with fail; refine hK.out _ _ ?_ (fun hHeld=>?_))
  ·(try dsimp only); (first | exact ⟨cpc hd,blkc (hold_up [_] hd) 0 _,blkc (hold_up [_] hd) 1 _,blkc hd 9 _⟩ | exact ⟨cpc h1,blkc (hold_up [_] h1) 0 _,blkc (hold_up [_] h1) 1 _,blkc h1 9 _⟩ | exact ⟨cpc h2,blkc (hold_up [_] h2) 0 _,blkc (hold_up [_] h2) 1 _,blkc h2 9 _⟩)
  clear hK K
  try simp only [Act.put,List.setIfInBounds_toArray,List.set_cons_zero,List.set_cons_succ]
  refine nextB (i:=10) (ho:=rfl) (fun K hK=>?_)
  go_simp
  (have hcon:=rHead w0 hw0 w1; (with_reducible refine hcon.mono ?_); clear hcon; rintro e w1' ⟨rfl,hw1⟩; subst hw1)
  first | refine hK.out _ _ ?_ (fun hHeld=>?_) | (go_wp2_with fail; refine hK.out _ _ ?_ (fun hHeld=>?_))
  ·(try dsimp only); (first | exact ⟨cpc hd,blkc (hold_up [_] hd) 0 _,blkc (hold_up [_] hd) 1 _,blkc hd 9 _⟩ | exact ⟨cpc h1,blkc (hold_up [_] h1) 0 _,blkc (hold_up [_] h1) 1 _,blkc h1 9 _⟩ | exact ⟨cpc h2,blkc (hold_up [_] h2) 0 _,blkc (hold_up [_] h2) 1 _,blkc h2 9 _⟩)
  clear hK K
  try simp only [Act.put,List.setIfInBounds_toArray,List.set_cons_zero,List.set_cons_succ]
  refine nextB (i:=13) (ho:=rfl) (fun K hK=>?_)
  go_simp
  (have hcon:=cP w1; (with_reducible refine hcon.mono ?_); clear hcon; rintro e w1' ⟨rfl,hw1⟩; subst hw1)
  first | refine hK.out _ _ ?_ (fun hHeld=>?_) | (go_wp2_with fail; refine hK.out _ _ ?_ (fun hHeld=>?_))
  ·(try dsimp only); (first | exact ⟨cpc hd,blkc (hold_up [_] hd) 0 _,blkc (hold_up [_] hd) 1 _,blkc hd 9 _⟩ | exact ⟨cpc h1,blkc (hold_up [_] h1) 0 _,blkc (hold_up [_] h1) 1 _,blkc h1 9 _⟩ | exact ⟨cpc h2,blkc (hold_up [_] h2) 0 _,blkc (hold_up [_] h2) 1 _,blkc h2 9 _⟩)
  clear hK K
  try simp only [Act.put,List.setIfInBounds_toArray,List.set_cons_zero,List.set_cons_succ]
  refine nextB (i:=14) (ho:=rfl) (fun K hK=>?_)
  go_simp
  (have hcon:=cL (hold_up [_,_,_,_] h1); (with_reducible refine hcon.mono ?_); clear hcon; rintro e w2 ⟨a2,k2,rfl,h2⟩; replace h2:=hold_dn [_,_,_,_] h2; have x20:=blkc (hold_up [_] h2) 0 _; have x21:=blkc (hold_up [_] h2) 1 _; have f20:=froz_of (hold_blk (hold_up [_] h2)) 0; have f21:=froz_of (hold_blk (hold_up [_] h2)) 1; have h3:=hold_dn [_] (hold_set 1 (.int .u64 ops') (hold_set 0 (.slice a2 CS.length k2) (hold_up [_] h2))))
  first | refine hK.out _ _ ?_ (fun hHeld=>?_) | (go_wp2_with fail; refine hK.out _ _ ?_ (fun hHeld=>?_))
  ·(try dsimp only); (first | exact ⟨cpc hd,blkc (hold_up [_] hd) 0 _,blkc (hold_up [_] hd) 1 _,blkc hd 9 _⟩ | exact ⟨cpc h1,blkc (hold_up [_] h1) 0 _,blkc (hold_up [_] h1) 1 _,blkc h1 9 _⟩ | exact ⟨cpc h2,blkc (hold_up [_] h2) 0 _,blkc (hold_up [_] h2) 1 _,blkc h2 9 _⟩)
  clear hK K
  try simp only [Act.put,List.setIfInBounds_toArray,List.set_cons_zero,List.set_cons_succ]
  refine takeB0 (i:=15) (v:=?_) (Or.inl ⟨by kernel_rfl,?_⟩) (by assumption) ?_
  rotate_left
  ·intro w _; go_simp; try with_reducible rfl
  try simp only [Act.put,List.setIfInBounds_toArray,List.set_cons_zero,List.set_cons_succ]
  refine takeB0 (i:=16) (v:=?_) (Or.inl ⟨by kernel_rfl,?_⟩) (by assumption) ?_
  rotate_left
  ·intro w _; go_simp; try with_reducible rfl
  try simp only [Act.put,List.setIfInBounds_toArray,List.set_cons_zero,List.set_cons_succ]
  refine takeB0 (i:=17) (v:=?_) (Or.inl ⟨by kernel_rfl,?_⟩) (by assumption) ?_
  rotate_left
  ·intro w _; go_simp; try with_reducible rfl
  try simp only [Act.put,List.setIfInBounds_toArray,List.set_cons_zero,List.set_cons_succ]
  refine lastB (i:=18) (ho:=rfl) (fun K hK=>?_)
  go_simp
  refine hK.out _ _ ?_
  clear hK K
  try simp only [Act.put,List.setIfInBounds_toArray,List.set_cons_zero,List.set_cons_succ]
  refine lastB (i:=19) (ho:=rfl) (fun K hK=>?_)
  go_simp
  refine hK.out _ _ ?_
  clear hK K
  try simp only [Act.put,List.setIfInBounds_toArray,List.set_cons_zero,List.set_cons_succ]
  refine (doneB (h:=?_) (hr:=by kernel_rfl)) _
  refine NoPanic.normal ?_
  all_goals
   gi_wp2
   gi_meet
   case rel=>exact ⟨_,_,rfl,h3⟩
 case rest =>
  obtain ⟨a2,k2,rfl,g1⟩:=hcut
  clear hd gd x9d
  have x8:=blkc g1 8 _
  have f8:=froz_of (hold_blk g1) 8
  have g2:=hold_set 8 (.int .i64 1) g1
  by_cases he:x=w0
  ·obtain rfl:true=z:=by rw [← hz']; simp [he]
   have y8:=blkc g2 8 _
   have i8:=froz_of (hold_blk g2) 8
   have g3:=hold_set 8 (.int .i64 0) g2
   have y11:=blkc g3 11 _
   have i11:=froz_of (hold_blk g3) 11
   have g4:=hold_set 11 (.slice none 0 0) g3
   have g5:Ev.Hold ctx (H9 c p b1 b2 b3 b4 (p9L c p gg 0 w0 (.slice ta ts.length tc) (.slice none 0 0)) (.slice a2 CS.length k2) CS ops' (.slice ta ts.length tc) (.slice none 0 0) ts [] r) _:=hsel [_,_,_,_,_,_,_,_] (g4.nilSl (e := 3) (sz:=1)) [1,2,3,4,5,6,0]
   have ho:Aside (Y=(⟨0,gg,w0,ts,[]⟩,⟨CS,ops'⟩)):=by show Y=_; rw [← hY]; simp only [putStep,ge_iff_le,← hCS,hxe,if_pos he,MemM.tick,MemM.put,ho']
   clear hCS hz'
   gi_upto_region 36 with fail
   refine wpIn_wide.2 (reg2 g5 (fun w' hw'=>?_) Tryz.underlying106 Tryz.underlying53 rfl rfl rfl rfl rfl rfl rfl rfl rfl rfl rfl)
   gi_wp2
   exact post_cell2 rfl rfl rfl rfl (lv_all (hold_up [_,_] hw') Tryz.underlying106 rfl (by kernel_rfl)) (lv_all (hold_up [_,_,_] hw') Tryz.underlying53 rfl (by kernel_rfl)) (by rw [ho.out]; first | exact ⟨_,_,_,rfl,hold_drop (r:=[_,_,_,_]) hw'⟩ | exact ⟨_,_,⟨_,rfl⟩,hold_drop (r:=[_,_,_,_]) hw'⟩ | exact ⟨_,⟨_,_,rfl⟩,hold_drop (r:=[_,_,_,_]) hw'⟩)
  ·obtain rfl:false=z:=by rw [← hz']; simp [he]
   have g5:Ev.Hold ctx (H9 c p b1 b2 b3 b4 (p9L c p gg 1 w0 (.slice ta ts.length tc) (.slice ha hs.length hc)) (.slice a2 CS.length k2) CS ops' (.slice ta ts.length tc) (.slice ha hs.length hc) ts hs r) _:=g2
   have ho:Aside (Y=(⟨1,gg,w0,ts,hs⟩,⟨CS,ops'⟩)):=by show Y=_; rw [← hY]; simp only [putStep,ge_iff_le,← hCS,hxe,if_neg he,MemM.tick,MemM.put,ho']
   clear hCS hz'
   gi_upto_region 36 with fail
   refine wpIn_wide.2 (reg2 g5 (fun w' hw'=>?_) Tryz.underlying106 Tryz.underlying53 rfl rfl rfl rfl rfl rfl rfl rfl rfl rfl rfl)
   gi_wp2
   exact post_cell2 rfl rfl rfl rfl (lv_all (hold_up [_,_] hw') Tryz.underlying106 rfl (by kernel_rfl)) (lv_all (hold_up [_,_,_] hw') Tryz.underlying53 rfl (by kernel_rfl)) (by rw [ho.out]; first | exact ⟨_,_,_,rfl,hold_drop (r:=[_,_,_,_]) hw'⟩ | exact ⟨_,_,⟨_,rfl⟩,hold_drop (r:=[_,_,_,_]) hw'⟩ | exact ⟨_,⟨_,_,rfl⟩,hold_drop (r:=[_,_,_,_]) hw'⟩)
end
end Go.Proofs.YtkmccgombmogmaaGreat
namespace Go.Proofs.YtkmccgombmogmaaGreat
open Go.RowKit
set_option linter.unusedVariables false
set_option linter.unusedSimpArgs false
set_option maxRecDepth 8000
section
variable {ctx:Ev.Ctx} {w:World} {r:List Ev.Asr} {c:Cfg} {p:Nat} {m:MemM} {rv tk hd:Value}
set_option maxHeartbeats 8000000 in
theorem put9_4 (n:Nat) (hp:p < c.n) {x:PutS} (hx:PutOk c x) (hk:x.st=4) (hm:MemOk c m) (h:Ev.Hold ctx (uA rv m.cells::isA tk x.ts::isA hd x.hs::r) w) : Put9 ctx r c p m rv tk hd x n w:=by
 have h0:x.st ≠ 0:=by omega
 unfold Put9
 obtain ⟨av,ak,rfl⟩:=slr_val (hold_slr h)
 obtain ⟨ta,tc,rfl⟩:=slr_val (hold_slr (hold_drop (r:=[_]) h))
 obtain ⟨ha,hc,rfl⟩:=slr_val (hold_slr (hold_drop (r:=[_,_]) h))
 have hst:=hx.st
 have hw0:U64 x.w:=hx.w
 have hts:=hx.ts
 have hgg:=hx.gg h0
 obtain ⟨st,gg,w0,ts,hs⟩:=x
 dsimp only at hst hw0 h0 hts hgg
 have hbig:=hm.big
 obtain ⟨b1,W1,hb1,hW1,q1⟩:=newN (p9L c p gg (st:Int) w0 (.slice ta ts.length tc) (.slice ha hs.length hc)) 106 h
 obtain ⟨b2,W2,hb2,hW2,q2⟩:=newN [.slice av m.cells.length ak,.int .u64 m.ops] 53 q1
 obtain ⟨b3,W3,hb3,hW3,q3⟩:=newN p9Z 106 q2
 obtain ⟨b4,W4,hb4,hW4,q4⟩:=newN [.slice none 0 0,.int .u64 0] 53 q3
 have g0:Ev.Hold ctx (H9 c p b1 b2 b3 b4 (p9L c p gg (st:Int) w0 (.slice ta ts.length tc) (.slice ha hs.length hc)) (.slice av m.cells.length ak) m.cells m.ops (.slice ta ts.length tc) (.slice ha hs.length hc) ts hs r) W4:=hsel [_,_,_,_,_] q4 [3,2,1,0,4]
 clear q1 q2 q3 q4
 have gd:=g0
 obtain ⟨Y,hY⟩ : ∃ Y,putStep c p ⟨st,gg,w0,ts,hs⟩ m=Y:=⟨_,rfl⟩
 have eg:∀ (a b:Value),p9 c p ⟨st,gg,w0,ts,hs⟩ a b=(p9L c p gg (st:Int) w0 a b).toArray:=fun _ _=>rfl
 rw [eg,hY]
 clear eg
 have x9:=blkc gd 9 _
 have x8:=blkc gd 8 _
 refine wen Tryz.func53 160 ?_
 gi_wp2
 refine wcw (rTail w0 hw0 _) ?_
 rintro e w1 ⟨rfl,rfl⟩
 clear hW1 hW2 hW3 hW4 hb1 hb2 hb3 hb4 g0 x9
 have hd:=hold_keep gd (Below.refl _ _).drew
 obtain ⟨ops',ho'⟩ : ∃ o,IntKind.u64.wrap (m.ops+1)=o:=⟨_,rfl⟩
 obtain rfl:st=4:=hk
 have z:=c.qb
 obtain ⟨hf,hhf⟩ : ∃ hf:Int,(c.q:Int) / 2=hf:=⟨_,rfl⟩
 have hfa:Aside (hf=((c.q / 2:Nat) : Int)):=by show hf=_; rw [← hhf]; omega
 have hf1:IntKind.i64.wrap hf=hf:=by have:=hfa.out; exact wrap_ok (by omega) (by omega)
 have hf2:IntKind.u32.wrap hf=hf:=by have:=hfa.out; rw [wrap32]; omega
 obtain ⟨I,hI⟩ : ∃ I,tkI c w0 ts.length=I:=⟨_,rfl⟩
 have hti:=tkI_ref c w0 ts.length
 rw [← hfa.out,hI] at hti
 have h00:0≤I:=by rw [← hI]; unfold tkI; omega
 have hln:IntKind.u32.wrap (ts.length:Int)=(ts.length:Int):=by rw [wrap32]; omega
 obtain ⟨x,hxe⟩ : ∃ x,ld m (c.slot p I)=x:=⟨_,rfl⟩
 obtain ⟨hx,-⟩:=hm.at_ (hm.lt_slot hp I)
 rw [hxe] at hx
 have x1d:=blkc gd 1 _
 gi_upto_region 21 with fail
 gi_cut [9,10] from 22 (fun s9 s10 wx=>∃ b9,s9=.pointer (some ⟨b9,0,none⟩)∧s10=.int .u64 x∧Ev.Hold ctx (m06 b9 (.slice av m.cells.length ak) ops'::H9 c p b1 b2 b3 b4 (p9L c p gg 4 w0 (.slice ta ts.length tc) (.slice ha hs.length hc)) (.slice av m.cells.length ak) m.cells m.ops (.slice ta ts.length tc) (.slice ha hs.length hc) ts hs r) wx)
 case first =>
  have hP:∀ {R:List Ev.Asr} {W:World},Ev.Hold ctx (Ev.blkA b1 (p9L c p gg 4 w0 (.slice ta ts.length tc) (.slice ha hs.length hc)) 106 :: m06 b2 (.slice av m.cells.length ak) m.ops::R) W→cpC c p b1 W∧W.cell? ⟨b2,0,none⟩=some (.slice av m.cells.length ak)∧W.cell? ⟨b2,1,none⟩=some (.int .u64 m.ops)∧W.cell? ⟨b1,10,none⟩=some (.slice ta ts.length tc):=fun hh=>⟨cpc hh,blkc (hold_up [_] hh) 0 _,blkc (hold_up [_] hh) 1 _,blkc hh 10 _⟩
  have hX:∀ {q:Ev.Asr} {R:List Ev.Asr} {W:World},Ev.Hold ctx (q::Ev.blkA b1 (p9L c p gg 4 w0 (.slice ta ts.length tc) (.slice ha hs.length hc)) 106 :: m06 b2 (.slice av m.cells.length ak) m.ops::R) W→cpC c p b1 W∧W.cell? ⟨b2,0,none⟩=some (.slice av m.cells.length ak)∧W.cell? ⟨b2,1,none⟩=some (.int .u64 m.ops)∧W.cell? ⟨b1,10,none⟩=some (.slice ta ts.length tc):=fun hh=>hP (hold_drop (r:=[_]) hh)
  have hdN:Ev.Hold ctx (m06 W4.heap.size (.slice none 0 0) 0::H9 c p b1 b2 b3 b4 (p9L c p gg 4 w0 (.slice ta ts.length tc) (.slice ha hs.length hc)) (.slice av m.cells.length ak) m.cells m.ops (.slice ta ts.length tc) (.slice ha hs.length hc) ts hs r) (W4.alloc (.cells #[(.slice none 0 0),.int .u64 0] 53)).drew:=hold_new [(.slice none 0 0),.int .u64 0] 53 hd
  have cW:=rSlot_ok c p hp I h00
  have cL:∀ {R:List Ev.Asr} {W:World},Ev.Hold ctx (uA (.slice av m.cells.length ak) m.cells::R) W→_:=fun {R W} hh=>callsIn_wide.1 (rload_in (ctx:=ctx) (r:=R) (w:=W) 0 (ops:=m.ops) hx hh)
  rw [ho'] at cL
  refine wpIn_wide.2 ?_
  go_region_held3 (fun W=>cpC c p b1 W∧W.cell? ⟨b2,0,none⟩=some (.slice av m.cells.length ak)∧W.cell? ⟨b2,1,none⟩=some (.int .u64 m.ops)∧W.cell? ⟨b1,10,none⟩=some (.slice ta ts.length tc)) ((first | exact hP hd | exact hX hdN | exact hP h1 | exact hX h1x | exact hX h1N | exact hP h2 | exact hX h2x | exact hX h2N | exact hX h4 | exact hX h4x | fail)) ((first
   | (have hcon:=cW W4.drew; (with_reducible refine hcon.mono ?_); clear hcon; rintro e w1 ⟨rfl,b1'⟩; (have h1:=hold_keep hd b1'; have h1N:=hold_new [(.slice none 0 0),.int .u64 0] 53 h1))
   | (have hcon:=cW (W4.alloc (.cells #[(.slice none 0 0),.int .u64 0] 53)).drew; (with_reducible refine hcon.mono ?_); clear hcon; rintro e w1 ⟨rfl,b1'⟩; have h1x:=hold_keep hdN b1')
   | (have hcon:=cL (hold_up [_,_,_,_] h1); (with_reducible refine hcon.mono ?_); clear hcon; rintro e w2 ⟨rfl,h2⟩; replace h2:=hold_dn [_,_,_,_] h2; have h2N:=hold_new [(.slice none 0 0),.int .u64 0] 53 h2; have h4:=hold_new [(.slice av m.cells.length ak),.int .u64 ops'] 53 h2)
   | (have hcon:=cL (hold_up [_,_,_,_,_] h1x); (with_reducible refine hcon.mono ?_); clear hcon; rintro e w2 ⟨rfl,h2⟩; have h2x:=hold_dn [_,_,_,_,_] h2; have x0:=blkc h2x 0 _; have x1:=blkc h2x 1 _; have f0:=froz_of (hold_blk h2x) 0; have f1:=froz_of (hold_blk h2x) 1; have h4x:=hold_set 1 (.int .u64 ops') (hold_set 0 (.slice av m.cells.length ak) h2x))
   | (have hcon:=cL (hold_up [_,_,_,_,_] h1N); (with_reducible refine hcon.mono ?_); clear hcon; rintro e w2 ⟨rfl,h2⟩; have h2x:=hold_dn [_,_,_,_,_] h2; have x0:=blkc h2x 0 _; have x1:=blkc h2x 1 _; have f0:=froz_of (hold_blk h2x) 0; have f1:=froz_of (hold_blk h2x) 1; have h4x:=hold_set 1 (.int .u64 ops') (hold_set 0 (.slice av m.cells.length ak) h2x))))
  all_goals
   gi_wp2
   gi_meet
   case rel=>first | exact ⟨_,rfl,rfl,h4⟩ | exact ⟨_,rfl,rfl,h4x⟩
 case rest =>
  obtain ⟨b9,rfl,rfl,g1⟩:=hcut
  clear gd hd
  have a0:=blkc g1 0 _
  have a1:=blkc g1 1 _
  replace g1:=hsel [_,_,_] g1 [1,2,0]
  have c0:=blkc (hold_up [_] g1) 0 _
  have c1:=blkc (hold_up [_] g1) 1 _
  have f0:=froz_of (hold_blk (hold_up [_] g1)) 0
  have f1:=froz_of (hold_blk (hold_up [_] g1)) 1
  have g2:=hold_dn [_] (hold_set 1 (.int .u64 ops') (hold_set 0 (.slice av m.cells.length ak) (hold_up [_] g1)))
  have g3:Ev.Hold ctx (H9 c p b1 b2 b3 b4 (p9L c p gg 4 w0 (.slice ta ts.length tc) (.slice ha hs.length hc)) (.slice av m.cells.length ak) m.cells ops' (.slice ta ts.length tc) (.slice ha hs.length hc) ts hs r) _:=hsel [_,_,_,_,_] g2 [0,1,3,4]
  obtain ⟨y,hy⟩ : ∃ y:Int,IntKind.i64.wrap x=y:=⟨_,rfl⟩
  gi_upto_region 24 with fail
  obtain ⟨V,hV,v1⟩:=hname g3
  rw [← hV]
  clear hV
  obtain ⟨a5,k5,w5,r5,v2⟩:=aapp (xs:=[]) (t := 35) rfl (by simp; omega) ((hsel [_,_,_,_,_,_] v1 [5,0,1,2,3,4]).nilSl (e := 3) (sz:=1))
  rw [List.nil_append] at r5 v2
  obtain ⟨a6,k6,w6,r6,v3⟩:=iapp1 y (by omega) v2
  have x10V:=blkc v1 10 _
  clear a0 a1 c0 c1 f0 f1 g1 g2 g3
  have v5:=hold_up [_,_] v3
  have x10:=blkc v5 10 _
  have f10:=froz_of (hold_blk v5) 10
  have v6:=hold_set 10 (.slice a6 (ts.length+1) k6) v5
  have x8:=blkc v6 8 _
  have f8:=froz_of (hold_blk v6) 8
  by_cases e:ts.length+1=c.q / 2
  ·have hb:((ts.length:Int)+1 == hf)=true:=by have:=hfa.out; simp; omega
   have v7:=hold_set 8 (.int .i64 5) v6
   have v8:Ev.Hold ctx (H9 c p b1 b2 b3 b4 (p9L c p gg 5 w0 (.slice a6 (ts.length+1) k6) (.slice ha hs.length hc)) (.slice av m.cells.length ak) m.cells ops' (.slice a6 (ts.length+1) k6) (.slice ha hs.length hc) (ts++[y]) hs r) _:=hsel [_,_,_,_,_,_,_] v7 [0,3,4,5,6,1]
   have ho:Aside (Y=(⟨5,gg,w0,ts++[y],hs⟩,⟨m.cells,ops'⟩)):=by show Y=_; rw [← hY]; simp only [putStep,ge_iff_le,hI,hxe,hy,if_pos e,MemM.tick,MemM.put,ho']
   clear e hI hti
   gi_upto_region 25 with (gi_at_builtin; refine wpListIn_append_run rfl _ _ _ rfl r5 ?_)
   gi_upto_region 26 with (gi_at_builtin; refine wpListIn_append_run rfl _ _ _ rfl r6 ?_)
   gi_upto_region 36 with fail
   refine wpIn_wide.2 (reg2 v8 (fun w' hw'=>?_) Tryz.underlying106 Tryz.underlying53 rfl rfl rfl rfl rfl rfl rfl rfl rfl rfl rfl)
   gi_wp2
   exact post_cell2 rfl rfl rfl rfl (lv_all (hold_up [_,_] hw') Tryz.underlying106 rfl (by kernel_rfl)) (lv_all (hold_up [_,_,_] hw') Tryz.underlying53 rfl (by kernel_rfl)) (by rw [ho.out]; first | exact ⟨_,_,_,rfl,hold_drop (r:=[_,_,_,_]) hw'⟩ | exact ⟨_,_,⟨_,rfl⟩,hold_drop (r:=[_,_,_,_]) hw'⟩ | exact ⟨_,⟨_,_,rfl⟩,hold_drop (r:=[_,_,_,_]) hw'⟩)
  ·have hb:((ts.length:Int)+1 == hf)=false:=by have:=hfa.out; simp; omega
   have v8:Ev.Hold ctx (H9 c p b1 b2 b3 b4 (p9L c p gg 4 w0 (.slice a6 (ts.length+1) k6) (.slice ha hs.length hc)) (.slice av m.cells.length ak) m.cells ops' (.slice a6 (ts.length+1) k6) (.slice ha hs.length hc) (ts++[y]) hs r) _:=hsel [_,_,_,_,_,_,_] v6 [0,3,4,5,6,1]
   have ho:Aside (Y=(⟨4,gg,w0,ts++[y],hs⟩,⟨m.cells,ops'⟩)):=by show Y=_; rw [← hY]; simp only [putStep,ge_iff_le,hI,hxe,hy,if_neg e,MemM.tick,MemM.put,ho']
   clear e hI hti
   gi_upto_region 25 with (gi_at_builtin; refine wpListIn_append_run rfl _ _ _ rfl r5 ?_)
   gi_upto_region 26 with (gi_at_builtin; refine wpListIn_append_run rfl _ _ _ rfl r6 ?_)
   gi_upto_region 36 with fail
   refine wpIn_wide.2 (reg2 v8 (fun w' hw'=>?_) Tryz.underlying106 Tryz.underlying53 rfl rfl rfl rfl rfl rfl rfl rfl rfl rfl rfl)
   gi_wp2
   exact post_cell2 rfl rfl rfl rfl (lv_all (hold_up [_,_] hw') Tryz.underlying106 rfl (by kernel_rfl)) (lv_all (hold_up [_,_,_] hw') Tryz.underlying53 rfl (by kernel_rfl)) (by rw [ho.out]; first | exact ⟨_,_,_,rfl,hold_drop (r:=[_,_,_,_]) hw'⟩ | exact ⟨_,_,⟨_,rfl⟩,hold_drop (r:=[_,_,_,_]) hw'⟩ | exact ⟨_,⟨_,_,rfl⟩,hold_drop (r:=[_,_,_,_]) hw'⟩)
end
end Go.Proofs.YtkmccgombmogmaaGreat
