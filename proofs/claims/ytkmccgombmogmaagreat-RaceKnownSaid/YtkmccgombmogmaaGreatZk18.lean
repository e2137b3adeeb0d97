/- Part of a proof: see the last text. -/
import Derived.Test.YtkmccgombmogmaaGreatZk14
import Derived.Test.YtkmccgombmogmaaGreatZk4
import Derived.Test.YtkmccgombmogmaaGreatZk17
import Derived.Test.YtkmccgombmogmaaGreatZk11
import Derived.Deep.RegionHeld
import Derived.Deep.MidRow
namespace Go.Proofs.YtkmccgombmogmaaGreat
open Go.RowKit
set_option linter.unusedVariables false
set_option linter.unusedSimpArgs false
set_option maxRecDepth 8000
section
variable {ctx:Ev.Ctx} {w:World} {r:List Ev.Asr} {c:Cfg} {p:Nat} {m:MemM} {rv lf:Value}
set_option maxHeartbeats 8000000 in
theorem lay9_3 (n:Nat) (hp:p < c.n) {x:LayS} (hx:LayOk x) (hk:x.st=3) (hm:MemOk c m) (h:Ev.Hold ctx (uA rv m.cells::isA lf x.ls::r) w) : Lay9 ctx r c p m rv lf x n w:=by
 have h0:x.st ≠ 0:=by omega
 unfold Lay9
 obtain ⟨av,ak,rfl⟩:=slr_val (hold_slr h)
 obtain ⟨la,lc,rfl⟩:=slr_val (hold_slr (hold_drop (r:=[_]) h))
 have hst:=hx.st
 have hw0:U64 x.w:=hx.w
 have hls:=hx.ls
 have hb:=hx.b
 have hel:=hx.el
 have htwo:=hx.two
 have hle:=hx.le
 have hne:x.ls.length ≠ 0:=fun e=>hx.ne h0 (List.eq_nil_of_length_eq_zero e)
 obtain ⟨st,w0,k,n0,ls⟩:=x
 dsimp only at hst hw0 h0 hls hb hel htwo hle hne
 have hbig:=hm.big
 have hneb:((ls.length:Int) == 0)=false:=by
  have:¬ (ls.length:Int)=0:=by omega
  simpa using this
 obtain ⟨b1,W1,hb1,hW1,q1⟩:=newN (l9L c p (st:Int) w0 (n0:Int) (k:Int) (.slice la ls.length lc)) 110 h
 obtain ⟨b2,W2,hb2,hW2,q2⟩:=newN [.slice av m.cells.length ak,.int .u64 m.ops] 53 q1
 obtain ⟨b3,W3,hb3,hW3,q3⟩:=newN l9Z 110 q2
 obtain ⟨b4,W4,hb4,hW4,q4⟩:=newN [.slice none 0 0,.int .u64 0] 53 q3
 have gd:Ev.Hold ctx (HL c p b1 b2 b3 b4 (l9L c p (st:Int) w0 (n0:Int) (k:Int) (.slice la ls.length lc)) (.slice av m.cells.length ak) m.cells m.ops (.slice la ls.length lc) ls r) W4:=hsel [_,_,_,_,_] q4 [3,2,1,0,4]
 clear q1 q2 q3 q4
 obtain ⟨Y,hY⟩ : ∃ Y,layStep c p ⟨st,w0,k,n0,ls⟩ m=Y:=⟨_,rfl⟩
 have eg:l9 c p ⟨st,w0,k,n0,ls⟩ (.slice la ls.length lc)=(l9L c p (st:Int) w0 (n0:Int) (k:Int) (.slice la ls.length lc)).toArray:=rfl
 rw [eg,hY]
 clear eg
 have x7:=blkc gd 7 _
 have x8:=blkc gd 8 _
 refine wen Tryz.func111 129 ?_
 gi_upto_region 1 with fail
 clear hW1 hW2 hW3 hW4 hb1 hb2 hb3 hb4
 have hd:=hold_keep gd (Below.refl _ _).drew
 obtain ⟨ops',ho'⟩ : ∃ o,IntKind.u64.wrap (m.ops+1)=o:=⟨_,rfl⟩
 obtain rfl:st=3:=hk
 have k2:n0≤ls.length:=hle (.inr rfl)
 have u2:IntKind.u32.wrap (n0:Int)=(n0:Int):=by rw [wrap32]; omega
 have u3:IntKind.u32.wrap (tlW w0+(n0:Int))=(tlW w0+(n0:Int)) % 4294967296:=wrap32 _
 obtain ⟨hx,-⟩:=hm.at_ (hm.lt_word hp)
 obtain ⟨x,hxe⟩ : ∃ x,ld m (c.word p)=x:=⟨_,rfl⟩
 rw [hxe] at hx
 obtain ⟨z,hz'⟩ : ∃ z,decide (x=w0)=z:=⟨_,rfl⟩
 obtain ⟨mv,hmv⟩ : ∃ mv,mvW w0 (n0:Int)=mv:=⟨_,rfl⟩
 obtain ⟨CS,hCS⟩ : ∃ CS,(if x=w0 then m.cells.set (c.word p) mv else m.cells)=CS:=⟨_,rfl⟩
 gi_upto_region 23 with fail
 clear x7 x8
 gi_cut [6] from 24 (fun s6 wx=>∃ a2 k2,s6=.bool z∧Ev.Hold ctx (HL c p b1 b2 b3 b4 (l9L c p 3 w0 (n0:Int) (k:Int) (.slice la ls.length lc)) (.slice a2 CS.length k2) CS ops' (.slice la ls.length lc) ls r) wx)
 case first =>
  have cL:∀ {R:List Ev.Asr} {W:World},Ev.Hold ctx (uA (.slice av m.cells.length ak) m.cells::R) W→Calls Tryz.prog 85 #[.agg #[(.slice av m.cells.length ak),.int .u64 m.ops],.int .i64 ((c.word p:Nat) : Int),.int .u64 w0,.int .u64 mv] W fun e w'=>∃ a2 k2,e=.returned (.tuple #[.agg #[(.slice a2 CS.length k2),.int .u64 ops'],.bool z])∧Ev.Hold ctx (uA (.slice a2 CS.length k2) CS::R) w':=fun {R W} hh=>by
   refine (callsIn_wide.1 (rcas_in 0 (ops:=m.ops) (by omega) hx w0 mv hh)).mono ?_
   rintro e w' ⟨al,rfl,h1⟩
   rw [hz',ho']
   rw [hCS] at h1
   obtain ⟨a2,k2,rfl⟩:=slr_val (hold_slr h1)
   exact ⟨a2,k2,rfl,h1⟩
  have cP:=fun W=>rPack (hdW w0) ((tlW w0+(n0:Int)) % 4294967296) (hdW_bd hw0) (by omega) W
  rw [show packW (hdW w0) ((tlW w0+(n0:Int)) % 4294967296)=mv from hmv] at cP
  clear hCS hmv
  have y0:=blkc (hold_up [_] hd) 0 _
  have y1:=blkc (hold_up [_] hd) 1 _
  refine wpIn_wide.2 ?_
  refine wp_region_noPanic ?_
  refine wp_region_B (fun W=>cpC c p b1 W∧W.cell? ⟨b2,0,none⟩=some (.slice av m.cells.length ak)∧W.cell? ⟨b2,1,none⟩=some (.int .u64 m.ops)∧W.cell? ⟨b1,9,none⟩=some (.int .u64 w0)∧W.cell? ⟨b1,10,none⟩=some (.int .i64 (n0:Int))) 23 (by kernel_rfl) ?_ (fun hHeld=>?_)
  ·(try dsimp only); (first | exact ⟨cpc hd,blkc (hold_up [_] hd) 0 _,blkc (hold_up [_] hd) 1 _,blkc hd 9 _,blkc hd 10 _⟩ | exact ⟨cpc h1,blkc (hold_up [_] h1) 0 _,blkc (hold_up [_] h1) 1 _,blkc h1 9 _,blkc h1 10 _⟩ | exact ⟨cpc h2,blkc (hold_up [_] h2) 0 _,blkc (hold_up [_] h2) 1 _,blkc h2 9 _,blkc h2 10 _⟩)
  refine takeB (i:=0) (v:=?_) (Or.inl ⟨by kernel_rfl,?_⟩) (by assumption) ?_
  rotate_left
  ·intro w hSw; (try dsimp only at hSw); go_simp; try with_reducible rfl
  try simp only [Act.put,List.setIfInBounds_toArray,List.set_cons_zero,List.set_cons_succ]
  refine takeB0 (i:=1) (v:=?_) (Or.inl ⟨by kernel_rfl,?_⟩) (by assumption) ?_
  rotate_left
  ·intro w _; go_simp; try with_reducible rfl
  try simp only [Act.put,List.setIfInBounds_toArray,List.set_cons_zero,List.set_cons_succ]
  refine takeB (i:=2) (v:=?_) (Or.inl ⟨by kernel_rfl,?_⟩) (by assumption) ?_
  rotate_left
  ·intro w hSw; (try dsimp only at hSw); go_simp; try with_reducible rfl
  try simp only [Act.put,List.setIfInBounds_toArray,List.set_cons_zero,List.set_cons_succ]
  refine takeB0 (i:=3) (v:=?_) (Or.inl ⟨by kernel_rfl,?_⟩) (by assumption) ?_
  rotate_left
  ·intro w _; go_simp; try with_reducible rfl
  try simp only [Act.put,List.setIfInBounds_toArray,List.set_cons_zero,List.set_cons_succ]
  refine takeB (i:=4) (v:=?_) (Or.inl ⟨by kernel_rfl,?_⟩) (by assumption) ?_
  rotate_left
  ·intro w hSw; (try dsimp only at hSw); go_simp; try with_reducible rfl
  try simp only [Act.put,List.setIfInBounds_toArray,List.set_cons_zero,List.set_cons_succ]
  refine takeB0 (i:=6) (v:=?_) (Or.inl ⟨by kernel_rfl,?_⟩) (by assumption) ?_
  rotate_left
  ·intro w _; go_simp; try with_reducible rfl
  try simp only [Act.put,List.setIfInBounds_toArray,List.set_cons_zero,List.set_cons_succ]
  refine takeB (i:=7) (v:=?_) (Or.inl ⟨by kernel_rfl,?_⟩) (by assumption) ?_
  rotate_left
  ·intro w hSw; (try dsimp only at hSw); go_simp; try with_reducible rfl
  try simp only [Act.put,List.setIfInBounds_toArray,List.set_cons_zero,List.set_cons_succ]
  refine takeB0 (i:=8) (v:=?_) (Or.inl ⟨by kernel_rfl,?_⟩) (by assumption) ?_
  rotate_left
  ·intro w _; go_simp; try with_reducible rfl
  try simp only [Act.put,List.setIfInBounds_toArray,List.set_cons_zero,List.set_cons_succ]
  refine takeB (i:=9) (v:=?_) (Or.inl ⟨by kernel_rfl,?_⟩) (by assumption) ?_
  rotate_left
  ·intro w hSw; (try dsimp only at hSw); go_simp; try with_reducible rfl
  try simp only [Act.put,List.setIfInBounds_toArray,List.set_cons_zero,List.set_cons_succ]
  refine takeB0 (i:=11) (v:=?_) (Or.inl ⟨by kernel_rfl,?_⟩) (by assumption) ?_
  rotate_left
  ·intro w _; go_simp; try with_reducible rfl
  try simp only [Act.put,List.setIfInBounds_toArray,List.set_cons_zero,List.set_cons_succ]
  refine takeB (i:=12) (v:=?_) (Or.inl ⟨by kernel_rfl,?_⟩) (by assumption) ?_
  rotate_left
  ·intro w hSw; (try dsimp only at hSw); go_simp; try with_reducible rfl
  try simp only [Act.put,List.setIfInBounds_toArray,List.set_cons_zero,List.set_cons_succ]
  refine takeB0 (i:=14) (v:=?_) (Or.inl ⟨by kernel_rfl,?_⟩) (by assumption) ?_
  rotate_left
  ·intro w _; go_simp; try with_reducible rfl
  try simp only [Act.put,List.setIfInBounds_toArray,List.set_cons_zero,List.set_cons_succ]
  refine takeB (i:=15) (v:=?_) (Or.inl ⟨by kernel_rfl,?_⟩) (by assumption) ?_
  rotate_left
  ·intro w hSw; (try dsimp only at hSw); go_simp; try with_reducible rfl
  try simp only [Act.put,List.setIfInBounds_toArray,List.set_cons_zero,List.set_cons_succ]
  refine takeB0 (i:=16) (v:=?_) (Or.inl ⟨by kernel_rfl,?_⟩) (by assumption) ?_
  rotate_left
  ·intro w _; go_simp; try with_reducible rfl
  try simp only [Act.put,List.setIfInBounds_toArray,List.set_cons_zero,List.set_cons_succ]
  refine nextB (i:=5) (ho:=rfl) (fun K hK=>?_)
  go_simp
  (have hcon:=rWord_ok c p hp W4.drew; (with_reducible refine hcon.mono ?_); clear hcon; rintro e w1 ⟨rfl,b1'⟩; have h1:=hold_keep hd b1'; have z0:=blkc (hold_up [_] h1) 0 _; have z1:=blkc (hold_up [_] h1) 1 _)
  first | refine hK.out _ _ ?_ (fun hHeld=>?_) | (go_wp2_with fail; refine hK.out _ _ ?_ (fun hHeld=>?_))
  ·(try dsimp only); (first | exact ⟨cpc hd,blkc (hold_up [_] hd) 0 _,blkc (hold_up [_] hd) 1 _,blkc hd 9 _,blkc hd 10 _⟩ | exact ⟨cpc h1,blkc (hold_up [_] h1) 0 _,blkc (hold_up [_] h1) 1 _,blkc h1 9 _,blkc h1 10 _⟩ | exact ⟨cpc h2,blkc (hold_up [_] h2) 0 _,blkc (hold_up [_] h2) 1 _,blkc h2 9 _,blkc h2 10 _⟩)
  clear hK K
  try simp only [Act.put,List.setIfInBounds_toArray,List.set_cons_zero,List.set_cons_succ]
  refine nextB (i:=10) (ho:=rfl) (fun K hK=>?_)
  go_simp
  (have hcon:=rHead w0 hw0 w1; (with_reducible refine hcon.mono ?_); clear hcon; rintro e w1' ⟨rfl,hw1⟩; subst hw1)
  first | refine hK.out _ _ ?_ (fun hHeld=>?_) | (go_wp2_with fail; refine hK.out _ _ ?_ (fun hHeld=>?_))
  ·(try dsimp only); (first | exact ⟨cpc hd,blkc (hold_up [_] hd) 0 _,blkc (hold_up [_] hd) 1 _,blkc hd 9 _,blkc hd 10 _⟩ | exact ⟨cpc h1,blkc (hold_up [_] h1) 0 _,blkc (hold_up [_] h1) 1 _,blkc h1 9 _,blkc h1 10 _⟩ | exact ⟨cpc h2,blkc (hold_up [_] h2) 0 _,blkc (hold_up [_] h2) 1 _,blkc h2 9 _,blkc h2 10 _⟩)
  clear hK K
  try simp only [Act.put,List.setIfInBounds_toArray,List.set_cons_zero,List.set_cons_succ]
  refine nextB (i:=13) (ho:=rfl) (fun K hK=>?_)
  go_simp
  (have hcon:=rTail w0 hw0 w1; (with_reducible refine hcon.mono ?_); clear hcon; rintro e w1' ⟨rfl,hw1⟩; subst hw1)
  first | refine hK.out _ _ ?_ (fun hHeld=>?_) | (go_wp2_with fail; refine hK.out _ _ ?_ (fun hHeld=>?_))
  ·(try dsimp only); (first | exact ⟨cpc hd,blkc (hold_up [_] hd) 0 _,blkc (hold_up [_] hd) 1 _,blkc hd 9 _,blkc hd 10 _⟩ | exact ⟨cpc h1,blkc (hold_up [_] h1) 0 _,blkc (hold_up [_] h1) 1 _,blkc h1 9 _,blkc h1 10 _⟩ | exact ⟨cpc h2,blkc (hold_up [_] h2) 0 _,blkc (hold_up [_] h2) 1 _,blkc h2 9 _,blkc h2 10 _⟩)
  clear hK K
  try simp only [Act.put,List.setIfInBounds_toArray,List.set_cons_zero,List.set_cons_succ]
  refine takeB0 (i:=17) (v:=?_) (Or.inl ⟨by kernel_rfl,?_⟩) (by assumption) ?_
  rotate_left
  ·intro w _; go_simp; try with_reducible rfl
  try simp only [Act.put,List.setIfInBounds_toArray,List.set_cons_zero,List.set_cons_succ]
  refine nextB (i:=18) (ho:=rfl) (fun K hK=>?_)
  go_simp
  (have hcon:=cP w1; (with_reducible refine hcon.mono ?_); clear hcon; rintro e w1' ⟨rfl,hw1⟩; subst hw1)
  first | refine hK.out _ _ ?_ (fun hHeld=>?_) | (go_wp2_with fail; refine hK.out _ _ ?_ (fun hHeld=>?_))
  ·(try dsimp only); (first | exact ⟨cpc hd,blkc (hold_up [_] hd) 0 _,blkc (hold_up [_] hd) 1 _,blkc hd 9 _,blkc hd 10 _⟩ | exact ⟨cpc h1,blkc (hold_up [_] h1) 0 _,blkc (hold_up [_] h1) 1 _,blkc h1 9 _,blkc h1 10 _⟩ | exact ⟨cpc h2,blkc (hold_up [_] h2) 0 _,blkc (hold_up [_] h2) 1 _,blkc h2 9 _,blkc h2 10 _⟩)
  clear hK K
  try simp only [Act.put,List.setIfInBounds_toArray,List.set_cons_zero,List.set_cons_succ]
  refine nextB (i:=19) (ho:=rfl) (fun K hK=>?_)
  go_simp
  (have hcon:=cL (hold_up [_,_,_,_] h1); (with_reducible refine hcon.mono ?_); clear hcon; rintro e w2 ⟨a2,k2,rfl,h2⟩; replace h2:=hold_dn [_,_,_,_] h2; have x20:=blkc (hold_up [_] h2) 0 _; have x21:=blkc (hold_up [_] h2) 1 _; have f20:=froz_of (hold_blk (hold_up [_] h2)) 0; have f21:=froz_of (hold_blk (hold_up [_] h2)) 1; have h3:=hold_dn [_] (hold_set 1 (.int .u64 ops') (hold_set 0 (.slice a2 CS.length k2) (hold_up [_] h2))))
  first | refine hK.out _ _ ?_ (fun hHeld=>?_) | (go_wp2_with fail; refine hK.out _ _ ?_ (fun hHeld=>?_))
  ·(try dsimp only); (first | exact ⟨cpc hd,blkc (hold_up [_] hd) 0 _,blkc (hold_up [_] hd) 1 _,blkc hd 9 _,blkc hd 10 _⟩ | exact ⟨cpc h1,blkc (hold_up [_] h1) 0 _,blkc (hold_up [_] h1) 1 _,blkc h1 9 _,blkc h1 10 _⟩ | exact ⟨cpc h2,blkc (hold_up [_] h2) 0 _,blkc (hold_up [_] h2) 1 _,blkc h2 9 _,blkc h2 10 _⟩)
  clear hK K
  try simp only [Act.put,List.setIfInBounds_toArray,List.set_cons_zero,List.set_cons_succ]
  refine takeB0 (i:=20) (v:=?_) (Or.inl ⟨by kernel_rfl,?_⟩) (by assumption) ?_
  rotate_left
  ·intro w _; go_simp; try with_reducible rfl
  try simp only [Act.put,List.setIfInBounds_toArray,List.set_cons_zero,List.set_cons_succ]
  refine takeB0 (i:=21) (v:=?_) (Or.inl ⟨by kernel_rfl,?_⟩) (by assumption) ?_
  rotate_left
  ·intro w _; go_simp; try with_reducible rfl
  try simp only [Act.put,List.setIfInBounds_toArray,List.set_cons_zero,List.set_cons_succ]
  refine takeB0 (i:=22) (v:=?_) (Or.inl ⟨by kernel_rfl,?_⟩) (by assumption) ?_
  rotate_left
  ·intro w _; go_simp; try with_reducible rfl
  try simp only [Act.put,List.setIfInBounds_toArray,List.set_cons_zero,List.set_cons_succ]
  refine lastB (i:=23) (ho:=rfl) (fun K hK=>?_)
  go_simp
  refine hK.out _ _ ?_
  clear hK K
  try simp only [Act.put,List.setIfInBounds_toArray,List.set_cons_zero,List.set_cons_succ]
  refine lastB (i:=24) (ho:=rfl) (fun K hK=>?_)
  go_simp
  refine hK.out _ _ ?_
  clear hK K
  try simp only [Act.put,List.setIfInBounds_toArray,List.set_cons_zero,List.set_cons_succ]
  refine (doneB (h:=?_) (hr:=by kernel_rfl)) _
  refine NoPanic.normal ?_
  all_goals
   gi_wp2
   gi_meet
   case rel=>exact ⟨_,_,rfl,h3⟩
 case rest =>
  obtain ⟨a2,k2',rfl,g1⟩:=hcut
  clear hd gd
  have x8:=blkc g1 8 _
  have f8:=froz_of (hold_blk g1) 8
  have g2:=hold_set 8 (.int .i64 1) g1
  by_cases he:x=w0
  ·obtain rfl:true=z:=by rw [← hz']; simp [he]
   have y8:=blkc g2 8 _
   have i8:=froz_of (hold_blk g2) 8
   have g3:=hold_set 8 (.int .i64 0) g2
   obtain ⟨i0,hi,hz1,hz0,hz2⟩:=infInt
   have hsl:=hold_slr (hold_drop (r:=[_,_,_,_,_]) g3)
   have hcutN:∀ W,(Instr.sliceAt 35 (.slice la ls.length lc) (some (.int .i64 (n0:Int))) none none).run Tryz.prog W=.ok (Ev.cutV 1 (.slice la ls.length lc) n0 ls.length) W:=fun W=>Ev.cut_runLo hsl Tryz.underlying35 hi hz1 k2 W
   have g4:=(hold_up [_,_,_,_,_] g3).cutLo (lo:=n0) k2
   rw [show Ev.slA 3 1 (Ev.cutV 1 (.slice la ls.length lc) n0 ls.length) (ls.length - n0) ((ints ls).drop (n0 * 1))=isA (Ev.cutV 1 (.slice la ls.length lc) n0 ls.length) (ls.drop n0) by unfold isA; rw [Nat.mul_one,ints_drop,List.length_drop]] at g4
   obtain ⟨a3,k3,e3⟩:=slr_val (hold_slr g4)
   rw [e3] at g4
   simp only [e3] at hcutN
   have ho:Aside (Y=(⟨0,w0,k,n0,ls.drop n0⟩,⟨CS,ops'⟩)):=by show Y=_; rw [← hY,← hCS]; simp only [layStep,hxe,if_pos he,MemM.put,ho',hmv]
   obtain ⟨NN,hN⟩ : ∃ N,(ls.drop n0).length=N:=⟨_,rfl⟩
   rw [hN] at hcutN g4
   have g5:=hold_up [_] g4
   have x7:=blkc g5 7 _
   have x10:=blkc g5 10 _
   have f7:=froz_of (hold_blk g5) 7
   have g6:=hold_set 7 (.slice a3 NN k3) g5
   have g7:Ev.Hold ctx (HL c p b1 b2 b3 b4 (l9L c p 0 w0 (n0:Int) (k:Int) (.slice a3 NN k3)) (.slice a2 CS.length k2') CS ops' (.slice a3 NN k3) (ls.drop n0) r) _:=hsel [_,_,_,_,_,_] g6 [0,2,3,4,5,1]
   clear hCS hz' hN e3 hsl hmv
   gi_upto_region 28 with fail
   refine wpIn_wide.2 (reg2 g7 (fun w' hw'=>?_) Tryz.underlying110 Tryz.underlying53 rfl rfl rfl rfl rfl rfl rfl rfl rfl rfl rfl)
   gi_wp2
   exact post_cell2 rfl rfl rfl rfl (lv_all (hold_up [_,_] hw') Tryz.underlying110 rfl (by kernel_rfl)) (lv_all (hold_up [_,_,_] hw') Tryz.underlying53 rfl (by kernel_rfl)) (by rw [ho.out]; first | exact ⟨_,_,rfl,hold_drop (r:=[_,_,_,_]) hw'⟩ | exact ⟨_,⟨_,rfl⟩,hold_drop (r:=[_,_,_,_]) hw'⟩)
  ·obtain rfl:false=z:=by rw [← hz']; simp [he]
   have g5:Ev.Hold ctx (HL c p b1 b2 b3 b4 (l9L c p 1 w0 (n0:Int) (k:Int) (.slice la ls.length lc)) (.slice a2 CS.length k2') CS ops' (.slice la ls.length lc) ls r) _:=g2
   have ho:Aside (Y=(⟨1,w0,k,n0,ls⟩,⟨CS,ops'⟩)):=by show Y=_; rw [← hY,← hCS]; simp only [layStep,hxe,if_neg he,MemM.tick,ho']
   clear hCS hz' hmv
   gi_upto_region 28 with fail
   refine wpIn_wide.2 (reg2 g5 (fun w' hw'=>?_) Tryz.underlying110 Tryz.underlying53 rfl rfl rfl rfl rfl rfl rfl rfl rfl rfl rfl)
   gi_wp2
   exact post_cell2 rfl rfl rfl rfl (lv_all (hold_up [_,_] hw') Tryz.underlying110 rfl (by kernel_rfl)) (lv_all (hold_up [_,_,_] hw') Tryz.underlying53 rfl (by kernel_rfl)) (by rw [ho.out]; first | exact ⟨_,_,rfl,hold_drop (r:=[_,_,_,_]) hw'⟩ | exact ⟨_,⟨_,rfl⟩,hold_drop (r:=[_,_,_,_]) hw'⟩)
end
end Go.Proofs.YtkmccgombmogmaaGreat
namespace Go.Proofs.YtkmccgombmogmaaGreat
open Go.RowKit
set_option linter.unusedVariables false
set_option linter.unusedSimpArgs false
set_option maxRecDepth 8000
section
variable {ctx:Ev.Ctx} {w:World} {r:List Ev.Asr} {c:Cfg} {p:Nat} {m:MemM} {rv lf:Value}
theorem lay9H (n:Nat) (hp:p < c.n) {x:LayS} (hx:LayOk x) (h0:x.st ≠ 0) (hm:MemOk c m) (h:Ev.Hold ctx (uA rv m.cells::isA lf x.ls::r) w) : Lay9 ctx r c p m rv lf x n w:=by
 have hst:=hx.st
 have hs:x.st=1∨x.st=2∨x.st=3:=by omega
 rcases hs with hk | hk | hk
 ·exact lay9_1 n hp hx hk hm h
 ·exact lay9_2 n hp hx hk hm h
 ·exact lay9_3 n hp hx hk hm h
end
end Go.Proofs.YtkmccgombmogmaaGreat
namespace Go.Proofs.YtkmccgombmogmaaGreat
open Go.RowKit
set_option linter.unusedVariables false
set_option linter.unusedSimpArgs false
set_option maxRecDepth 8000
abbrev sL (c:Cfg) (p v:Nat) (st w0:Int) (bt:Value) (mn:Int) (LY:List Value) : List Value:=cpL c p ([.int .i64 (v:Int),.int .i64 st,.int .u64 w0,bt,.int .i64 mn]++LY)
abbrev lay0:List Value:=l9Z
def s11 (c:Cfg) (p v:Nat) (u:StealS) (bt ll:Value) : Array Value:=(sL c p v (u.st:Int) u.w bt (u.many:Int) (match u.ly with | none=>lay0 | some l=>(l9 c p l ll).toList)).toArray
def s11L (u:StealS) (bt ll:Value) : List Ev.Asr:=isA bt u.bt::(match u.ly with | none=>[] | some l=>[isA ll l.ls])
abbrev s11Z:List Value:=[.int .i64 0,.int .i64 0,.int .i64 0,.int .i64 0,.int .i64 0,.int .i64 0,.int .i64 0,.int .i64 0,.int .i64 0,.int .u64 0,.slice none 0 0,.int .i64 0,.int .i64 0,.int .i64 0,.int .i64 0,.int .i64 0,.int .i64 0,.int .i64 0,.int .i64 0,.slice none 0 0,.int .i64 0,.int .u64 0,.int .i64 0,.int .i64 0]
abbrev cA (rv:Value) (m:MemM) : Ev.Asr:=uA rv m.cells
section
variable {ctx:Ev.Ctx} {w:World} {r:List Ev.Asr} {c:Cfg} {p v:Nat} {m:MemM} {rv bt ll:Value}
abbrev HS (c:Cfg) (p b1 b2 b3 b4:Nat) (L:List Value) (rv:Value) (cs:List Int) (ops:Int) (bt:Value) (bs:List Int) (r:List Ev.Asr) : List Ev.Asr:=Ev.blkA b1 L 112 :: m06 b2 rv ops::Ev.blkA b3 s11Z 112 :: m06 b4 (.slice none 0 0) 0::uA rv cs::isA bt bs::r
theorem rng_pre {b:Nat} {pre post:List Value} {T:TypeId} (h:Ev.Hold ctx (Ev.blkA b (pre++post) T::r) w) : w.rangeAt b 0 pre:=fun j v hj=>by
 rw [Nat.zero_add]
 exact cell_of (hold_blk h) j v (by rw [List.getElem?_toArray,List.getElem?_append_left (List.getElem?_eq_some_iff.1 hj).1]; exact hj)
theorem rng_cut {b o:Nat} {pre post:List Value} (h:w.rangeAt b o (pre++post)) : w.rangeAt b o pre:=fun j v hj=>h j v (by rw [List.getElem?_append_left (List.getElem?_eq_some_iff.1 hj).1]; exact hj)
abbrev Steal11 (ctx:Ev.Ctx) (r:List Ev.Asr) (c:Cfg) (p v:Nat) (m:MemM) (rv bt ll:Value) (x:StealS) (n:Nat) (w:World) : Prop :=
 CallsIn Fence.wide n Tryz.prog 88 #[.agg (s11 c p v x bt ll),.agg #[rv,.int .u64 m.ops]] w fun e w'=>∃ rv' bt' ll',Ev.leafV ll'=true∧e=.returned (.tuple #[.agg (s11 c p v (stealStep c p v x m).1 bt' ll'),.agg #[rv',.int .u64 (stealStep c p v x m).2.ops]])∧Ev.Hold ctx (cA rv' (stealStep c p v x m).2::(s11L (stealStep c p v x m).1 bt' ll'++r)) w'
end
end Go.Proofs.YtkmccgombmogmaaGreat
namespace Go.Proofs.YtkmccgombmogmaaGreat
open Go.RowKit
set_option linter.unusedVariables false
set_option linter.unusedSimpArgs false
set_option maxRecDepth 8000
section
variable {ctx:Ev.Ctx} {w:World} {r:List Ev.Asr} {c:Cfg} {p v:Nat} {m:MemM} {rv bt ll:Value}
set_option maxHeartbeats 8000000 in
theorem steal11_1 (n:Nat) (hp:p < c.n) (hv:v < c.n) {x:StealS} (hx:StealOk x) (hk:x.st=1) (hm:MemOk c m) (hz:szW (ld m (c.word v))≤(c.q:Int)) (hb:x.bt.length≤64) (h3:x.st=3→(x.bt.length:Int)=oldN (szW x.w)) (lll:Ev.leafV ll=true) (h:Ev.Hold ctx (cA rv m::(s11L x bt ll++r)) w) : Steal11 ctx r c p v m rv bt ll x n w:=by
 unfold Steal11
 have hbg:=hm.big
 have hno:=hx.no
 have hone:=hx.one
 have htwo:=hx.two
 have hthree:=hx.three
 have hfour:=hx.four
 have hgs:=hx.gs
 have hw0:U64 x.w:=hx.w
 clear hx
 obtain ⟨st,w0,bs,ly⟩:=x
 dsimp only at hno hone htwo hthree hfour hw0 hb h3 hgs hk
 obtain rfl:st=1:=hk
 obtain rfl:=hno (by omega)
 clear hone htwo hthree hfour h3
 replace h:Ev.Hold ctx (uA rv m.cells::isA bt bs::r) w:=h
 obtain ⟨av,ak,rfl⟩:=slr_val (hold_slr h)
 obtain ⟨ba,bc,rfl⟩:=slr_val (hold_slr (hold_drop (r:=[_]) h))
 obtain ⟨b1,W1,hb1,hW1,q1⟩:=newN (sL c p v 1 w0 (.slice ba bs.length bc) 0 l9Z) 112 h
 obtain ⟨b2,W2,hb2,hW2,q2⟩:=newN [.slice av m.cells.length ak,.int .u64 m.ops] 53 q1
 obtain ⟨b3,W3,hb3,hW3,q3⟩:=newN s11Z 112 q2
 obtain ⟨b4,W4,hb4,hW4,q4⟩:=newN [.slice none 0 0,.int .u64 0] 53 q3
 have gd:Ev.Hold ctx (HS c p b1 b2 b3 b4 (sL c p v 1 w0 (.slice ba bs.length bc) 0 l9Z) (.slice av m.cells.length ak) m.cells m.ops (.slice ba bs.length bc) bs r) W4:=hsel [_,_,_,_,_] q4 [3,2,1,0,4]
 clear q1 q2 q3 q4
 obtain ⟨Y,hY⟩ : ∃ Y,stealStep c p v ⟨1,w0,bs,none⟩ m=Y:=⟨_,rfl⟩
 have eg:s11 c p v ⟨1,w0,bs,none⟩ (.slice ba bs.length bc) ll=(sL c p v 1 w0 (.slice ba bs.length bc) 0 l9Z).toArray:=rfl
 rw [eg,hY]
 clear eg
 have x9:=blkc gd 9 _
 have hkb:=szW_bd w0
 have u1:IntKind.u32.wrap (szW w0 / 2)=szW w0 / 2:=by rw [wrap32]; omega
 obtain ⟨kk,hkk⟩ : ∃ kk,oldN (szW w0)=kk:=⟨_,rfl⟩
 have u2:IntKind.u32.wrap (szW w0 - szW w0 / 2)=kk:=by rw [← hkk,wrap32]; unfold oldN; omega
 refine wen Tryz.func88 149 ?_
 gi_wp2
 refine wcw (rSize w0 hw0 _) ?_
 rintro e w1 ⟨rfl,rfl⟩
 clear hW1 hW2 hW3 hW4 hb1 hb2 hb3 hb4
 gi_upto_region 3 with fail
 have hd0:=hold_keep gd (Below.refl _ _).drew
 refine wpIn_wide.2 ?_
 go_region_held3 (fun W=>W.cell? ⟨b1,9,none⟩=some (.int .u64 w0)) (exact blkc hd0 9 _) ((first
  | (have hcon:=rHead w0 hw0 W4.drew; (with_reducible refine hcon.mono ?_); clear hcon; rintro e w1 ⟨rfl,rfl⟩)
  | (have hcon:=rTail w0 hw0 W4.drew; (with_reducible refine hcon.mono ?_); clear hcon; rintro e w1 ⟨rfl,rfl⟩)))
 obtain ⟨W5,hW5,g0⟩:=hname hd0
 rw [← hW5]
 clear hW5 gd hd0 x9
 have gd:=g0
 clear g0
 have hd:=hold_keep gd (Below.refl _ _).drew
 have x8:=blkc gd 8 _
 have hq:=c.qb
 obtain ⟨ops',ho'⟩ : ∃ o,IntKind.u64.wrap (m.ops+1)=o:=⟨_,rfl⟩
 obtain ⟨x,hxe⟩ : ∃ x,ld m (c.word v)=x:=⟨_,rfl⟩
 obtain ⟨hx,-⟩:=hm.at_ (hm.lt_word hv)
 have hu:=(hm.get (hm.lt_word hv)).2
 rw [hxe] at hx hu hz
 have hq1:IntKind.u32.wrap (c.q:Int)=(c.q:Int):=by rw [wrap32]; omega
 gi_upto_region 6 with fail
 gi_cut [] from 7 (fun wx=>Ev.Hold ctx (HS c p b1 b2 b3 b4 (sL c p v 1 x (.slice ba bs.length bc) 0 l9Z) (.slice av m.cells.length ak) m.cells ops' (.slice ba bs.length bc) bs r) wx)
 case first =>
  have cL:∀ {R:List Ev.Asr} {W:World},Ev.Hold ctx (uA (.slice av m.cells.length ak) m.cells::R) W→_:=fun {R W} hh=>callsIn_wide.1 (rload_in (ctx:=ctx) (r:=R) (w:=W) 0 (ops:=m.ops) hx hh)
  rw [ho'] at cL
  have y0:=blkc (hold_up [_] hd) 0 _
  have y1:=blkc (hold_up [_] hd) 1 _
  refine wpIn_wide.2 ?_
  refine wp_region_noPanic ?_
  refine wp_region_B (fun W=>cpC c p b1 W∧W.cell? ⟨b2,0,none⟩=some (.slice av m.cells.length ak)∧W.cell? ⟨b2,1,none⟩=some (.int .u64 m.ops)∧W.cell? ⟨b1,7,none⟩=some (.int .i64 (v:Int))) 10 (by kernel_rfl) ?_ (fun hHeld=>?_)
  ·(try dsimp only); (first | exact ⟨cpc hd,blkc (hold_up [_] hd) 0 _,blkc (hold_up [_] hd) 1 _,blkc hd 7 _⟩ | exact ⟨cpc h1,blkc (hold_up [_] h1) 0 _,blkc (hold_up [_] h1) 1 _,blkc h1 7 _⟩ | exact ⟨cpc h2,blkc (hold_up [_] h2) 0 _,blkc (hold_up [_] h2) 1 _,blkc h2 7 _⟩)
  refine takeB (i:=0) (v:=?_) (Or.inl ⟨by kernel_rfl,?_⟩) (by assumption) ?_
  rotate_left
  ·intro w hSw; (try dsimp only at hSw); go_simp; try with_reducible rfl
  try simp only [Act.put,List.setIfInBounds_toArray,List.set_cons_zero,List.set_cons_succ]
  refine takeB0 (i:=1) (v:=?_) (Or.inl ⟨by kernel_rfl,?_⟩) (by assumption) ?_
  rotate_left
  ·intro w _; go_simp; try with_reducible rfl
  try simp only [Act.put,List.setIfInBounds_toArray,List.set_cons_zero,List.set_cons_succ]
  refine takeB (i:=2) (v:=?_) (Or.inl ⟨by kernel_rfl,?_⟩) (by assumption) ?_
  rotate_left
  ·intro w hSw; (try dsimp only at hSw); go_simp; try with_reducible rfl
  try simp only [Act.put,List.setIfInBounds_toArray,List.set_cons_zero,List.set_cons_succ]
  refine takeB0 (i:=3) (v:=?_) (Or.inl ⟨by kernel_rfl,?_⟩) (by assumption) ?_
  rotate_left
  ·intro w _; go_simp; try with_reducible rfl
  try simp only [Act.put,List.setIfInBounds_toArray,List.set_cons_zero,List.set_cons_succ]
  refine takeB (i:=4) (v:=?_) (Or.inl ⟨by kernel_rfl,?_⟩) (by assumption) ?_
  rotate_left
  ·intro w hSw; (try dsimp only at hSw); go_simp; try with_reducible rfl
  try simp only [Act.put,List.setIfInBounds_toArray,List.set_cons_zero,List.set_cons_succ]
  refine nextB (i:=5) (ho:=rfl) (fun K hK=>?_)
  go_simp
  (have hcon:=rWord_ok c v hv W5.drew; (with_reducible refine hcon.mono ?_); clear hcon; rintro e w1 ⟨rfl,b1'⟩; have h1:=hold_keep hd b1'; have z0:=blkc (hold_up [_] h1) 0 _; have z1:=blkc (hold_up [_] h1) 1 _)
  first | refine hK.out _ _ ?_ (fun hHeld=>?_) | (go_wp2_with fail; refine hK.out _ _ ?_ (fun hHeld=>?_))
  ·(try dsimp only); (first | exact ⟨cpc hd,blkc (hold_up [_] hd) 0 _,blkc (hold_up [_] hd) 1 _,blkc hd 7 _⟩ | exact ⟨cpc h1,blkc (hold_up [_] h1) 0 _,blkc (hold_up [_] h1) 1 _,blkc h1 7 _⟩ | exact ⟨cpc h2,blkc (hold_up [_] h2) 0 _,blkc (hold_up [_] h2) 1 _,blkc h2 7 _⟩)
  clear hK K
  try simp only [Act.put,List.setIfInBounds_toArray,List.set_cons_zero,List.set_cons_succ]
  refine nextB (i:=6) (ho:=rfl) (fun K hK=>?_)
  go_simp
  (have hcon:=cL (hold_up [_,_,_,_] h1); (with_reducible refine hcon.mono ?_); clear hcon; rintro e w2 ⟨rfl,h2⟩; replace h2:=hold_dn [_,_,_,_] h2; have x20:=blkc (hold_up [_] h2) 0 _; have x21:=blkc (hold_up [_] h2) 1 _; have f20:=froz_of (hold_blk (hold_up [_] h2)) 0; have f21:=froz_of (hold_blk (hold_up [_] h2)) 1; have h3:=hold_dn [_] (hold_set 1 (.int .u64 ops') (hold_set 0 (.slice av m.cells.length ak) (hold_up [_] h2))); have x9:=blkc h2 9 _; have f9:=froz_of (hold_blk h2) 9; have h4:=hold_set 9 (.int .u64 x) h3)
  first | refine hK.out _ _ ?_ (fun hHeld=>?_) | (go_wp2_with fail; refine hK.out _ _ ?_ (fun hHeld=>?_))
  ·(try dsimp only); (first | exact ⟨cpc hd,blkc (hold_up [_] hd) 0 _,blkc (hold_up [_] hd) 1 _,blkc hd 7 _⟩ | exact ⟨cpc h1,blkc (hold_up [_] h1) 0 _,blkc (hold_up [_] h1) 1 _,blkc h1 7 _⟩ | exact ⟨cpc h2,blkc (hold_up [_] h2) 0 _,blkc (hold_up [_] h2) 1 _,blkc h2 7 _⟩)
  clear hK K
  try simp only [Act.put,List.setIfInBounds_toArray,List.set_cons_zero,List.set_cons_succ]
  refine takeB0 (i:=7) (v:=?_) (Or.inl ⟨by kernel_rfl,?_⟩) (by assumption) ?_
  rotate_left
  ·intro w _; go_simp; try with_reducible rfl
  try simp only [Act.put,List.setIfInBounds_toArray,List.set_cons_zero,List.set_cons_succ]
  refine takeB0 (i:=8) (v:=?_) (Or.inl ⟨by kernel_rfl,?_⟩) (by assumption) ?_
  rotate_left
  ·intro w _; go_simp; try with_reducible rfl
  try simp only [Act.put,List.setIfInBounds_toArray,List.set_cons_zero,List.set_cons_succ]
  refine takeB0 (i:=9) (v:=?_) (Or.inl ⟨by kernel_rfl,?_⟩) (by assumption) ?_
  rotate_left
  ·intro w _; go_simp; try with_reducible rfl
  try simp only [Act.put,List.setIfInBounds_toArray,List.set_cons_zero,List.set_cons_succ]
  refine lastB (i:=10) (ho:=rfl) (fun K hK=>?_)
  go_simp
  refine hK.out _ _ ?_
  clear hK K
  try simp only [Act.put,List.setIfInBounds_toArray,List.set_cons_zero,List.set_cons_succ]
  refine lastB (i:=11) (ho:=rfl) (fun K hK=>?_)
  go_simp
  refine hK.out _ _ ?_
  clear hK K
  try simp only [Act.put,List.setIfInBounds_toArray,List.set_cons_zero,List.set_cons_succ]
  refine lastB (i:=12) (ho:=rfl) (fun K hK=>?_)
  go_simp
  refine hK.out _ _ ?_
  clear hK K
  try simp only [Act.put,List.setIfInBounds_toArray,List.set_cons_zero,List.set_cons_succ]
  refine (doneB (h:=?_) (hr:=by kernel_rfl)) _
  refine NoPanic.normal ?_
  all_goals
   gi_wp2
   gi_meet
   case rel=>exact h4
 case rest =>
  have g1:=hcut
  clear hcut gd hd
  have x9:=blkc g1 9 _
  gi_wp2
  refine wcw (rSize x hu _) ?_
  rintro e w6 ⟨rfl,rfl⟩
  have x10:=blkc g1 10 _
  have f10:=froz_of (hold_blk g1) 10
  have g2:=hold_set 10 (.slice none 0 0) g1
  have y8:=blkc g2 8 _
  have f8:=froz_of (hold_blk g2) 8
  have g30:=hold_set 8 (.int .i64 2) g2
  have g3:Ev.Hold ctx (HS c p b1 b2 b3 b4 (sL c p v 2 x (.slice none 0 0) 0 l9Z) (.slice av m.cells.length ak) m.cells ops' (.slice none 0 0) [] r) _:=hsel [_,_,_,_,_,_,_] (g30.nilSl (e := 3) (sz:=1)) [1,2,3,4,5,0]
  have x1:=blkc g3 1 _
  by_cases e:szW x=0
  ·have hb':(szW x == 0)=true:=by simpa using e
   have z8:=blkc g3 8 _
   have i8:=froz_of (hold_blk g3) 8
   have g4:Ev.Hold ctx (HS c p b1 b2 b3 b4 (sL c p v 0 x (.slice none 0 0) 0 l9Z) (.slice av m.cells.length ak) m.cells ops' (.slice none 0 0) [] r) _:=hold_set 8 (.int .i64 0) g3
   have ho:Aside (Y=(⟨0,x,[],none⟩,⟨m.cells,ops'⟩)):=by show Y=_; rw [← hY]; simp only [stealStep,hxe,if_pos (Or.inl e:szW x=0∨(c.q:Int) < szW x),MemM.tick,MemM.put,ho']
   gi_upto_region 35 with fail
   refine wpIn_wide.2 (reg2 g4 (fun w' hw'=>?_) Tryz.underlying112 Tryz.underlying53 rfl rfl rfl rfl rfl rfl rfl rfl rfl rfl rfl)
   gi_wp2
   exact post_cell2 rfl rfl rfl rfl (lv_all (hold_up [_,_] hw') Tryz.underlying112 rfl (by kernel_rfl)) (lv_all (hold_up [_,_,_] hw') Tryz.underlying53 rfl (by kernel_rfl)) (by rw [ho.out]; first | exact ⟨_,_,ll,lll,rfl,hold_drop (r:=[_,_,_,_]) hw'⟩)
  ·have hb':(szW x == 0)=false:=by simpa using e
   have hz':¬ (c.q:Int) < szW x:=by omega
   have ho:Aside (Y=(⟨2,x,[],none⟩,⟨m.cells,ops'⟩)):=by show Y=_; rw [← hY]; simp only [stealStep,hxe,if_neg (not_or.2 ⟨e,hz'⟩),MemM.tick,MemM.put,ho']
   gi_upto_region 35 with fail
   refine wpIn_wide.2 (reg2 g3 (fun w' hw'=>?_) Tryz.underlying112 Tryz.underlying53 rfl rfl rfl rfl rfl rfl rfl rfl rfl rfl rfl)
   gi_wp2
   exact post_cell2 rfl rfl rfl rfl (lv_all (hold_up [_,_] hw') Tryz.underlying112 rfl (by kernel_rfl)) (lv_all (hold_up [_,_,_] hw') Tryz.underlying53 rfl (by kernel_rfl)) (by rw [ho.out]; first | exact ⟨_,_,ll,lll,rfl,hold_drop (r:=[_,_,_,_]) hw'⟩)
end
end Go.Proofs.YtkmccgombmogmaaGreat
namespace Go.Proofs.YtkmccgombmogmaaGreat
open Go.RowKit
set_option linter.unusedVariables false
set_option linter.unusedSimpArgs false
set_option maxRecDepth 8000
section
variable {ctx:Ev.Ctx} {w:World} {r:List Ev.Asr} {c:Cfg} {p v:Nat} {m:MemM} {rv bt ll:Value}
set_option maxHeartbeats 8000000 in
theorem steal11_2 (n:Nat) (hp:p < c.n) (hv:v < c.n) {x:StealS} (hx:StealOk x) (hk:x.st=2) (hm:MemOk c m) (hz:szW (ld m (c.word v))≤(c.q:Int)) (hb:x.bt.length≤64) (h3:x.st=3→(x.bt.length:Int)=oldN (szW x.w)) (lll:Ev.leafV ll=true) (h:Ev.Hold ctx (cA rv m::(s11L x bt ll++r)) w) : Steal11 ctx r c p v m rv bt ll x n w:=by
 unfold Steal11
 have hbg:=hm.big
 have hno:=hx.no
 have hone:=hx.one
 have htwo:=hx.two
 have hthree:=hx.three
 have hfour:=hx.four
 have hgs:=hx.gs
 have hw0:U64 x.w:=hx.w
 clear hx
 obtain ⟨st,w0,bs,ly⟩:=x
 dsimp only at hno hone htwo hthree hfour hw0 hb h3 hgs hk
 obtain rfl:st=2:=hk
 obtain rfl:=hno (by omega)
 obtain ⟨ht2,ht3⟩:=htwo rfl
 clear hone htwo hthree hfour h3 hno
 replace h:Ev.Hold ctx (uA rv m.cells::isA bt bs::r) w:=h
 obtain ⟨av,ak,rfl⟩:=slr_val (hold_slr h)
 obtain ⟨ba,bc,rfl⟩:=slr_val (hold_slr (hold_drop (r:=[_]) h))
 obtain ⟨b1,W1,hb1,hW1,q1⟩:=newN (sL c p v 2 w0 (.slice ba bs.length bc) 0 l9Z) 112 h
 obtain ⟨b2,W2,hb2,hW2,q2⟩:=newN [.slice av m.cells.length ak,.int .u64 m.ops] 53 q1
 obtain ⟨b3,W3,hb3,hW3,q3⟩:=newN s11Z 112 q2
 obtain ⟨b4,W4,hb4,hW4,q4⟩:=newN [.slice none 0 0,.int .u64 0] 53 q3
 have gd:Ev.Hold ctx (HS c p b1 b2 b3 b4 (sL c p v 2 w0 (.slice ba bs.length bc) 0 l9Z) (.slice av m.cells.length ak) m.cells m.ops (.slice ba bs.length bc) bs r) W4:=hsel [_,_,_,_,_] q4 [3,2,1,0,4]
 clear q1 q2 q3 q4
 obtain ⟨Y,hY⟩ : ∃ Y,stealStep c p v ⟨2,w0,bs,none⟩ m=Y:=⟨_,rfl⟩
 have eg:s11 c p v ⟨2,w0,bs,none⟩ (.slice ba bs.length bc) ll=(sL c p v 2 w0 (.slice ba bs.length bc) 0 l9Z).toArray:=rfl
 rw [eg,hY]
 clear eg
 have x9:=blkc gd 9 _
 have hkb:=szW_bd w0
 have u1:IntKind.u32.wrap (szW w0 / 2)=szW w0 / 2:=by rw [wrap32]; omega
 obtain ⟨kk,hkk⟩ : ∃ kk,oldN (szW w0)=kk:=⟨_,rfl⟩
 have u2:IntKind.u32.wrap (szW w0 - szW w0 / 2)=kk:=by rw [← hkk,wrap32]; unfold oldN; omega
 refine wen Tryz.func88 149 ?_
 gi_wp2
 refine wcw (rSize w0 hw0 _) ?_
 rintro e w1 ⟨rfl,rfl⟩
 clear hW1 hW2 hW3 hW4 hb1 hb2 hb3 hb4
 gi_upto_region 3 with fail
 have hd0:=hold_keep gd (Below.refl _ _).drew
 refine wpIn_wide.2 ?_
 go_region_held3 (fun W=>W.cell? ⟨b1,9,none⟩=some (.int .u64 w0)) (exact blkc hd0 9 _) ((first
  | (have hcon:=rHead w0 hw0 W4.drew; (with_reducible refine hcon.mono ?_); clear hcon; rintro e w1 ⟨rfl,rfl⟩)
  | (have hcon:=rTail w0 hw0 W4.drew; (with_reducible refine hcon.mono ?_); clear hcon; rintro e w1 ⟨rfl,rfl⟩)))
 obtain ⟨W5,hW5,g0⟩:=hname hd0
 rw [← hW5]
 clear hW5 gd hd0 x9
 have gd:=g0
 clear g0
 have hd:=hold_keep gd (Below.refl _ _).drew
 have x8:=blkc gd 8 _
 have hq:=c.qb
 obtain ⟨ops',ho'⟩ : ∃ o,IntKind.u64.wrap (m.ops+1)=o:=⟨_,rfl⟩
 obtain ⟨J,hJ⟩ : ∃ J,(hdW w0+(bs.length:Int)) % 4294967296=J:=⟨_,rfl⟩
 have u3:IntKind.u32.wrap (bs.length:Int)=(bs.length:Int):=by rw [wrap32]; omega
 have u4:IntKind.u32.wrap (hdW w0+(bs.length:Int))=J:=by rw [wrap32,hJ]
 have u5:IntKind.u32.wrap ((bs.length:Int)+1)=(bs.length:Int)+1:=by rw [wrap32]; omega
 have hJ0:0≤J:=by rw [← hJ]; omega
 obtain ⟨x,hxe⟩ : ∃ x,ld m (c.slot v J)=x:=⟨_,rfl⟩
 obtain ⟨hx,-⟩:=hm.at_ (hm.lt_slot hv J)
 rw [hxe] at hx
 obtain ⟨y,hy⟩ : ∃ y,IntKind.i64.wrap x=y:=⟨_,rfl⟩
 have ho:Aside (Y=(⟨if ((bs.length+1:Nat) : Int)=kk then 3 else 2,w0,bs++[y],none⟩,⟨m.cells,ops'⟩)):=by show Y=_; rw [← hY]; simp only [stealStep,hJ,hxe,hy,hkk,MemM.tick,MemM.put,ho']
 clear hJ hkk hxe
 gi_upto_region 13 with fail
 gi_cut [10,11] from 14 (fun s9 s10 wx=>∃ b9,s9=.pointer (some ⟨b9,0,none⟩)∧s10=.int .u64 x∧Ev.Hold ctx (m06 b9 (.slice av m.cells.length ak) ops'::HS c p b1 b2 b3 b4 (sL c p v 2 w0 (.slice ba bs.length bc) 0 l9Z) (.slice av m.cells.length ak) m.cells m.ops (.slice ba bs.length bc) bs r) wx)
 case first =>
  have hP:∀ {R:List Ev.Asr} {W:World},Ev.Hold ctx (Ev.blkA b1 (sL c p v 2 w0 (.slice ba bs.length bc) 0 l9Z) 112 :: m06 b2 (.slice av m.cells.length ak) m.ops::R) W→cpC c p b1 W∧W.cell? ⟨b2,0,none⟩=some (.slice av m.cells.length ak)∧W.cell? ⟨b2,1,none⟩=some (.int .u64 m.ops)∧W.cell? ⟨b1,7,none⟩=some (.int .i64 (v:Int))∧W.cell? ⟨b1,10,none⟩=some (.slice ba bs.length bc):=fun hh=>⟨cpc hh,blkc (hold_up [_] hh) 0 _,blkc (hold_up [_] hh) 1 _,blkc hh 7 _,blkc hh 10 _⟩
  have hX:∀ {q:Ev.Asr} {R:List Ev.Asr} {W:World},Ev.Hold ctx (q::Ev.blkA b1 (sL c p v 2 w0 (.slice ba bs.length bc) 0 l9Z) 112 :: m06 b2 (.slice av m.cells.length ak) m.ops::R) W→cpC c p b1 W∧W.cell? ⟨b2,0,none⟩=some (.slice av m.cells.length ak)∧W.cell? ⟨b2,1,none⟩=some (.int .u64 m.ops)∧W.cell? ⟨b1,7,none⟩=some (.int .i64 (v:Int))∧W.cell? ⟨b1,10,none⟩=some (.slice ba bs.length bc):=fun hh=>hP (hold_drop (r:=[_]) hh)
  have hdN:Ev.Hold ctx (m06 W5.heap.size (.slice none 0 0) 0::HS c p b1 b2 b3 b4 (sL c p v 2 w0 (.slice ba bs.length bc) 0 l9Z) (.slice av m.cells.length ak) m.cells m.ops (.slice ba bs.length bc) bs r) (W5.alloc (.cells #[(.slice none 0 0),.int .u64 0] 53)).drew:=hold_new [(.slice none 0 0),.int .u64 0] 53 hd
  have cW:=rSlot_ok c v hv J hJ0
  have cL:∀ {R:List Ev.Asr} {W:World},Ev.Hold ctx (uA (.slice av m.cells.length ak) m.cells::R) W→_:=fun {R W} hh=>callsIn_wide.1 (rload_in (ctx:=ctx) (r:=R) (w:=W) 0 (ops:=m.ops) hx hh)
  rw [ho'] at cL
  refine wpIn_wide.2 ?_
  go_region_held3 (fun W=>cpC c p b1 W∧W.cell? ⟨b2,0,none⟩=some (.slice av m.cells.length ak)∧W.cell? ⟨b2,1,none⟩=some (.int .u64 m.ops)∧W.cell? ⟨b1,7,none⟩=some (.int .i64 (v:Int))∧W.cell? ⟨b1,10,none⟩=some (.slice ba bs.length bc)) ((first | exact hP hd | exact hX hdN | exact hP h1 | exact hX h1x | exact hX h1N | exact hP h2 | exact hX h2x | exact hX h2N | exact hX h4 | exact hX h4x | fail)) ((first
   | (have hcon:=cW W5.drew; (with_reducible refine hcon.mono ?_); clear hcon; rintro e w1 ⟨rfl,b1'⟩; (have h1:=hold_keep hd b1'; have h1N:=hold_new [(.slice none 0 0),.int .u64 0] 53 h1))
   | (have hcon:=cW (W5.alloc (.cells #[(.slice none 0 0),.int .u64 0] 53)).drew; (with_reducible refine hcon.mono ?_); clear hcon; rintro e w1 ⟨rfl,b1'⟩; have h1x:=hold_keep hdN b1')
   | (have hcon:=cL (hold_up [_,_,_,_] h1); (with_reducible refine hcon.mono ?_); clear hcon; rintro e w2 ⟨rfl,h2⟩; replace h2:=hold_dn [_,_,_,_] h2; have h2N:=hold_new [(.slice none 0 0),.int .u64 0] 53 h2; have h4:=hold_new [(.slice av m.cells.length ak),.int .u64 ops'] 53 h2)
   | (have hcon:=cL (hold_up [_,_,_,_,_] h1x); (with_reducible refine hcon.mono ?_); clear hcon; rintro e w2 ⟨rfl,h2⟩; have h2x:=hold_dn [_,_,_,_,_] h2; have x0:=blkc h2x 0 _; have x1:=blkc h2x 1 _; have f0:=froz_of (hold_blk h2x) 0; have f1:=froz_of (hold_blk h2x) 1; have h4x:=hold_set 1 (.int .u64 ops') (hold_set 0 (.slice av m.cells.length ak) h2x))
   | (have hcon:=cL (hold_up [_,_,_,_,_] h1N); (with_reducible refine hcon.mono ?_); clear hcon; rintro e w2 ⟨rfl,h2⟩; have h2x:=hold_dn [_,_,_,_,_] h2; have x0:=blkc h2x 0 _; have x1:=blkc h2x 1 _; have f0:=froz_of (hold_blk h2x) 0; have f1:=froz_of (hold_blk h2x) 1; have h4x:=hold_set 1 (.int .u64 ops') (hold_set 0 (.slice av m.cells.length ak) h2x))))
  all_goals
   gi_wp2
   gi_meet
   case rel=>first | exact ⟨_,rfl,rfl,h4⟩ | exact ⟨_,rfl,rfl,h4x⟩
 case rest =>
  obtain ⟨b9,rfl,rfl,g1⟩:=hcut
  clear gd hd
  have a0:=blkc g1 0 _
  have a1:=blkc g1 1 _
  replace g1:=hsel [_,_,_] g1 [1,2,0]
  have c0:=blkc (hold_up [_] g1) 0 _
  have c1:=blkc (hold_up [_] g1) 1 _
  have f0:=froz_of (hold_blk (hold_up [_] g1)) 0
  have f1:=froz_of (hold_blk (hold_up [_] g1)) 1
  have g2:=hold_dn [_] (hold_set 1 (.int .u64 ops') (hold_set 0 (.slice av m.cells.length ak) (hold_up [_] g1)))
  have g3:Ev.Hold ctx (HS c p b1 b2 b3 b4 (sL c p v 2 w0 (.slice ba bs.length bc) 0 l9Z) (.slice av m.cells.length ak) m.cells ops' (.slice ba bs.length bc) bs r) _:=hsel [_,_,_,_,_] g2 [0,1,3,4]
  gi_upto_region 16 with fail
  obtain ⟨V,hV,v1⟩:=hname g3
  rw [← hV]
  clear hV
  obtain ⟨a5,k5,w5,r5,v2⟩:=aapp (xs:=[]) (t := 35) rfl (by simp; omega) ((hsel [_,_,_,_,_,_] v1 [5,0,1,2,3,4]).nilSl (e := 3) (sz:=1))
  rw [List.nil_append] at r5 v2
  obtain ⟨a6,k6,w6,r6,v3⟩:=iapp1 y (by omega) v2
  have x10V:=blkc v1 10 _
  clear a0 a1 c0 c1 f0 f1 g1 g2 g3
  have v5:=hold_up [_,_] v3
  have x10:=blkc v5 10 _
  have f10:=froz_of (hold_blk v5) 10
  have v6:=hold_set 10 (.slice a6 (bs.length+1) k6) v5
  have x8:=blkc v6 8 _
  have f8:=froz_of (hold_blk v6) 8
  by_cases e:((bs.length+1:Nat) : Int)=kk
  ·have hb':((bs.length:Int)+1 == kk)=true:=by simp; omega
   rw [if_pos e] at ho
   clear e
   have v7:=hold_set 8 (.int .i64 3) v6
   have v8:Ev.Hold ctx (HS c p b1 b2 b3 b4 (sL c p v 3 w0 (.slice a6 (bs.length+1) k6) 0 l9Z) (.slice av m.cells.length ak) m.cells ops' (.slice a6 (bs.length+1) k6) (bs++[y]) r) _:=hsel [_,_,_,_,_,_,_] v7 [0,3,4,5,6,1]
   gi_upto_region 17 with (gi_at_builtin; refine wpListIn_append_run rfl _ _ _ rfl r5 ?_)
   gi_upto_region 18 with (gi_at_builtin; refine wpListIn_append_run rfl _ _ _ rfl r6 ?_)
   gi_upto_region 35 with fail
   refine wpIn_wide.2 (reg2 v8 (fun w' hw'=>?_) Tryz.underlying112 Tryz.underlying53 rfl rfl rfl rfl rfl rfl rfl rfl rfl rfl rfl)
   gi_wp2
   exact post_cell2 rfl rfl rfl rfl (lv_all (hold_up [_,_] hw') Tryz.underlying112 rfl (by kernel_rfl)) (lv_all (hold_up [_,_,_] hw') Tryz.underlying53 rfl (by kernel_rfl)) (by rw [ho.out]; first | exact ⟨_,_,ll,lll,rfl,hold_drop (r:=[_,_,_,_]) hw'⟩)
  ·have hb':((bs.length:Int)+1 == kk)=false:=by simp; omega
   rw [if_neg e] at ho
   clear e
   have v8:Ev.Hold ctx (HS c p b1 b2 b3 b4 (sL c p v 2 w0 (.slice a6 (bs.length+1) k6) 0 l9Z) (.slice av m.cells.length ak) m.cells ops' (.slice a6 (bs.length+1) k6) (bs++[y]) r) _:=hsel [_,_,_,_,_,_,_] v6 [0,3,4,5,6,1]
   gi_upto_region 17 with (gi_at_builtin; refine wpListIn_append_run rfl _ _ _ rfl r5 ?_)
   gi_upto_region 18 with (gi_at_builtin; refine wpListIn_append_run rfl _ _ _ rfl r6 ?_)
   gi_upto_region 35 with fail
   refine wpIn_wide.2 (reg2 v8 (fun w' hw'=>?_) Tryz.underlying112 Tryz.underlying53 rfl rfl rfl rfl rfl rfl rfl rfl rfl rfl rfl)
   gi_wp2
   exact post_cell2 rfl rfl rfl rfl (lv_all (hold_up [_,_] hw') Tryz.underlying112 rfl (by kernel_rfl)) (lv_all (hold_up [_,_,_] hw') Tryz.underlying53 rfl (by kernel_rfl)) (by rw [ho.out]; first | exact ⟨_,_,ll,lll,rfl,hold_drop (r:=[_,_,_,_]) hw'⟩)
end
end Go.Proofs.YtkmccgombmogmaaGreat
