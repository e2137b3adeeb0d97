/- Part of a proof: see the last text. -/
import Derived.Test.YtkmccgombmogmaaGreatZk14
import Derived.Test.YtkmccgombmogmaaGreatZk4
import Derived.Test.YtkmccgombmogmaaGreatZk16
namespace Go.Proofs.YtkmccgombmogmaaGreat
open Go.RowKit
set_option linter.unusedVariables false
set_option linter.unusedSimpArgs false
set_option maxRecDepth 8000
section
variable {ctx:Ev.Ctx} {w:World} {r:List Ev.Asr} {c:Cfg} {p:Nat} {m:MemM} {rv tk hd:Value}
set_option maxHeartbeats 8000000 in
theorem put9_4 (n:Nat) (hp:p < c.n) {x:PutS} (hx:PutOk c x) (hk:x.st=4) (hm:MemOk c m) (h:Ev.Hold ctx (uA rv m.cells::isA tk x.ts::isA hd x.hs::r) w) : Put9 ctx r c p m rv tk hd x n w:=by
 have h0:x.st ≠ 0:=by omega
 unfold Put9
 obtain ⟨av,ak,rfl⟩:=slr_val (hold_slr h)
 obtain ⟨ta,tc,rfl⟩:=slr_val (hold_slr (hold_drop (r:=[_]) h))
 obtain ⟨ha,hc,rfl⟩:=slr_val (hold_slr (hold_drop (r:=[_,_]) h))
 have hst:=hx.st
 have hw0:U64 x.w:=hx.w
 have hts:=hx.ts
 have hgg:=hx.gg h0
 obtain ⟨st,gg,w0,ts,hs⟩:=x
 dsimp only at hst hw0 h0 hts hgg
 have hbig:=hm.big
 obtain ⟨b1,W1,hb1,hW1,q1⟩:=newN (p9L c p gg (st:Int) w0 (.slice ta ts.length tc) (.slice ha hs.length hc)) 106 h
 obtain ⟨b2,W2,hb2,hW2,q2⟩:=newN [.slice av m.cells.length ak,.int .u64 m.ops] 53 q1
 obtain ⟨b3,W3,hb3,hW3,q3⟩:=newN p9Z 106 q2
 obtain ⟨b4,W4,hb4,hW4,q4⟩:=newN [.slice none 0 0,.int .u64 0] 53 q3
 have g0:Ev.Hold ctx (H9 c p b1 b2 b3 b4 (p9L c p gg (st:Int) w0 (.slice ta ts.length tc) (.slice ha hs.length hc)) (.slice av m.cells.length ak) m.cells m.ops (.slice ta ts.length tc) (.slice ha hs.length hc) ts hs r) W4:=hsel [_,_,_,_,_] q4 [3,2,1,0,4]
 clear q1 q2 q3 q4
 have gd:=g0
 obtain ⟨Y,hY⟩ : ∃ Y,putStep c p ⟨st,gg,w0,ts,hs⟩ m=Y:=⟨_,rfl⟩
 have eg:∀ (a b:Value),p9 c p ⟨st,gg,w0,ts,hs⟩ a b=(p9L c p gg (st:Int) w0 a b).toArray:=fun _ _=>rfl
 rw [eg,hY]
 clear eg
 have x9:=blkc gd 9 _
 have x8:=blkc gd 8 _
 refine wen Tryz.func53 160 ?_
 gi_wp2
 refine wcw (rTail w0 hw0 _) ?_
 rintro e w1 ⟨rfl,rfl⟩
 clear hW1 hW2 hW3 hW4 hb1 hb2 hb3 hb4 g0 x9
 have hd:=hold_keep gd (Below.refl _ _).drew
 obtain ⟨ops',ho'⟩ : ∃ o,IntKind.u64.wrap (m.ops+1)=o:=⟨_,rfl⟩
 obtain rfl:st=4:=hk
 have z:=c.qb
 obtain ⟨hf,hhf⟩ : ∃ hf:Int,(c.q:Int) / 2=hf:=⟨_,rfl⟩
 have hfa:Aside (hf=((c.q / 2:Nat) : Int)):=by show hf=_; rw [← hhf]; omega
 have hf1:IntKind.i64.wrap hf=hf:=by have:=hfa.out; exact wrap_ok (by omega) (by omega)
 have hf2:IntKind.u32.wrap hf=hf:=by have:=hfa.out; rw [wrap32]; omega
 obtain ⟨I,hI⟩ : ∃ I,tkI c w0 ts.length=I:=⟨_,rfl⟩
 have hti:=tkI_ref c w0 ts.length
 rw [← hfa.out,hI] at hti
 have h00:0≤I:=by rw [← hI]; unfold tkI; omega
 have hln:IntKind.u32.wrap (ts.length:Int)=(ts.length:Int):=by rw [wrap32]; omega
 obtain ⟨x,hxe⟩ : ∃ x,ld m (c.slot p I)=x:=⟨_,rfl⟩
 obtain ⟨hx,-⟩:=hm.at_ (hm.lt_slot hp I)
 rw [hxe] at hx
 have x1d:=blkc gd 1 _
 gi_upto_region 21 with fail
 gi_cut [9,10] from 22 (fun s9 s10 wx=>∃ b9,s9=.pointer (some ⟨b9,0,none⟩)∧s10=.int .u64 x∧Ev.Hold ctx (m06 b9 (.slice av m.cells.length ak) ops'::H9 c p b1 b2 b3 b4 (p9L c p gg 4 w0 (.slice ta ts.length tc) (.slice ha hs.length hc)) (.slice av m.cells.length ak) m.cells m.ops (.slice ta ts.length tc) (.slice ha hs.length hc) ts hs r) wx)
 case first =>
  have hP:∀ {R:List Ev.Asr} {W:World},Ev.Hold ctx (Ev.blkA b1 (p9L c p gg 4 w0 (.slice ta ts.length tc) (.slice ha hs.length hc)) 106 :: m06 b2 (.slice av m.cells.length ak) m.ops::R) W→cpC c p b1 W∧W.cell? ⟨b2,0,none⟩=some (.slice av m.cells.length ak)∧W.cell? ⟨b2,1,none⟩=some (.int .u64 m.ops)∧W.cell? ⟨b1,10,none⟩=some (.slice ta ts.length tc):=fun hh=>⟨cpc hh,blkc (hold_up [_] hh) 0 _,blkc (hold_up [_] hh) 1 _,blkc hh 10 _⟩
  have hX:∀ {q:Ev.Asr} {R:List Ev.Asr} {W:World},Ev.Hold ctx (q::Ev.blkA b1 (p9L c p gg 4 w0 (.slice ta ts.length tc) (.slice ha hs.length hc)) 106 :: m06 b2 (.slice av m.cells.length ak) m.ops::R) W→cpC c p b1 W∧W.cell? ⟨b2,0,none⟩=some (.slice av m.cells.length ak)∧W.cell? ⟨b2,1,none⟩=some (.int .u64 m.ops)∧W.cell? ⟨b1,10,none⟩=some (.slice ta ts.length tc):=fun hh=>hP (hold_drop (r:=[_]) hh)
  have hdN:Ev.Hold ctx (m06 W4.heap.size (.slice none 0 0) 0::H9 c p b1 b2 b3 b4 (p9L c p gg 4 w0 (.slice ta ts.length tc) (.slice ha hs.length hc)) (.slice av m.cells.length ak) m.cells m.ops (.slice ta ts.length tc) (.slice ha hs.length hc) ts hs r) (W4.alloc (.cells #[(.slice none 0 0),.int .u64 0] 53)).drew:=hold_new [(.slice none 0 0),.int .u64 0] 53 hd
  have cW:=rSlot_ok c p hp I h00
  have cL:∀ {R:List Ev.Asr} {W:World},Ev.Hold ctx (uA (.slice av m.cells.length ak) m.cells::R) W→_:=fun {R W} hh=>callsIn_wide.1 (rload_in (ctx:=ctx) (r:=R) (w:=W) 0 (ops:=m.ops) hx hh)
  rw [ho'] at cL
  refine wpIn_wide.2 ?_
  go_region_held3 (fun W=>cpC c p b1 W∧W.cell? ⟨b2,0,none⟩=some (.slice av m.cells.length ak)∧W.cell? ⟨b2,1,none⟩=some (.int .u64 m.ops)∧W.cell? ⟨b1,10,none⟩=some (.slice ta ts.length tc)) ((first | exact hP hd | exact hX hdN | exact hP h1 | exact hX h1x | exact hX h1N | exact hP h2 | exact hX h2x | exact hX h2N | exact hX h4 | exact hX h4x | fail)) ((first
   | (have hcon:=cW W4.drew; (with_reducible refine hcon.mono ?_); clear hcon; rintro e w1 ⟨rfl,b1'⟩; (have h1:=hold_keep hd b1'; have h1N:=hold_new [(.slice none 0 0),.int .u64 0] 53 h1))
   | (have hcon:=cW (W4.alloc (.cells #[(.slice none 0 0),.int .u64 0] 53)).drew; (with_reducible refine hcon.mono ?_); clear hcon; rintro e w1 ⟨rfl,b1'⟩; have h1x:=hold_keep hdN b1')
   | (have hcon:=cL (hold_up [_,_,_,_] h1); (with_reducible refine hcon.mono ?_); clear hcon; rintro e w2 ⟨rfl,h2⟩; replace h2:=hold_dn [_,_,_,_] h2; have h2N:=hold_new [(.slice none 0 0),.int .u64 0] 53 h2; have h4:=hold_new [(.slice av m.cells.length ak),.int .u64 ops'] 53 h2)
   | (have hcon:=cL (hold_up [_,_,_,_,_] h1x); (with_reducible refine hcon.mono ?_); clear hcon; rintro e w2 ⟨rfl,h2⟩; have h2x:=hold_dn [_,_,_,_,_] h2; have x0:=blkc h2x 0 _; have x1:=blkc h2x 1 _; have f0:=froz_of (hold_blk h2x) 0; have f1:=froz_of (hold_blk h2x) 1; have h4x:=hold_set 1 (.int .u64 ops') (hold_set 0 (.slice av m.cells.length ak) h2x))
   | (have hcon:=cL (hold_up [_,_,_,_,_] h1N); (with_reducible refine hcon.mono ?_); clear hcon; rintro e w2 ⟨rfl,h2⟩; have h2x:=hold_dn [_,_,_,_,_] h2; have x0:=blkc h2x 0 _; have x1:=blkc h2x 1 _; have f0:=froz_of (hold_blk h2x) 0; have f1:=froz_of (hold_blk h2x) 1; have h4x:=hold_set 1 (.int .u64 ops') (hold_set 0 (.slice av m.cells.length ak) h2x))))
  all_goals
   gi_wp2
   gi_meet
   case rel=>first | exact ⟨_,rfl,rfl,h4⟩ | exact ⟨_,rfl,rfl,h4x⟩
 case rest =>
  obtain ⟨b9,rfl,rfl,g1⟩:=hcut
  clear gd hd
  have a0:=blkc g1 0 _
  have a1:=blkc g1 1 _
  replace g1:=hsel [_,_,_] g1 [1,2,0]
  have c0:=blkc (hold_up [_] g1) 0 _
  have c1:=blkc (hold_up [_] g1) 1 _
  have f0:=froz_of (hold_blk (hold_up [_] g1)) 0
  have f1:=froz_of (hold_blk (hold_up [_] g1)) 1
  have g2:=hold_dn [_] (hold_set 1 (.int .u64 ops') (hold_set 0 (.slice av m.cells.length ak) (hold_up [_] g1)))
  have g3:Ev.Hold ctx (H9 c p b1 b2 b3 b4 (p9L c p gg 4 w0 (.slice ta ts.length tc) (.slice ha hs.length hc)) (.slice av m.cells.length ak) m.cells ops' (.slice ta ts.length tc) (.slice ha hs.length hc) ts hs r) _:=hsel [_,_,_,_,_] g2 [0,1,3,4]
  obtain ⟨y,hy⟩ : ∃ y:Int,IntKind.i64.wrap x=y:=⟨_,rfl⟩
  gi_upto_region 24 with fail
  obtain ⟨V,hV,v1⟩:=hname g3
  rw [← hV]
  clear hV
  obtain ⟨a5,k5,w5,r5,v2⟩:=aapp (xs:=[]) (t := 35) rfl (by simp; omega) ((hsel [_,_,_,_,_,_] v1 [5,0,1,2,3,4]).nilSl (e := 3) (sz:=1))
  rw [List.nil_append] at r5 v2
  obtain ⟨a6,k6,w6,r6,v3⟩:=iapp1 y (by omega) v2
  have x10V:=blkc v1 10 _
  clear a0 a1 c0 c1 f0 f1 g1 g2 g3
  have v5:=hold_up [_,_] v3
  have x10:=blkc v5 10 _
  have f10:=froz_of (hold_blk v5) 10
  have v6:=hold_set 10 (.slice a6 (ts.length+1) k6) v5
  have x8:=blkc v6 8 _
  have f8:=froz_of (hold_blk v6) 8
  by_cases e:ts.length+1=c.q / 2
  ·have hb:((ts.length:Int)+1 == hf)=true:=by have:=hfa.out; simp; omega
   have v7:=hold_set 8 (.int .i64 5) v6
   have v8:Ev.Hold ctx (H9 c p b1 b2 b3 b4 (p9L c p gg 5 w0 (.slice a6 (ts.length+1) k6) (.slice ha hs.length hc)) (.slice av m.cells.length ak) m.cells ops' (.slice a6 (ts.length+1) k6) (.slice ha hs.length hc) (ts++[y]) hs r) _:=hsel [_,_,_,_,_,_,_] v7 [0,3,4,5,6,1]
   have ho:Aside (Y=(⟨5,gg,w0,ts++[y],hs⟩,⟨m.cells,ops'⟩)):=by show Y=_; rw [← hY]; simp only [putStep,ge_iff_le,hI,hxe,hy,if_pos e,MemM.tick,MemM.put,ho']
   clear e hI hti
   gi_upto_region 25 with (gi_at_builtin; refine wpListIn_append_run rfl _ _ _ rfl r5 ?_)
   gi_upto_region 26 with (gi_at_builtin; refine wpListIn_append_run rfl _ _ _ rfl r6 ?_)
   gi_upto_region 36 with fail
   refine wpIn_wide.2 (reg2 v8 (fun w' hw'=>?_) Tryz.underlying106 Tryz.underlying53 rfl rfl rfl rfl rfl rfl rfl rfl rfl rfl rfl)
   gi_wp2
   exact post_cell2 rfl rfl rfl rfl (lv_all (hold_up [_,_] hw') Tryz.underlying106 rfl (by kernel_rfl)) (lv_all (hold_up [_,_,_] hw') Tryz.underlying53 rfl (by kernel_rfl)) (by rw [ho.out]; first | exact ⟨_,_,_,rfl,hold_drop (r:=[_,_,_,_]) hw'⟩ | exact ⟨_,_,⟨_,rfl⟩,hold_drop (r:=[_,_,_,_]) hw'⟩ | exact ⟨_,⟨_,_,rfl⟩,hold_drop (r:=[_,_,_,_]) hw'⟩)
  ·have hb:((ts.length:Int)+1 == hf)=false:=by have:=hfa.out; simp; omega
   have v8:Ev.Hold ctx (H9 c p b1 b2 b3 b4 (p9L c p gg 4 w0 (.slice a6 (ts.length+1) k6) (.slice ha hs.length hc)) (.slice av m.cells.length ak) m.cells ops' (.slice a6 (ts.length+1) k6) (.slice ha hs.length hc) (ts++[y]) hs r) _:=hsel [_,_,_,_,_,_,_] v6 [0,3,4,5,6,1]
   have ho:Aside (Y=(⟨4,gg,w0,ts++[y],hs⟩,⟨m.cells,ops'⟩)):=by show Y=_; rw [← hY]; simp only [putStep,ge_iff_le,hI,hxe,hy,if_neg e,MemM.tick,MemM.put,ho']
   clear e hI hti
   gi_upto_region 25 with (gi_at_builtin; refine wpListIn_append_run rfl _ _ _ rfl r5 ?_)
   gi_upto_region 26 with (gi_at_builtin; refine wpListIn_append_run rfl _ _ _ rfl r6 ?_)
   gi_upto_region 36 with fail
   refine wpIn_wide.2 (reg2 v8 (fun w' hw'=>?_) Tryz.underlying106 Tryz.underlying53 rfl rfl rfl rfl rfl rfl rfl rfl rfl rfl rfl)
   gi_wp2
   exact post_cell2 rfl rfl rfl rfl (lv_all (hold_up [_,_] hw') Tryz.underlying106 rfl (by kernel_rfl)) (lv_all (hold_up [_,_,_] hw') Tryz.underlying53 rfl (by kernel_rfl)) (by rw [ho.out]; first | exact ⟨_,_,_,rfl,hold_drop (r:=[_,_,_,_]) hw'⟩ | exact ⟨_,_,⟨_,rfl⟩,hold_drop (r:=[_,_,_,_]) hw'⟩ | exact ⟨_,⟨_,_,rfl⟩,hold_drop (r:=[_,_,_,_]) hw'⟩)
end
end Go.Proofs.YtkmccgombmogmaaGreat
namespace Go.Proofs.YtkmccgombmogmaaGreat
open Go.RowKit
set_option linter.unusedVariables false
set_option linter.unusedSimpArgs false
set_option maxRecDepth 8000
section
variable {ctx:Ev.Ctx} {w:World} {r:List Ev.Asr} {c:Cfg} {p:Nat} {m:MemM} {rv tk hd:Value}
set_option maxHeartbeats 8000000 in
theorem put9_5 (n:Nat) (hp:p < c.n) {x:PutS} (hx:PutOk c x) (hk:x.st=5) (hm:MemOk c m) (h:Ev.Hold ctx (uA rv m.cells::isA tk x.ts::isA hd x.hs::r) w) : Put9 ctx r c p m rv tk hd x n w:=by
 have h0:x.st ≠ 0:=by omega
 unfold Put9
 obtain ⟨av,ak,rfl⟩:=slr_val (hold_slr h)
 obtain ⟨ta,tc,rfl⟩:=slr_val (hold_slr (hold_drop (r:=[_]) h))
 obtain ⟨ha,hc,rfl⟩:=slr_val (hold_slr (hold_drop (r:=[_,_]) h))
 have hst:=hx.st
 have hw0:U64 x.w:=hx.w
 have hts:=hx.ts
 have hgg:=hx.gg h0
 obtain ⟨st,gg,w0,ts,hs⟩:=x
 dsimp only at hst hw0 h0 hts hgg
 have hbig:=hm.big
 obtain ⟨b1,W1,hb1,hW1,q1⟩:=newN (p9L c p gg (st:Int) w0 (.slice ta ts.length tc) (.slice ha hs.length hc)) 106 h
 obtain ⟨b2,W2,hb2,hW2,q2⟩:=newN [.slice av m.cells.length ak,.int .u64 m.ops] 53 q1
 obtain ⟨b3,W3,hb3,hW3,q3⟩:=newN p9Z 106 q2
 obtain ⟨b4,W4,hb4,hW4,q4⟩:=newN [.slice none 0 0,.int .u64 0] 53 q3
 have g0:Ev.Hold ctx (H9 c p b1 b2 b3 b4 (p9L c p gg (st:Int) w0 (.slice ta ts.length tc) (.slice ha hs.length hc)) (.slice av m.cells.length ak) m.cells m.ops (.slice ta ts.length tc) (.slice ha hs.length hc) ts hs r) W4:=hsel [_,_,_,_,_] q4 [3,2,1,0,4]
 clear q1 q2 q3 q4
 have gd:=g0
 obtain ⟨Y,hY⟩ : ∃ Y,putStep c p ⟨st,gg,w0,ts,hs⟩ m=Y:=⟨_,rfl⟩
 have eg:∀ (a b:Value),p9 c p ⟨st,gg,w0,ts,hs⟩ a b=(p9L c p gg (st:Int) w0 a b).toArray:=fun _ _=>rfl
 rw [eg,hY]
 clear eg
 have x9:=blkc gd 9 _
 have x8:=blkc gd 8 _
 refine wen Tryz.func53 160 ?_
 gi_wp2
 refine wcw (rTail w0 hw0 _) ?_
 rintro e w1 ⟨rfl,rfl⟩
 clear hW1 hW2 hW3 hW4 hb1 hb2 hb3 hb4 g0 x9
 have hd:=hold_keep gd (Below.refl _ _).drew
 obtain ⟨ops',ho'⟩ : ∃ o,IntKind.u64.wrap (m.ops+1)=o:=⟨_,rfl⟩
 obtain rfl:st=5:=hk
 have z:=c.qb
 obtain ⟨hf,hhf⟩ : ∃ hf:Int,(c.q:Int) / 2=hf:=⟨_,rfl⟩
 have hfa:Aside (hf=((c.q / 2:Nat) : Int)):=by show hf=_; rw [← hhf]; omega
 have hf1:IntKind.i64.wrap hf=hf:=by have:=hfa.out; exact wrap_ok (by omega) (by omega)
 have hf2:IntKind.u32.wrap hf=hf:=by have:=hfa.out; rw [wrap32]; omega
 have hN:IntKind.u32.wrap (tlW w0 - hf)=(tlW w0 - hf) % 4294967296:=wrap32 _
 have x1d:=blkc hd 1 _
 obtain ⟨hx,-⟩:=hm.at_ (hm.lt_word hp)
 obtain ⟨x,hxe⟩ : ∃ x,ld m (c.word p)=x:=⟨_,rfl⟩
 rw [hxe] at hx
 obtain ⟨z,hz'⟩ : ∃ z,decide (x=w0)=z:=⟨_,rfl⟩
 obtain ⟨CS,hCS⟩ : ∃ CS,(if x=w0 then m.cells.set (c.word p) (mvW w0 (-((c.q / 2:Nat) : Int))) else m.cells)=CS:=⟨_,rfl⟩
 have x9d:=blkc hd 9 _
 gi_upto_region 29 with fail
 gi_cut [7] from 30 (fun s7 wx=>∃ a2 k2,s7=.bool z∧Ev.Hold ctx (H9 c p b1 b2 b3 b4 (p9L c p gg 5 w0 (.slice ta ts.length tc) (.slice ha hs.length hc)) (.slice a2 CS.length k2) CS ops' (.slice ta ts.length tc) (.slice ha hs.length hc) ts hs r) wx)
 case first =>
  have y0:=blkc (hold_up [_] hd) 0 _
  have y1:=blkc (hold_up [_] hd) 1 _
  have cL:∀ {R:List Ev.Asr} {W:World},Ev.Hold ctx (uA (.slice av m.cells.length ak) m.cells::R) W→Calls Tryz.prog 85 #[.agg #[(.slice av m.cells.length ak),.int .u64 m.ops],.int .i64 ((c.word p:Nat) : Int),.int .u64 w0,.int .u64 (mvW w0 (-((c.q / 2:Nat) : Int)))] W fun e w'=>∃ a2 k2,e=.returned (.tuple #[.agg #[(.slice a2 CS.length k2),.int .u64 ops'],.bool z])∧Ev.Hold ctx (uA (.slice a2 CS.length k2) CS::R) w':=fun {R W} hh=>by
   refine (callsIn_wide.1 (rcas_in 0 (ops:=m.ops) (by omega) hx w0 (mvW w0 (-((c.q / 2:Nat) : Int))) hh)).mono ?_
   rintro e w' ⟨al,rfl,h1⟩
   rw [hz',ho']
   rw [hCS] at h1
   obtain ⟨a2,k2,rfl⟩:=slr_val (hold_slr h1)
   exact ⟨a2,k2,rfl,h1⟩
  have cP:=fun W=>rPack (hdW w0) ((tlW w0 - hf) % 4294967296) (hdW_bd hw0) (by omega) W
  rw [show packW (hdW w0) ((tlW w0 - hf) % 4294967296)=mvW w0 (-((c.q / 2:Nat) : Int)) by rw [hfa.out]; rfl] at cP
  obtain ⟨mv,hmv⟩ : ∃ mv,mvW w0 (-((c.q / 2:Nat) : Int))=mv:=⟨_,rfl⟩
  rw [hmv] at cP cL
  clear hCS hmv
  refine wpIn_wide.2 ?_
  refine wp_region_noPanic ?_
  refine wp_region_B (fun W=>cpC c p b1 W∧W.cell? ⟨b2,0,none⟩=some (.slice av m.cells.length ak)∧W.cell? ⟨b2,1,none⟩=some (.int .u64 m.ops)∧W.cell? ⟨b1,9,none⟩=some (.int .u64 w0)) 23 (by kernel_rfl) ?_ (fun hHeld=>?_)
  ·(try dsimp only); (first | exact ⟨cpc hd,blkc (hold_up [_] hd) 0 _,blkc (hold_up [_] hd) 1 _,blkc hd 9 _⟩ | exact ⟨cpc h1,blkc (hold_up [_] h1) 0 _,blkc (hold_up [_] h1) 1 _,blkc h1 9 _⟩ | exact ⟨cpc h2,blkc (hold_up [_] h2) 0 _,blkc (hold_up [_] h2) 1 _,blkc h2 9 _⟩)
  refine takeB (i:=0) (v:=?_) (Or.inl ⟨by kernel_rfl,?_⟩) (by assumption) ?_
  rotate_left
  ·intro w hSw; (try dsimp only at hSw); go_simp; try with_reducible rfl
  try simp only [Act.put,List.setIfInBounds_toArray,List.set_cons_zero,List.set_cons_succ]
  refine takeB0 (i:=1) (v:=?_) (Or.inl ⟨by kernel_rfl,?_⟩) (by assumption) ?_
  rotate_left
  ·intro w _; go_simp; try with_reducible rfl
  try simp only [Act.put,List.setIfInBounds_toArray,List.set_cons_zero,List.set_cons_succ]
  refine takeB (i:=2) (v:=?_) (Or.inl ⟨by kernel_rfl,?_⟩) (by assumption) ?_
  rotate_left
  ·intro w hSw; (try dsimp only at hSw); go_simp; try with_reducible rfl
  try simp only [Act.put,List.setIfInBounds_toArray,List.set_cons_zero,List.set_cons_succ]
  refine takeB0 (i:=3) (v:=?_) (Or.inl ⟨by kernel_rfl,?_⟩) (by assumption) ?_
  rotate_left
  ·intro w _; go_simp; try with_reducible rfl
  try simp only [Act.put,List.setIfInBounds_toArray,List.set_cons_zero,List.set_cons_succ]
  refine takeB (i:=4) (v:=?_) (Or.inl ⟨by kernel_rfl,?_⟩) (by assumption) ?_
  rotate_left
  ·intro w hSw; (try dsimp only at hSw); go_simp; try with_reducible rfl
  try simp only [Act.put,List.setIfInBounds_toArray,List.set_cons_zero,List.set_cons_succ]
  refine takeB0 (i:=6) (v:=?_) (Or.inl ⟨by kernel_rfl,?_⟩) (by assumption) ?_
  rotate_left
  ·intro w _; go_simp; try with_reducible rfl
  try simp only [Act.put,List.setIfInBounds_toArray,List.set_cons_zero,List.set_cons_succ]
  refine takeB (i:=7) (v:=?_) (Or.inl ⟨by kernel_rfl,?_⟩) (by assumption) ?_
  rotate_left
  ·intro w hSw; (try dsimp only at hSw); go_simp; try with_reducible rfl
  try simp only [Act.put,List.setIfInBounds_toArray,List.set_cons_zero,List.set_cons_succ]
  refine takeB0 (i:=8) (v:=?_) (Or.inl ⟨by kernel_rfl,?_⟩) (by assumption) ?_
  rotate_left
  ·intro w _; go_simp; try with_reducible rfl
  try simp only [Act.put,List.setIfInBounds_toArray,List.set_cons_zero,List.set_cons_succ]
  refine takeB (i:=9) (v:=?_) (Or.inl ⟨by kernel_rfl,?_⟩) (by assumption) ?_
  rotate_left
  ·intro w hSw; (try dsimp only at hSw); go_simp; try with_reducible rfl
  try simp only [Act.put,List.setIfInBounds_toArray,List.set_cons_zero,List.set_cons_succ]
  refine takeB0 (i:=11) (v:=?_) (Or.inl ⟨by kernel_rfl,?_⟩) (by assumption) ?_
  rotate_left
  ·intro w _; go_simp; try with_reducible rfl
  try simp only [Act.put,List.setIfInBounds_toArray,List.set_cons_zero,List.set_cons_succ]
  refine takeB0 (i:=12) (v:=?_) (Or.inl ⟨by kernel_rfl,?_⟩) (by assumption) ?_
  rotate_left
  ·intro w _; go_simp; try with_reducible rfl
  try simp only [Act.put,List.setIfInBounds_toArray,List.set_cons_zero,List.set_cons_succ]
  refine takeB0 (i:=13) (v:=?_) (Or.inl ⟨by kernel_rfl,?_⟩) (by assumption) ?_
  rotate_left
  ·intro w _; go_simp; try with_reducible rfl
  try simp only [Act.put,List.setIfInBounds_toArray,List.set_cons_zero,List.set_cons_succ]
  refine takeB (i:=14) (v:=?_) (Or.inl ⟨by kernel_rfl,?_⟩) (by assumption) ?_
  rotate_left
  ·intro w hSw; (try dsimp only at hSw); go_simp; try with_reducible rfl
  try simp only [Act.put,List.setIfInBounds_toArray,List.set_cons_zero,List.set_cons_succ]
  refine takeB0 (i:=15) (v:=?_) (Or.inl ⟨by kernel_rfl,?_⟩) (by assumption) ?_
  rotate_left
  ·intro w _; go_simp; try with_reducible rfl
  try simp only [Act.put,List.setIfInBounds_toArray,List.set_cons_zero,List.set_cons_succ]
  refine takeB0 (i:=16) (v:=?_) (Or.inl ⟨by kernel_rfl,?_⟩) (by assumption) ?_
  rotate_left
  ·intro w _; go_simp; try with_reducible rfl
  try simp only [Act.put,List.setIfInBounds_toArray,List.set_cons_zero,List.set_cons_succ]
  refine takeB0 (i:=17) (v:=?_) (Or.inl ⟨by kernel_rfl,?_⟩) (by assumption) ?_
  rotate_left
  ·intro w _; go_simp; try with_reducible rfl
  try simp only [Act.put,List.setIfInBounds_toArray,List.set_cons_zero,List.set_cons_succ]
  refine nextB (i:=5) (ho:=rfl) (fun K hK=>?_)
  go_simp
  (have hcon:=rWord_ok c p hp W4.drew; (with_reducible refine hcon.mono ?_); clear hcon; rintro e w1 ⟨rfl,b1'⟩; have h1:=hold_keep hd b1'; have z0:=blkc (hold_up [_] h1) 0 _; have z1:=blkc (hold_up [_] h1) 1 _)
  first | refine hK.out _ _ ?_ (fun hHeld=>?_) | (go_wp2_with fail; refine hK.out _ _ ?_ (fun hHeld=>?_))
  ·(try dsimp only); (first | exact ⟨cpc hd,blkc (hold_up [_] hd) 0 _,blkc (hold_up [_] hd) 1 _,blkc hd 9 _⟩ | exact ⟨cpc h1,blkc (hold_up [_] h1) 0 _,blkc (hold_up [_] h1) 1 _,blkc h1 9 _⟩ | exact ⟨cpc h2,blkc (hold_up [_] h2) 0 _,blkc (hold_up [_] h2) 1 _,blkc h2 9 _⟩)
  clear hK K
  try simp only [Act.put,List.setIfInBounds_toArray,List.set_cons_zero,List.set_cons_succ]
  refine nextB (i:=10) (ho:=rfl) (fun K hK=>?_)
  go_simp
  (have hcon:=rHead w0 hw0 w1; (with_reducible refine hcon.mono ?_); clear hcon; rintro e w1' ⟨rfl,hw1⟩; subst hw1)
  first | refine hK.out _ _ ?_ (fun hHeld=>?_) | (go_wp2_with fail; refine hK.out _ _ ?_ (fun hHeld=>?_))
  ·(try dsimp only); (first | exact ⟨cpc hd,blkc (hold_up [_] hd) 0 _,blkc (hold_up [_] hd) 1 _,blkc hd 9 _⟩ | exact ⟨cpc h1,blkc (hold_up [_] h1) 0 _,blkc (hold_up [_] h1) 1 _,blkc h1 9 _⟩ | exact ⟨cpc h2,blkc (hold_up [_] h2) 0 _,blkc (hold_up [_] h2) 1 _,blkc h2 9 _⟩)
  clear hK K
  try simp only [Act.put,List.setIfInBounds_toArray,List.set_cons_zero,List.set_cons_succ]
  refine nextB (i:=18) (ho:=rfl) (fun K hK=>?_)
  go_simp
  (have hcon:=cP w1; (with_reducible refine hcon.mono ?_); clear hcon; rintro e w1' ⟨rfl,hw1⟩; subst hw1)
  first | refine hK.out _ _ ?_ (fun hHeld=>?_) | (go_wp2_with fail; refine hK.out _ _ ?_ (fun hHeld=>?_))
  ·(try dsimp only); (first | exact ⟨cpc hd,blkc (hold_up [_] hd) 0 _,blkc (hold_up [_] hd) 1 _,blkc hd 9 _⟩ | exact ⟨cpc h1,blkc (hold_up [_] h1) 0 _,blkc (hold_up [_] h1) 1 _,blkc h1 9 _⟩ | exact ⟨cpc h2,blkc (hold_up [_] h2) 0 _,blkc (hold_up [_] h2) 1 _,blkc h2 9 _⟩)
  clear hK K
  try simp only [Act.put,List.setIfInBounds_toArray,List.set_cons_zero,List.set_cons_succ]
  refine nextB (i:=19) (ho:=rfl) (fun K hK=>?_)
  go_simp
  (have hcon:=cL (hold_up [_,_,_,_] h1); (with_reducible refine hcon.mono ?_); clear hcon; rintro e w2 ⟨a2,k2,rfl,h2⟩; replace h2:=hold_dn [_,_,_,_] h2; have x20:=blkc (hold_up [_] h2) 0 _; have x21:=blkc (hold_up [_] h2) 1 _; have f20:=froz_of (hold_blk (hold_up [_] h2)) 0; have f21:=froz_of (hold_blk (hold_up [_] h2)) 1; have h3:=hold_dn [_] (hold_set 1 (.int .u64 ops') (hold_set 0 (.slice a2 CS.length k2) (hold_up [_] h2))))
  first | refine hK.out _ _ ?_ (fun hHeld=>?_) | (go_wp2_with fail; refine hK.out _ _ ?_ (fun hHeld=>?_))
  ·(try dsimp only); (first | exact ⟨cpc hd,blkc (hold_up [_] hd) 0 _,blkc (hold_up [_] hd) 1 _,blkc hd 9 _⟩ | exact ⟨cpc h1,blkc (hold_up [_] h1) 0 _,blkc (hold_up [_] h1) 1 _,blkc h1 9 _⟩ | exact ⟨cpc h2,blkc (hold_up [_] h2) 0 _,blkc (hold_up [_] h2) 1 _,blkc h2 9 _⟩)
  clear hK K
  try simp only [Act.put,List.setIfInBounds_toArray,List.set_cons_zero,List.set_cons_succ]
  refine takeB0 (i:=20) (v:=?_) (Or.inl ⟨by kernel_rfl,?_⟩) (by assumption) ?_
  rotate_left
  ·intro w _; go_simp; try with_reducible rfl
  try simp only [Act.put,List.setIfInBounds_toArray,List.set_cons_zero,List.set_cons_succ]
  refine takeB0 (i:=21) (v:=?_) (Or.inl ⟨by kernel_rfl,?_⟩) (by assumption) ?_
  rotate_left
  ·intro w _; go_simp; try with_reducible rfl
  try simp only [Act.put,List.setIfInBounds_toArray,List.set_cons_zero,List.set_cons_succ]
  refine takeB0 (i:=22) (v:=?_) (Or.inl ⟨by kernel_rfl,?_⟩) (by assumption) ?_
  rotate_left
  ·intro w _; go_simp; try with_reducible rfl
  try simp only [Act.put,List.setIfInBounds_toArray,List.set_cons_zero,List.set_cons_succ]
  refine lastB (i:=23) (ho:=rfl) (fun K hK=>?_)
  go_simp
  refine hK.out _ _ ?_
  clear hK K
  try simp only [Act.put,List.setIfInBounds_toArray,List.set_cons_zero,List.set_cons_succ]
  refine lastB (i:=24) (ho:=rfl) (fun K hK=>?_)
  go_simp
  refine hK.out _ _ ?_
  clear hK K
  try simp only [Act.put,List.setIfInBounds_toArray,List.set_cons_zero,List.set_cons_succ]
  refine (doneB (h:=?_) (hr:=by kernel_rfl)) _
  refine NoPanic.normal ?_
  all_goals
   gi_wp2
   gi_meet
   case rel=>exact ⟨_,_,rfl,h3⟩
 case rest =>
  obtain ⟨a2,k2,rfl,g1⟩:=hcut
  clear hd gd x9d
  have x8:=blkc g1 8 _
  have f8:=froz_of (hold_blk g1) 8
  have g2:=hold_set 8 (.int .i64 1) g1
  by_cases he:x=w0
  ·obtain rfl:true=z:=by rw [← hz']; simp [he]
   have y8:=blkc g2 8 _
   have i8:=froz_of (hold_blk g2) 8
   have g3:Ev.Hold ctx (H9 c p b1 b2 b3 b4 (p9L c p gg 0 w0 (.slice ta ts.length tc) (.slice ha hs.length hc)) (.slice a2 CS.length k2) CS ops' (.slice ta ts.length tc) (.slice ha hs.length hc) ts hs r) _:=hold_set 8 (.int .i64 0) g2
   have ho:Aside (Y=(⟨0,gg,w0,ts,ts++[gg]⟩,⟨CS,ops'⟩)):=by show Y=_; rw [← hY]; simp only [putStep,ge_iff_le,← hCS,hxe,if_pos he,MemM.tick,MemM.put,ho']
   clear hCS hz'
   gi_upto_region 34 with fail
   obtain ⟨V,hV,v1⟩:=hname g3
   rw [← hV]
   clear hV
   obtain ⟨a5,k5,w5,r5,v2⟩:=aapp (xs:=[]) (t := 35) rfl (by simp; omega) ((hsel [_,_,_,_,_,_] v1 [5,0,1,2,3,4]).nilSl (e := 3) (sz:=1))
   rw [List.nil_append] at r5 v2
   obtain ⟨a6,k6,w6,r6,v3⟩:=iapp1 gg (by omega) v2
   have x10V:=blkc v1 10 _
   clear x8 f8 y8 i8 g1 g2 g3
   have x7:=blkc (hold_up [_,_] v2) 7 _
   have v5:=hold_up [_,_] v3
   have x11:=blkc v5 11 _
   have f11:=froz_of (hold_blk v5) 11
   have v6:=hold_set 11 (.slice a6 (ts.length+1) k6) v5
   have v8:Ev.Hold ctx (H9 c p b1 b2 b3 b4 (p9L c p gg 0 w0 (.slice ta ts.length tc) (.slice a6 (ts.length+1) k6)) (.slice a2 CS.length k2) CS ops' (.slice ta ts.length tc) (.slice a6 (ts.length+1) k6) ts (ts++[gg]) r) _:=hsel [_,_,_,_,_,_,_,_] v6 [0,3,4,5,6,2,1]
   gi_upto_region 35 with (gi_at_builtin; refine wpListIn_append_run rfl _ _ _ rfl r5 ?_)
   gi_upto_region 36 with (gi_at_builtin; refine wpListIn_append_run rfl _ _ _ rfl r6 ?_)
   gi_upto_region 36 with fail
   refine wpIn_wide.2 (reg2 v8 (fun w' hw'=>?_) Tryz.underlying106 Tryz.underlying53 rfl rfl rfl rfl rfl rfl rfl rfl rfl rfl rfl)
   gi_wp2
   exact post_cell2 rfl rfl rfl rfl (lv_all (hold_up [_,_] hw') Tryz.underlying106 rfl (by kernel_rfl)) (lv_all (hold_up [_,_,_] hw') Tryz.underlying53 rfl (by kernel_rfl)) (by rw [ho.out]; first | exact ⟨_,_,_,rfl,hold_drop (r:=[_,_,_,_]) hw'⟩ | exact ⟨_,_,⟨_,rfl⟩,hold_drop (r:=[_,_,_,_]) hw'⟩ | exact ⟨_,⟨_,_,rfl⟩,hold_drop (r:=[_,_,_,_]) hw'⟩)
  ·obtain rfl:false=z:=by rw [← hz']; simp [he]
   have g5:Ev.Hold ctx (H9 c p b1 b2 b3 b4 (p9L c p gg 1 w0 (.slice ta ts.length tc) (.slice ha hs.length hc)) (.slice a2 CS.length k2) CS ops' (.slice ta ts.length tc) (.slice ha hs.length hc) ts hs r) _:=g2
   have ho:Aside (Y=(⟨1,gg,w0,ts,hs⟩,⟨CS,ops'⟩)):=by show Y=_; rw [← hY]; simp only [putStep,ge_iff_le,← hCS,hxe,if_neg he,MemM.tick,MemM.put,ho']
   clear hCS hz'
   gi_upto_region 36 with fail
   refine wpIn_wide.2 (reg2 g5 (fun w' hw'=>?_) Tryz.underlying106 Tryz.underlying53 rfl rfl rfl rfl rfl rfl rfl rfl rfl rfl rfl)
   gi_wp2
   exact post_cell2 rfl rfl rfl rfl (lv_all (hold_up [_,_] hw') Tryz.underlying106 rfl (by kernel_rfl)) (lv_all (hold_up [_,_,_] hw') Tryz.underlying53 rfl (by kernel_rfl)) (by rw [ho.out]; first | exact ⟨_,_,_,rfl,hold_drop (r:=[_,_,_,_]) hw'⟩ | exact ⟨_,_,⟨_,rfl⟩,hold_drop (r:=[_,_,_,_]) hw'⟩ | exact ⟨_,⟨_,_,rfl⟩,hold_drop (r:=[_,_,_,_]) hw'⟩)
end
end Go.Proofs.YtkmccgombmogmaaGreat
namespace Go.Proofs.YtkmccgombmogmaaGreat
open Go.RowKit
set_option linter.unusedVariables false
set_option linter.unusedSimpArgs false
set_option maxRecDepth 8000
section
variable {ctx:Ev.Ctx} {w:World} {r:List Ev.Asr} {c:Cfg} {p:Nat} {m:MemM} {rv tk hd:Value}
theorem put9H (n:Nat) (hp:p < c.n) {x:PutS} (hx:PutOk c x) (h0:x.st ≠ 0) (hm:MemOk c m) (h:Ev.Hold ctx (uA rv m.cells::isA tk x.ts::isA hd x.hs::r) w) : CallsIn Fence.wide n Tryz.prog 53 #[.agg (p9 c p x tk hd),.agg #[rv,.int .u64 m.ops]] w fun e w'=>∃ v tk' hd',e=.returned (.tuple #[.agg (p9 c p (putStep c p x m).1 tk' hd'),.agg #[v,.int .u64 (putStep c p x m).2.ops]])∧Ev.Hold ctx (uA v (putStep c p x m).2.cells::isA tk' (putStep c p x m).1.ts::isA hd' (putStep c p x m).1.hs::r) w':=by
 have hst:=hx.st
 have hs:x.st=1∨x.st=2∨x.st=3∨x.st=4∨x.st=5:=by omega
 rcases hs with hk | hk | hk | hk | hk
 ·exact put9_1 n hp hx hk hm h
 ·exact put9_2 n hp hx hk hm h
 ·exact put9_3 n hp hx hk hm h
 ·exact put9_4 n hp hx hk hm h
 ·exact put9_5 n hp hx hk hm h
end
end Go.Proofs.YtkmccgombmogmaaGreat
namespace Go.Proofs.YtkmccgombmogmaaGreat
open Go.RowKit
set_option linter.unusedVariables false
set_option linter.unusedSimpArgs false
set_option maxRecDepth 8000
section
variable {ctx:Ev.Ctx} {w:World} {r:List Ev.Asr} {c:Cfg} {p:Nat} {m:MemM} {rv lf:Value}
set_option maxHeartbeats 8000000 in
theorem lay9_1 (n:Nat) (hp:p < c.n) {x:LayS} (hx:LayOk x) (hk:x.st=1) (hm:MemOk c m) (h:Ev.Hold ctx (uA rv m.cells::isA lf x.ls::r) w) : Lay9 ctx r c p m rv lf x n w:=by
 have h0:x.st ≠ 0:=by omega
 unfold Lay9
 obtain ⟨av,ak,rfl⟩:=slr_val (hold_slr h)
 obtain ⟨la,lc,rfl⟩:=slr_val (hold_slr (hold_drop (r:=[_]) h))
 have hst:=hx.st
 have hw0:U64 x.w:=hx.w
 have hls:=hx.ls
 have hb:=hx.b
 have hel:=hx.el
 have htwo:=hx.two
 have hle:=hx.le
 have hne:x.ls.length ≠ 0:=fun e=>hx.ne h0 (List.eq_nil_of_length_eq_zero e)
 obtain ⟨st,w0,k,n0,ls⟩:=x
 dsimp only at hst hw0 h0 hls hb hel htwo hle hne
 have hbig:=hm.big
 have hneb:((ls.length:Int) == 0)=false:=by
  have:¬ (ls.length:Int)=0:=by omega
  simpa using this
 obtain ⟨b1,W1,hb1,hW1,q1⟩:=newN (l9L c p (st:Int) w0 (n0:Int) (k:Int) (.slice la ls.length lc)) 110 h
 obtain ⟨b2,W2,hb2,hW2,q2⟩:=newN [.slice av m.cells.length ak,.int .u64 m.ops] 53 q1
 obtain ⟨b3,W3,hb3,hW3,q3⟩:=newN l9Z 110 q2
 obtain ⟨b4,W4,hb4,hW4,q4⟩:=newN [.slice none 0 0,.int .u64 0] 53 q3
 have gd:Ev.Hold ctx (HL c p b1 b2 b3 b4 (l9L c p (st:Int) w0 (n0:Int) (k:Int) (.slice la ls.length lc)) (.slice av m.cells.length ak) m.cells m.ops (.slice la ls.length lc) ls r) W4:=hsel [_,_,_,_,_] q4 [3,2,1,0,4]
 clear q1 q2 q3 q4
 obtain ⟨Y,hY⟩ : ∃ Y,layStep c p ⟨st,w0,k,n0,ls⟩ m=Y:=⟨_,rfl⟩
 have eg:l9 c p ⟨st,w0,k,n0,ls⟩ (.slice la ls.length lc)=(l9L c p (st:Int) w0 (n0:Int) (k:Int) (.slice la ls.length lc)).toArray:=rfl
 rw [eg,hY]
 clear eg
 have x7:=blkc gd 7 _
 have x8:=blkc gd 8 _
 refine wen Tryz.func111 129 ?_
 gi_upto_region 1 with fail
 clear hW1 hW2 hW3 hW4 hb1 hb2 hb3 hb4
 have hd:=hold_keep gd (Below.refl _ _).drew
 obtain ⟨ops',ho'⟩ : ∃ o,IntKind.u64.wrap (m.ops+1)=o:=⟨_,rfl⟩
 obtain rfl:st=1:=hk
 obtain ⟨x,hxe⟩ : ∃ x,ld m (c.word p)=x:=⟨_,rfl⟩
 obtain ⟨hx,-⟩:=hm.at_ (hm.lt_word hp)
 have hu:=(hm.get (hm.lt_word hp)).2
 rw [hxe] at hx hu
 have hq:=c.qb
 have hq1:IntKind.u32.wrap (c.q:Int)=(c.q:Int):=by rw [wrap32]; omega
 gi_upto_region 9 with fail
 clear x7 x8
 gi_cut [] from 10 (fun wx=>Ev.Hold ctx (HL c p b1 b2 b3 b4 (l9L c p 1 x (n0:Int) (k:Int) (.slice la ls.length lc)) (.slice av m.cells.length ak) m.cells ops' (.slice la ls.length lc) ls r) wx)
 case first =>
  have cL:∀ {R:List Ev.Asr} {W:World},Ev.Hold ctx (uA (.slice av m.cells.length ak) m.cells::R) W→_:=fun {R W} hh=>callsIn_wide.1 (rload_in (ctx:=ctx) (r:=R) (w:=W) 0 (ops:=m.ops) hx hh)
  rw [ho'] at cL
  have y0:=blkc (hold_up [_] hd) 0 _
  have y1:=blkc (hold_up [_] hd) 1 _
  refine wpIn_wide.2 ?_
  refine wp_region_noPanic ?_
  refine wp_region_B (fun W=>cpC c p b1 W∧W.cell? ⟨b2,0,none⟩=some (.slice av m.cells.length ak)∧W.cell? ⟨b2,1,none⟩=some (.int .u64 m.ops)) 10 (by kernel_rfl) ?_ (fun hHeld=>?_)
  ·(try dsimp only); (first | exact ⟨cpc hd,blkc (hold_up [_] hd) 0 _,blkc (hold_up [_] hd) 1 _⟩ | exact ⟨cpc h1,blkc (hold_up [_] h1) 0 _,blkc (hold_up [_] h1) 1 _⟩ | exact ⟨cpc h2,blkc (hold_up [_] h2) 0 _,blkc (hold_up [_] h2) 1 _⟩)
  refine takeB (i:=0) (v:=?_) (Or.inl ⟨by kernel_rfl,?_⟩) (by assumption) ?_
  rotate_left
  ·intro w hSw; (try dsimp only at hSw); go_simp; try with_reducible rfl
  try simp only [Act.put,List.setIfInBounds_toArray,List.set_cons_zero,List.set_cons_succ]
  refine takeB0 (i:=1) (v:=?_) (Or.inl ⟨by kernel_rfl,?_⟩) (by assumption) ?_
  rotate_left
  ·intro w _; go_simp; try with_reducible rfl
  try simp only [Act.put,List.setIfInBounds_toArray,List.set_cons_zero,List.set_cons_succ]
  refine takeB (i:=2) (v:=?_) (Or.inl ⟨by kernel_rfl,?_⟩) (by assumption) ?_
  rotate_left
  ·intro w hSw; (try dsimp only at hSw); go_simp; try with_reducible rfl
  try simp only [Act.put,List.setIfInBounds_toArray,List.set_cons_zero,List.set_cons_succ]
  refine takeB0 (i:=3) (v:=?_) (Or.inl ⟨by kernel_rfl,?_⟩) (by assumption) ?_
  rotate_left
  ·intro w _; go_simp; try with_reducible rfl
  try simp only [Act.put,List.setIfInBounds_toArray,List.set_cons_zero,List.set_cons_succ]
  refine takeB (i:=4) (v:=?_) (Or.inl ⟨by kernel_rfl,?_⟩) (by assumption) ?_
  rotate_left
  ·intro w hSw; (try dsimp only at hSw); go_simp; try with_reducible rfl
  try simp only [Act.put,List.setIfInBounds_toArray,List.set_cons_zero,List.set_cons_succ]
  refine nextB (i:=5) (ho:=rfl) (fun K hK=>?_)
  go_simp
  (have hcon:=rWord_ok c p hp W4.drew; (with_reducible refine hcon.mono ?_); clear hcon; rintro e w1 ⟨rfl,b1'⟩; have h1:=hold_keep hd b1'; have z0:=blkc (hold_up [_] h1) 0 _; have z1:=blkc (hold_up [_] h1) 1 _)
  first | refine hK.out _ _ ?_ (fun hHeld=>?_) | (go_wp2_with fail; refine hK.out _ _ ?_ (fun hHeld=>?_))
  ·(try dsimp only); (first | exact ⟨cpc hd,blkc (hold_up [_] hd) 0 _,blkc (hold_up [_] hd) 1 _⟩ | exact ⟨cpc h1,blkc (hold_up [_] h1) 0 _,blkc (hold_up [_] h1) 1 _⟩ | exact ⟨cpc h2,blkc (hold_up [_] h2) 0 _,blkc (hold_up [_] h2) 1 _⟩)
  clear hK K
  try simp only [Act.put,List.setIfInBounds_toArray,List.set_cons_zero,List.set_cons_succ]
  refine nextB (i:=6) (ho:=rfl) (fun K hK=>?_)
  go_simp
  (have hcon:=cL (hold_up [_,_,_,_] h1); (with_reducible refine hcon.mono ?_); clear hcon; rintro e w2 ⟨rfl,h2⟩; replace h2:=hold_dn [_,_,_,_] h2; have x20:=blkc (hold_up [_] h2) 0 _; have x21:=blkc (hold_up [_] h2) 1 _; have f20:=froz_of (hold_blk (hold_up [_] h2)) 0; have f21:=froz_of (hold_blk (hold_up [_] h2)) 1; have h3:=hold_dn [_] (hold_set 1 (.int .u64 ops') (hold_set 0 (.slice av m.cells.length ak) (hold_up [_] h2))); have x9:=blkc h2 9 _; have f9:=froz_of (hold_blk h2) 9; have h4:=hold_set 9 (.int .u64 x) h3)
  first | refine hK.out _ _ ?_ (fun hHeld=>?_) | (go_wp2_with fail; refine hK.out _ _ ?_ (fun hHeld=>?_))
  ·(try dsimp only); (first | exact ⟨cpc hd,blkc (hold_up [_] hd) 0 _,blkc (hold_up [_] hd) 1 _⟩ | exact ⟨cpc h1,blkc (hold_up [_] h1) 0 _,blkc (hold_up [_] h1) 1 _⟩ | exact ⟨cpc h2,blkc (hold_up [_] h2) 0 _,blkc (hold_up [_] h2) 1 _⟩)
  clear hK K
  try simp only [Act.put,List.setIfInBounds_toArray,List.set_cons_zero,List.set_cons_succ]
  refine takeB0 (i:=7) (v:=?_) (Or.inl ⟨by kernel_rfl,?_⟩) (by assumption) ?_
  rotate_left
  ·intro w _; go_simp; try with_reducible rfl
  try simp only [Act.put,List.setIfInBounds_toArray,List.set_cons_zero,List.set_cons_succ]
  refine takeB0 (i:=8) (v:=?_) (Or.inl ⟨by kernel_rfl,?_⟩) (by assumption) ?_
  rotate_left
  ·intro w _; go_simp; try with_reducible rfl
  try simp only [Act.put,List.setIfInBounds_toArray,List.set_cons_zero,List.set_cons_succ]
  refine takeB0 (i:=9) (v:=?_) (Or.inl ⟨by kernel_rfl,?_⟩) (by assumption) ?_
  rotate_left
  ·intro w _; go_simp; try with_reducible rfl
  try simp only [Act.put,List.setIfInBounds_toArray,List.set_cons_zero,List.set_cons_succ]
  refine lastB (i:=10) (ho:=rfl) (fun K hK=>?_)
  go_simp
  refine hK.out _ _ ?_
  clear hK K
  try simp only [Act.put,List.setIfInBounds_toArray,List.set_cons_zero,List.set_cons_succ]
  refine lastB (i:=11) (ho:=rfl) (fun K hK=>?_)
  go_simp
  refine hK.out _ _ ?_
  clear hK K
  try simp only [Act.put,List.setIfInBounds_toArray,List.set_cons_zero,List.set_cons_succ]
  refine lastB (i:=12) (ho:=rfl) (fun K hK=>?_)
  go_simp
  refine hK.out _ _ ?_
  clear hK K
  try simp only [Act.put,List.setIfInBounds_toArray,List.set_cons_zero,List.set_cons_succ]
  refine (doneB (h:=?_) (hr:=by kernel_rfl)) _
  refine NoPanic.normal ?_
  all_goals
   gi_wp2
   gi_meet
   case rel=>exact h4
 case rest =>
  have g1:=hcut
  clear hcut gd hd
  have x11:=blkc g1 11 _
  have f11:=froz_of (hold_blk g1) 11
  have g2:=hold_set 11 (.int .i64 0) g1
  have x10:=blkc g2 10 _
  have f10:=froz_of (hold_blk g2) 10
  have g3:Ev.Hold ctx (HL c p b1 b2 b3 b4 (l9L c p 1 x 0 0 (.slice la ls.length lc)) (.slice av m.cells.length ak) m.cells ops' (.slice la ls.length lc) ls r) _:=hold_set 10 (.int .i64 0) g2
  gi_upto_region 12 with fail
  obtain ⟨V,hV,g4⟩:=hname g3
  rw [← hV]
  clear hV x11 x10 f11 f10 g1 g2 g3
  have g5:=hold_keep g4 (Below.refl _ _).drew
  refine wpIn_wide.2 ?_
  go_region_held3 (fun W=>cpC c p b1 W∧W.cell? ⟨b1,9,none⟩=some (.int .u64 x)) (exact ⟨cpc g5,blkc g5 9 _⟩) ((have hcon:=rSize x hu V.drew; (with_reducible refine hcon.mono ?_); clear hcon; rintro e w1 ⟨rfl,rfl⟩))
  obtain ⟨V2,hV2,g50⟩:=hname g5
  rw [← hV2]
  clear hV2 g5
  by_cases hz:szW x < (c.q:Int)
  ·have hsb:=szW_bd x
   have er:=room_some (ls:=ls) hz
   have hr:¬ roomN c ls x=0:=by omega
   have ho:Aside (Y=(⟨2,x,0,roomN c ls x,ls⟩,⟨m.cells,ops'⟩)):=by show Y=_; rw [← hY]; simp only [layStep,hxe,if_neg hr,MemM.tick,MemM.put,ho']
   obtain ⟨rm,hrm⟩ : ∃ rm,roomN c ls x=rm:=⟨_,rfl⟩
   rw [hrm] at ho er hr
   have e1:IntKind.i64.wrap (szW x)=szW x:=wrap_ok (by omega) (by omega)
   have e2:IntKind.i64.wrap ((c.q:Int) - szW x)=(c.q:Int) - szW x:=wrap_ok (by omega) (by omega)
   clear hrm
   replace er:=er.symm
   gi_upto_region 13 with fail
   have g6:=hold_keep g50 (Below.refl _ _).drew
   have y10:=blkc g6 10 _
   have i10:=froz_of (hold_blk g6) 10
   have g7:=hold_set 10 (.int .i64 (rm:Int)) g6
   refine wpIn_wide.2 ?_
   go_region_held3 (fun W=>cpC c p b1 W∧W.cell? ⟨b1,9,none⟩=some (.int .u64 x)∧W.cell? ⟨b1,7,none⟩=some (.slice la ls.length lc)) ((first | exact ⟨cpc g6,blkc g6 9 _,blkc g6 7 _⟩ | exact ⟨cpc g7,blkc g7 9 _,blkc g7 7 _⟩ | fail)) ((have hcon:=rSize x hu V2.drew; (with_reducible refine hcon.mono ?_); clear hcon; rintro e w1 ⟨rfl,rfl⟩))
   obtain ⟨V3,hV3,g9⟩:=hname (show Ev.Hold ctx _ (V2.setCell ⟨b1,10,none⟩ (.int .i64 (rm:Int))).drew from g7)
   rw [← hV3]
   clear hV3 y10 i10
   have y8:=blkc g9 8 _
   have i8:=froz_of (hold_blk g9) 8
   have g8:Ev.Hold ctx (HL c p b1 b2 b3 b4 (l9L c p 2 x (rm:Int) 0 (.slice la ls.length lc)) (.slice av m.cells.length ak) m.cells ops' (.slice la ls.length lc) ls r) _:=hold_set 8 (.int .i64 2) g9
   have z10:=blkc g8 10 _
   have hb:((rm:Int) == 0)=false:=by simp; omega
   clear er
   gi_upto_region 28 with fail
   refine wpIn_wide.2 (reg2 g8 (fun w' hw'=>?_) Tryz.underlying110 Tryz.underlying53 rfl rfl rfl rfl rfl rfl rfl rfl rfl rfl rfl)
   gi_wp2
   exact post_cell2 rfl rfl rfl rfl (lv_all (hold_up [_,_] hw') Tryz.underlying110 rfl (by kernel_rfl)) (lv_all (hold_up [_,_,_] hw') Tryz.underlying53 rfl (by kernel_rfl)) (by rw [ho.out]; first | exact ⟨_,_,rfl,hold_drop (r:=[_,_,_,_]) hw'⟩ | exact ⟨_,⟨_,rfl⟩,hold_drop (r:=[_,_,_,_]) hw'⟩)
  ·have hr:=room_full (ls:=ls) hz
   have ho:Aside (Y=(⟨0,x,0,0,ls⟩,⟨m.cells,ops'⟩)):=by show Y=_; rw [← hY]; simp only [layStep,hxe,hr,↓reduceIte,MemM.tick,MemM.put,ho']
   have y8:=blkc g50 8 _
   have i8:=froz_of (hold_blk g50) 8
   have g6:=hold_set 8 (.int .i64 2) g50
   have y10:=blkc g6 10 _
   have z8:=blkc g6 8 _
   have j8:=froz_of (hold_blk g6) 8
   have g7:Ev.Hold ctx (HL c p b1 b2 b3 b4 (l9L c p 0 x 0 0 (.slice la ls.length lc)) (.slice av m.cells.length ak) m.cells ops' (.slice la ls.length lc) ls r) _:=hold_set 8 (.int .i64 0) g6
   gi_upto_region 28 with fail
   refine wpIn_wide.2 (reg2 g7 (fun w' hw'=>?_) Tryz.underlying110 Tryz.underlying53 rfl rfl rfl rfl rfl rfl rfl rfl rfl rfl rfl)
   gi_wp2
   exact post_cell2 rfl rfl rfl rfl (lv_all (hold_up [_,_] hw') Tryz.underlying110 rfl (by kernel_rfl)) (lv_all (hold_up [_,_,_] hw') Tryz.underlying53 rfl (by kernel_rfl)) (by rw [ho.out]; first | exact ⟨_,_,rfl,hold_drop (r:=[_,_,_,_]) hw'⟩ | exact ⟨_,⟨_,rfl⟩,hold_drop (r:=[_,_,_,_]) hw'⟩)
end
end Go.Proofs.YtkmccgombmogmaaGreat
namespace Go.Proofs.YtkmccgombmogmaaGreat
open Go.RowKit
set_option linter.unusedVariables false
set_option linter.unusedSimpArgs false
set_option maxRecDepth 8000
section
variable {ctx:Ev.Ctx} {w:World} {r:List Ev.Asr} {c:Cfg} {p:Nat} {m:MemM} {rv lf:Value}
set_option maxHeartbeats 8000000 in
theorem lay9_2 (n:Nat) (hp:p < c.n) {x:LayS} (hx:LayOk x) (hk:x.st=2) (hm:MemOk c m) (h:Ev.Hold ctx (uA rv m.cells::isA lf x.ls::r) w) : Lay9 ctx r c p m rv lf x n w:=by
 have h0:x.st ≠ 0:=by omega
 unfold Lay9
 obtain ⟨av,ak,rfl⟩:=slr_val (hold_slr h)
 obtain ⟨la,lc,rfl⟩:=slr_val (hold_slr (hold_drop (r:=[_]) h))
 have hst:=hx.st
 have hw0:U64 x.w:=hx.w
 have hls:=hx.ls
 have hb:=hx.b
 have hel:=hx.el
 have htwo:=hx.two
 have hle:=hx.le
 have hne:x.ls.length ≠ 0:=fun e=>hx.ne h0 (List.eq_nil_of_length_eq_zero e)
 obtain ⟨st,w0,k,n0,ls⟩:=x
 dsimp only at hst hw0 h0 hls hb hel htwo hle hne
 have hbig:=hm.big
 have hneb:((ls.length:Int) == 0)=false:=by
  have:¬ (ls.length:Int)=0:=by omega
  simpa using this
 obtain ⟨b1,W1,hb1,hW1,q1⟩:=newN (l9L c p (st:Int) w0 (n0:Int) (k:Int) (.slice la ls.length lc)) 110 h
 obtain ⟨b2,W2,hb2,hW2,q2⟩:=newN [.slice av m.cells.length ak,.int .u64 m.ops] 53 q1
 obtain ⟨b3,W3,hb3,hW3,q3⟩:=newN l9Z 110 q2
 obtain ⟨b4,W4,hb4,hW4,q4⟩:=newN [.slice none 0 0,.int .u64 0] 53 q3
 have gd:Ev.Hold ctx (HL c p b1 b2 b3 b4 (l9L c p (st:Int) w0 (n0:Int) (k:Int) (.slice la ls.length lc)) (.slice av m.cells.length ak) m.cells m.ops (.slice la ls.length lc) ls r) W4:=hsel [_,_,_,_,_] q4 [3,2,1,0,4]
 clear q1 q2 q3 q4
 obtain ⟨Y,hY⟩ : ∃ Y,layStep c p ⟨st,w0,k,n0,ls⟩ m=Y:=⟨_,rfl⟩
 have eg:l9 c p ⟨st,w0,k,n0,ls⟩ (.slice la ls.length lc)=(l9L c p (st:Int) w0 (n0:Int) (k:Int) (.slice la ls.length lc)).toArray:=rfl
 rw [eg,hY]
 clear eg
 have x7:=blkc gd 7 _
 have x8:=blkc gd 8 _
 refine wen Tryz.func111 129 ?_
 gi_upto_region 1 with fail
 clear hW1 hW2 hW3 hW4 hb1 hb2 hb3 hb4
 have hd:=hold_keep gd (Below.refl _ _).drew
 obtain ⟨ops',ho'⟩ : ∃ o,IntKind.u64.wrap (m.ops+1)=o:=⟨_,rfl⟩
 obtain rfl:st=2:=hk
 have k1:k < n0:=htwo rfl
 have k2:n0≤ls.length:=hle (.inl rfl)
 obtain ⟨e1,e2⟩:=hel rfl
 obtain ⟨g,hg⟩ : ∃ g,ls.getD k 0=g:=⟨_,rfl⟩
 rw [hg] at e1 e2
 have u1:IntKind.u64.wrap g=g:=by rw [IntKind.wrap_u64]; have:=e2.1; have:=e2.2; omega
 have u2:IntKind.u32.wrap (k:Int)=(k:Int):=by rw [wrap32]; omega
 obtain ⟨J,hJ⟩ : ∃ J,(tlW w0+(k:Int)) % 4294967296=J:=⟨_,rfl⟩
 have u3:IntKind.u32.wrap (tlW w0+(k:Int))=J:=by rw [wrap32,hJ]
 have u4:IntKind.i64.wrap ((k:Int)+1)=(k:Int)+1:=wrap_ok (by omega) (by omega)
 have hJ0:0≤J:=by rw [← hJ]; omega
 have hkI:(k:Int) < (ls.length:Int):=by omega
 have hlt:=hm.lt_slot hp J
 obtain ⟨CS,hCS⟩ : ∃ CS,m.cells.set (c.slot p J) g=CS:=⟨_,rfl⟩
 obtain ⟨bl,off,lc2,hv,-,-⟩:=sl_some (hold_drop (r:=[_,_,_,_,_]) gd) (by omega) (by decide)
 cases hv
 have hE:∀ {q1 q2 q3 q4 q5:Ev.Asr} {R:List Ev.Asr} {W:World},Ev.Hold ctx (q1::q2::q3::q4::q5::isA (.slice (some ⟨bl,off,none⟩) ls.length lc) ls::R) W→W.cell? ⟨bl,off+k,none⟩=some (.int .i64 g):=fun hh=>by
  obtain ⟨_,_,_,hv,hc,_⟩:=sl_some (hold_drop (r:=[_,_,_,_,_]) hh) (by omega) (by decide)
  cases hv
  rw [hc k (by omega)]
  simp [ints,e1]
 have ho:Aside (Y=(⟨if k+1=n0 then 3 else 2,w0,k+1,n0,ls⟩,⟨CS,ops'⟩)):=by show Y=_; rw [← hY]; simp only [layStep,hJ,hg,hCS,MemM.put,ho']
 clear hJ hg
 gi_upto_region 18 with fail
 clear x7 x8
 gi_cut [] from 19 (fun wx=>∃ a2 k2,Ev.Hold ctx (HL c p b1 b2 b3 b4 (l9L c p 2 w0 (n0:Int) (k:Int) (.slice (some ⟨bl,off,none⟩) ls.length lc)) (.slice a2 CS.length k2) CS ops' (.slice (some ⟨bl,off,none⟩) ls.length lc) ls r) wx)
 case first =>
  have cL:∀ {R:List Ev.Asr} {W:World},Ev.Hold ctx (uA (.slice av m.cells.length ak) m.cells::R) W→Calls Tryz.prog 83 #[.agg #[(.slice av m.cells.length ak),.int .u64 m.ops],.int .i64 ((c.slot p J:Nat) : Int),.int .u64 g] W fun e w'=>∃ a2 k2,e=.returned (.agg #[(.slice a2 CS.length k2),.int .u64 ops'])∧Ev.Hold ctx (uA (.slice a2 CS.length k2) CS::uA (.slice av m.cells.length ak) m.cells::R) w':=fun {R W} hh=>by
   refine (callsIn_wide.1 (rstore_in 0 (ops:=m.ops) (by omega) hlt g hh)).mono ?_
   rintro e w' ⟨al,rfl,h1⟩
   rw [ho']
   rw [hCS] at h1
   obtain ⟨a2,k2,rfl⟩:=slr_val (hold_slr h1)
   exact ⟨a2,k2,rfl,h1⟩
  clear hCS
  have y0:=blkc (hold_up [_] hd) 0 _
  have y1:=blkc (hold_up [_] hd) 1 _
  refine wpIn_wide.2 ?_
  refine wp_region_noPanic ?_
  refine wp_region_B (fun W=>cpC c p b1 W∧W.cell? ⟨b2,0,none⟩=some (.slice av m.cells.length ak)∧W.cell? ⟨b2,1,none⟩=some (.int .u64 m.ops)∧W.cell? ⟨b1,9,none⟩=some (.int .u64 w0)∧W.cell? ⟨b1,11,none⟩=some (.int .i64 (k:Int))∧W.cell? ⟨b1,7,none⟩=some (.slice (some ⟨bl,off,none⟩) ls.length lc)∧W.cell? ⟨bl,off+k,none⟩=some (.int .i64 g)) 21 (by kernel_rfl) ?_ (fun hHeld=>?_)
  ·(try dsimp only); (first | exact ⟨cpc hd,blkc (hold_up [_] hd) 0 _,blkc (hold_up [_] hd) 1 _,blkc hd 9 _,blkc hd 11 _,blkc hd 7 _,hE hd⟩ | exact ⟨cpc h1,blkc (hold_up [_] h1) 0 _,blkc (hold_up [_] h1) 1 _,blkc h1 9 _,blkc h1 11 _,blkc h1 7 _,hE h1⟩ | exact ⟨cpc h2,blkc (hold_up [_] h2) 0 _,blkc (hold_up [_] h2) 1 _,blkc h2 9 _,blkc h2 11 _,blkc h2 7 _,hE h2⟩)
  refine takeB (i:=0) (v:=?_) (Or.inl ⟨by kernel_rfl,?_⟩) (by assumption) ?_
  rotate_left
  ·intro w hSw; (try dsimp only at hSw); go_simp; try with_reducible rfl
  try simp only [Act.put,List.setIfInBounds_toArray,List.set_cons_zero,List.set_cons_succ]
  refine takeB0 (i:=1) (v:=?_) (Or.inl ⟨by kernel_rfl,?_⟩) (by assumption) ?_
  rotate_left
  ·intro w _; go_simp; try with_reducible rfl
  try simp only [Act.put,List.setIfInBounds_toArray,List.set_cons_zero,List.set_cons_succ]
  refine takeB (i:=2) (v:=?_) (Or.inl ⟨by kernel_rfl,?_⟩) (by assumption) ?_
  rotate_left
  ·intro w hSw; (try dsimp only at hSw); go_simp; try with_reducible rfl
  try simp only [Act.put,List.setIfInBounds_toArray,List.set_cons_zero,List.set_cons_succ]
  refine takeB0 (i:=3) (v:=?_) (Or.inl ⟨by kernel_rfl,?_⟩) (by assumption) ?_
  rotate_left
  ·intro w _; go_simp; try with_reducible rfl
  try simp only [Act.put,List.setIfInBounds_toArray,List.set_cons_zero,List.set_cons_succ]
  refine takeB (i:=4) (v:=?_) (Or.inl ⟨by kernel_rfl,?_⟩) (by assumption) ?_
  rotate_left
  ·intro w hSw; (try dsimp only at hSw); go_simp; try with_reducible rfl
  try simp only [Act.put,List.setIfInBounds_toArray,List.set_cons_zero,List.set_cons_succ]
  refine takeB0 (i:=5) (v:=?_) (Or.inl ⟨by kernel_rfl,?_⟩) (by assumption) ?_
  rotate_left
  ·intro w _; go_simp; try with_reducible rfl
  try simp only [Act.put,List.setIfInBounds_toArray,List.set_cons_zero,List.set_cons_succ]
  refine takeB (i:=6) (v:=?_) (Or.inl ⟨by kernel_rfl,?_⟩) (by assumption) ?_
  rotate_left
  ·intro w hSw; (try dsimp only at hSw); go_simp; try with_reducible rfl
  try simp only [Act.put,List.setIfInBounds_toArray,List.set_cons_zero,List.set_cons_succ]
  refine takeB0 (i:=8) (v:=?_) (Or.inl ⟨by kernel_rfl,?_⟩) (by assumption) ?_
  rotate_left
  ·intro w _; go_simp; try with_reducible rfl
  try simp only [Act.put,List.setIfInBounds_toArray,List.set_cons_zero,List.set_cons_succ]
  refine takeB (i:=9) (v:=?_) (Or.inl ⟨by kernel_rfl,?_⟩) (by assumption) ?_
  rotate_left
  ·intro w hSw; (try dsimp only at hSw); go_simp; try with_reducible rfl
  try simp only [Act.put,List.setIfInBounds_toArray,List.set_cons_zero,List.set_cons_succ]
  refine takeB0 (i:=10) (v:=?_) (Or.inl ⟨by kernel_rfl,?_⟩) (by assumption) ?_
  rotate_left
  ·intro w _; go_simp; try with_reducible rfl
  try simp only [Act.put,List.setIfInBounds_toArray,List.set_cons_zero,List.set_cons_succ]
  refine takeB0 (i:=13) (v:=?_) (Or.inl ⟨by kernel_rfl,?_⟩) (by assumption) ?_
  rotate_left
  ·intro w _; go_simp; try with_reducible rfl
  try simp only [Act.put,List.setIfInBounds_toArray,List.set_cons_zero,List.set_cons_succ]
  refine takeB (i:=14) (v:=?_) (Or.inl ⟨by kernel_rfl,?_⟩) (by assumption) ?_
  rotate_left
  ·intro w hSw; (try dsimp only at hSw); go_simp; try with_reducible rfl
  try simp only [Act.put,List.setIfInBounds_toArray,List.set_cons_zero,List.set_cons_succ]
  refine takeB0 (i:=15) (v:=?_) (Or.inl ⟨by kernel_rfl,?_⟩) (by assumption) ?_
  rotate_left
  ·intro w _; go_simp; try with_reducible rfl
  try simp only [Act.put,List.setIfInBounds_toArray,List.set_cons_zero,List.set_cons_succ]
  refine takeB (i:=16) (v:=?_) (Or.inl ⟨by kernel_rfl,?_⟩) (by assumption) ?_
  rotate_left
  ·intro w hSw; (try dsimp only at hSw); go_simp; try with_reducible rfl
  try simp only [Act.put,List.setIfInBounds_toArray,List.set_cons_zero,List.set_cons_succ]
  refine takeB0 (i:=17) (v:=?_) (Or.inl ⟨by kernel_rfl,?_⟩) (by assumption) ?_
  rotate_left
  ·intro w _; go_simp; try with_reducible rfl
  try simp only [Act.put,List.setIfInBounds_toArray,List.set_cons_zero,List.set_cons_succ]
  refine takeB (i:=18) (v:=?_) (Or.inl ⟨by kernel_rfl,?_⟩) (by assumption) ?_
  rotate_left
  ·intro w hSw; (try dsimp only at hSw); go_simp; try with_reducible rfl
  try simp only [Act.put,List.setIfInBounds_toArray,List.set_cons_zero,List.set_cons_succ]
  refine takeB0 (i:=19) (v:=?_) (Or.inl ⟨by kernel_rfl,?_⟩) (by assumption) ?_
  rotate_left
  ·intro w _; go_simp; try with_reducible rfl
  try simp only [Act.put,List.setIfInBounds_toArray,List.set_cons_zero,List.set_cons_succ]
  refine nextB (i:=7) (ho:=rfl) (fun K hK=>?_)
  go_simp
  (have hcon:=rTail w0 hw0 W4.drew; (with_reducible refine hcon.mono ?_); clear hcon; rintro e w1 ⟨rfl,rfl⟩; skip)
  first | refine hK.out _ _ ?_ (fun hHeld=>?_) | (go_wp2_with fail; refine hK.out _ _ ?_ (fun hHeld=>?_))
  ·(try dsimp only); (first | exact ⟨cpc hd,blkc (hold_up [_] hd) 0 _,blkc (hold_up [_] hd) 1 _,blkc hd 9 _,blkc hd 11 _,blkc hd 7 _,hE hd⟩ | exact ⟨cpc h1,blkc (hold_up [_] h1) 0 _,blkc (hold_up [_] h1) 1 _,blkc h1 9 _,blkc h1 11 _,blkc h1 7 _,hE h1⟩ | exact ⟨cpc h2,blkc (hold_up [_] h2) 0 _,blkc (hold_up [_] h2) 1 _,blkc h2 9 _,blkc h2 11 _,blkc h2 7 _,hE h2⟩)
  clear hK K
  try simp only [Act.put,List.setIfInBounds_toArray,List.set_cons_zero,List.set_cons_succ]
  refine takeB0 (i:=11) (v:=?_) (Or.inl ⟨by kernel_rfl,?_⟩) (by assumption) ?_
  rotate_left
  ·intro w _; go_simp; try with_reducible rfl
  try simp only [Act.put,List.setIfInBounds_toArray,List.set_cons_zero,List.set_cons_succ]
  refine nextB (i:=12) (ho:=rfl) (fun K hK=>?_)
  go_simp
  (have hcon:=rSlot_ok c p hp J hJ0 W4.drew; (with_reducible refine hcon.mono ?_); clear hcon; rintro e w1 ⟨rfl,b1'⟩; have h1:=hold_keep hd b1'; have z0:=blkc (hold_up [_] h1) 0 _; have z1:=blkc (hold_up [_] h1) 1 _)
  first | refine hK.out _ _ ?_ (fun hHeld=>?_) | (go_wp2_with fail; refine hK.out _ _ ?_ (fun hHeld=>?_))
  ·(try dsimp only); (first | exact ⟨cpc hd,blkc (hold_up [_] hd) 0 _,blkc (hold_up [_] hd) 1 _,blkc hd 9 _,blkc hd 11 _,blkc hd 7 _,hE hd⟩ | exact ⟨cpc h1,blkc (hold_up [_] h1) 0 _,blkc (hold_up [_] h1) 1 _,blkc h1 9 _,blkc h1 11 _,blkc h1 7 _,hE h1⟩ | exact ⟨cpc h2,blkc (hold_up [_] h2) 0 _,blkc (hold_up [_] h2) 1 _,blkc h2 9 _,blkc h2 11 _,blkc h2 7 _,hE h2⟩)
  clear hK K
  try simp only [Act.put,List.setIfInBounds_toArray,List.set_cons_zero,List.set_cons_succ]
  refine nextB (i:=20) (ho:=rfl) (fun K hK=>?_)
  go_simp
  (have hcon:=cL (hold_up [_,_,_,_] h1); (with_reducible refine hcon.mono ?_); clear hcon; rintro e w2 ⟨a2,k2,rfl,h2⟩; replace h2:=hsel [_,_,_,_,_,_] h2 [2,3,4,5,0]; have x20:=blkc (hold_up [_] h2) 0 _; have x21:=blkc (hold_up [_] h2) 1 _; have f20:=froz_of (hold_blk (hold_up [_] h2)) 0; have f21:=froz_of (hold_blk (hold_up [_] h2)) 1; have h3:=hold_dn [_] (hold_set 1 (.int .u64 ops') (hold_set 0 (.slice a2 CS.length k2) (hold_up [_] h2))))
  first | refine hK.out _ _ ?_ (fun hHeld=>?_) | (go_wp2_with fail; refine hK.out _ _ ?_ (fun hHeld=>?_))
  ·(try dsimp only); (first | exact ⟨cpc hd,blkc (hold_up [_] hd) 0 _,blkc (hold_up [_] hd) 1 _,blkc hd 9 _,blkc hd 11 _,blkc hd 7 _,hE hd⟩ | exact ⟨cpc h1,blkc (hold_up [_] h1) 0 _,blkc (hold_up [_] h1) 1 _,blkc h1 9 _,blkc h1 11 _,blkc h1 7 _,hE h1⟩ | exact ⟨cpc h2,blkc (hold_up [_] h2) 0 _,blkc (hold_up [_] h2) 1 _,blkc h2 9 _,blkc h2 11 _,blkc h2 7 _,hE h2⟩)
  clear hK K
  try simp only [Act.put,List.setIfInBounds_toArray,List.set_cons_zero,List.set_cons_succ]
  refine lastB (i:=21) (ho:=rfl) (fun K hK=>?_)
  go_simp
  refine hK.out _ _ ?_
  clear hK K
  try simp only [Act.put,List.setIfInBounds_toArray,List.set_cons_zero,List.set_cons_succ]
  refine (doneB (h:=?_) (hr:=by kernel_rfl)) _
  refine NoPanic.normal ?_
  all_goals
   gi_wp2
   gi_meet
   case rel=>exact ⟨_,_,h3⟩
 case rest =>
  obtain ⟨a2,k2,g1⟩:=hcut
  clear hd gd hE hCS
  have x11:=blkc g1 11 _
  have f11:=froz_of (hold_blk g1) 11
  have g2:=hold_set 11 (.int .i64 ((k:Int)+1)) g1
  have y11:=blkc g2 11 _
  have y10:=blkc g2 10 _
  have y8:=blkc g2 8 _
  have i8:=froz_of (hold_blk g2) 8
  by_cases e:k+1=n0
  ·have hb:((k:Int)+1 == (n0:Int))=true:=by simp; omega
   rw [if_pos e] at ho
   clear e
   have g3:Ev.Hold ctx (HL c p b1 b2 b3 b4 (l9L c p 3 w0 (n0:Int) ((k:Int)+1) (.slice (some ⟨bl,off,none⟩) ls.length lc)) (.slice a2 CS.length k2) CS ops' (.slice (some ⟨bl,off,none⟩) ls.length lc) ls r) _:=hold_set 8 (.int .i64 3) g2
   gi_upto_region 28 with fail
   refine wpIn_wide.2 (reg2 g3 (fun w' hw'=>?_) Tryz.underlying110 Tryz.underlying53 rfl rfl rfl rfl rfl rfl rfl rfl rfl rfl rfl)
   gi_wp2
   exact post_cell2 rfl rfl rfl rfl (lv_all (hold_up [_,_] hw') Tryz.underlying110 rfl (by kernel_rfl)) (lv_all (hold_up [_,_,_] hw') Tryz.underlying53 rfl (by kernel_rfl)) (by rw [ho.out]; first | exact ⟨_,_,rfl,hold_drop (r:=[_,_,_,_]) hw'⟩ | exact ⟨_,⟨_,rfl⟩,hold_drop (r:=[_,_,_,_]) hw'⟩)
  ·have hb:((k:Int)+1 == (n0:Int))=false:=by simp; omega
   rw [if_neg e] at ho
   clear e
   have g3:Ev.Hold ctx (HL c p b1 b2 b3 b4 (l9L c p 2 w0 (n0:Int) ((k:Int)+1) (.slice (some ⟨bl,off,none⟩) ls.length lc)) (.slice a2 CS.length k2) CS ops' (.slice (some ⟨bl,off,none⟩) ls.length lc) ls r) _:=g2
   gi_upto_region 28 with fail
   refine wpIn_wide.2 (reg2 g3 (fun w' hw'=>?_) Tryz.underlying110 Tryz.underlying53 rfl rfl rfl rfl rfl rfl rfl rfl rfl rfl rfl)
   gi_wp2
   exact post_cell2 rfl rfl rfl rfl (lv_all (hold_up [_,_] hw') Tryz.underlying110 rfl (by kernel_rfl)) (lv_all (hold_up [_,_,_] hw') Tryz.underlying53 rfl (by kernel_rfl)) (by rw [ho.out]; first | exact ⟨_,_,rfl,hold_drop (r:=[_,_,_,_]) hw'⟩ | exact ⟨_,⟨_,rfl⟩,hold_drop (r:=[_,_,_,_]) hw'⟩)
end
end Go.Proofs.YtkmccgombmogmaaGreat
