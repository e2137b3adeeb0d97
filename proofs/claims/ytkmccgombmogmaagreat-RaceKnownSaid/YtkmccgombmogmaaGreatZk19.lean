/- Part of a proof: see the last text. -/
import Derived.Test.YtkmccgombmogmaaGreatZk18
import Derived.Test.YtkmccgombmogmaaGreatZk15
import Derived.Test.YtkmccgombmogmaaGreatZk16
import Derived.Test.YtkmccgombmogmaaGreatZk14
import Derived.Test.YtkmccgombmogmaaGreatZk17
import Derived.Test.YtkmccgombmogmaaGreatZk1
import Derived.Sort.CutIn
import Derived.Deep.RegionHeld3
namespace Go.Proofs.YtkmccgombmogmaaGreat
open Go.RowKit
set_option linter.unusedVariables false
set_option linter.unusedSimpArgs false
set_option maxRecDepth 8000
section
variable {ctx:Ev.Ctx} {w:World} {r:List Ev.Asr} {c:Cfg} {p v:Nat} {m:MemM} {rv bt ll:Value}
set_option maxHeartbeats 8000000 in
theorem steal11_3 (n:Nat) (hp:p < c.n) (hv:v < c.n) {x:StealS} (hx:StealOk x) (hk:x.st=3) (hm:MemOk c m) (hz:szW (ld m (c.word v))≤(c.q:Int)) (hb:x.bt.length≤64) (h3:x.st=3→(x.bt.length:Int)=oldN (szW x.w)) (lll:Ev.leafV ll=true) (h:Ev.Hold ctx (cA rv m::(s11L x bt ll++r)) w) : Steal11 ctx r c p v m rv bt ll x n w:=by
 unfold Steal11
 have hbg:=hm.big
 have hno:=hx.no
 have hone:=hx.one
 have htwo:=hx.two
 have hthree:=hx.three
 have hfour:=hx.four
 have hgs:=hx.gs
 have hw0:U64 x.w:=hx.w
 clear hx
 obtain ⟨st,w0,bs,ly⟩:=x
 dsimp only at hno hone htwo hthree hfour hw0 hb h3 hgs hk
 obtain rfl:st=3:=hk
 obtain rfl:=hno (by omega)
 have ht2:=hthree rfl
 have ht3:Aside ((bs.length:Int)=oldN (szW w0)):=h3 rfl
 clear hone htwo hthree hfour h3
 replace h:Ev.Hold ctx (uA rv m.cells::isA bt bs::r) w:=h
 obtain ⟨av,ak,rfl⟩:=slr_val (hold_slr h)
 obtain ⟨ba,bc,rfl⟩:=slr_val (hold_slr (hold_drop (r:=[_]) h))
 obtain ⟨b1,W1,hb1,hW1,q1⟩:=newN (sL c p v 3 w0 (.slice ba bs.length bc) 0 l9Z) 112 h
 obtain ⟨b2,W2,hb2,hW2,q2⟩:=newN [.slice av m.cells.length ak,.int .u64 m.ops] 53 q1
 obtain ⟨b3,W3,hb3,hW3,q3⟩:=newN s11Z 112 q2
 obtain ⟨b4,W4,hb4,hW4,q4⟩:=newN [.slice none 0 0,.int .u64 0] 53 q3
 have gd:Ev.Hold ctx (HS c p b1 b2 b3 b4 (sL c p v 3 w0 (.slice ba bs.length bc) 0 l9Z) (.slice av m.cells.length ak) m.cells m.ops (.slice ba bs.length bc) bs r) W4:=hsel [_,_,_,_,_] q4 [3,2,1,0,4]
 clear q1 q2 q3 q4
 obtain ⟨Y,hY⟩ : ∃ Y,stealStep c p v ⟨3,w0,bs,none⟩ m=Y:=⟨_,rfl⟩
 have eg:s11 c p v ⟨3,w0,bs,none⟩ (.slice ba bs.length bc) ll=(sL c p v 3 w0 (.slice ba bs.length bc) 0 l9Z).toArray:=rfl
 rw [eg,hY]
 clear eg
 have x9:=blkc gd 9 _
 have hkb:=szW_bd w0
 have u1:IntKind.u32.wrap (szW w0 / 2)=szW w0 / 2:=by rw [wrap32]; omega
 obtain ⟨kk,hkk⟩ : ∃ kk,oldN (szW w0)=kk:=⟨_,rfl⟩
 have u2:IntKind.u32.wrap (szW w0 - szW w0 / 2)=(bs.length:Int):=by have:=ht3.out; unfold oldN at this; rw [wrap32]; omega
 refine wen Tryz.func88 149 ?_
 gi_wp2
 refine wcw (rSize w0 hw0 _) ?_
 rintro e w1 ⟨rfl,rfl⟩
 clear hW1 hW2 hW3 hW4 hb1 hb2 hb3 hb4
 gi_upto_region 3 with fail
 have hd0:=hold_keep gd (Below.refl _ _).drew
 refine wpIn_wide.2 ?_
 go_region_held3 (fun W=>W.cell? ⟨b1,9,none⟩=some (.int .u64 w0)) (exact blkc hd0 9 _) ((first
  | (have hcon:=rHead w0 hw0 W4.drew; (with_reducible refine hcon.mono ?_); clear hcon; rintro e w1 ⟨rfl,rfl⟩)
  | (have hcon:=rTail w0 hw0 W4.drew; (with_reducible refine hcon.mono ?_); clear hcon; rintro e w1 ⟨rfl,rfl⟩)))
 obtain ⟨W5,hW5,g0⟩:=hname hd0
 rw [← hW5]
 clear hW5 gd hd0 x9
 have gd:=g0
 clear g0
 have hd:=hold_keep gd (Below.refl _ _).drew
 have x8:=blkc gd 8 _
 have hq:=c.qb
 obtain ⟨ops',ho'⟩ : ∃ o,IntKind.u64.wrap (m.ops+1)=o:=⟨_,rfl⟩
 have e3:IntKind.u32.wrap (hdW w0+(bs.length:Int))=(hdW w0+(bs.length:Int)) % 4294967296:=wrap32 _
 have e4:IntKind.i64.wrap (bs.length:Int)=(bs.length:Int):=wrap_ok (by omega) (by omega)
 obtain ⟨hx,-⟩:=hm.at_ (hm.lt_word hv)
 obtain ⟨x,hxe⟩ : ∃ x,ld m (c.word v)=x:=⟨_,rfl⟩
 rw [hxe] at hx
 obtain ⟨z,hz'⟩ : ∃ z,decide (x=w0)=z:=⟨_,rfl⟩
 obtain ⟨mv,hmv⟩ : ∃ mv,gnW w0 (bs.length:Int)=mv:=⟨_,rfl⟩
 obtain ⟨CS,hCS⟩ : ∃ CS,(if x=w0 then m.cells.set (c.word v) mv else m.cells)=CS:=⟨_,rfl⟩
 have hlen:CS.length=m.cells.length:=by rw [← hCS]; split <;> simp
 have ho:Aside (Y=if x=w0 then (⟨if bs.length=1 then 0 else 4,w0,bs,some ⟨1,0,0,0,bs.drop 1⟩⟩,⟨CS,ops'⟩) else (⟨1,w0,[],none⟩,⟨CS,ops'⟩)):=by
  show Y=_
  rw [← hY]
  by_cases e:x=w0
  ·simp only [stealStep,hxe,← hCS,if_pos e,MemM.put,ho',← ht3.out,hmv]
  ·simp only [stealStep,hxe,← hCS,if_neg e,MemM.tick,ho']
 clear hxe
 gi_upto_region 21 with fail
 gi_cut [13,14] from 22 (fun s9 s10 wx=>∃ b9 a2 k2,s9=.pointer (some ⟨b9,0,none⟩)∧s10=.bool z∧Ev.Hold ctx (m06 b9 (.slice a2 CS.length k2) ops'::Ev.blkA b1 (sL c p v 3 w0 (.slice ba bs.length bc) 0 l9Z) 112 :: m06 b2 (.slice av m.cells.length ak) m.ops::Ev.blkA b3 s11Z 112 :: m06 b4 (.slice none 0 0) 0::uA (.slice a2 CS.length k2) CS::isA (.slice ba bs.length bc) bs::r) wx)
 case first =>
  have hP:∀ {R:List Ev.Asr} {W:World},Ev.Hold ctx (Ev.blkA b1 (sL c p v 3 w0 (.slice ba bs.length bc) 0 l9Z) 112 :: m06 b2 (.slice av m.cells.length ak) m.ops::R) W→cpC c p b1 W∧W.cell? ⟨b2,0,none⟩=some (.slice av m.cells.length ak)∧W.cell? ⟨b2,1,none⟩=some (.int .u64 m.ops)∧W.cell? ⟨b1,7,none⟩=some (.int .i64 (v:Int))∧W.cell? ⟨b1,9,none⟩=some (.int .u64 w0):=fun hh=>⟨cpc hh,blkc (hold_up [_] hh) 0 _,blkc (hold_up [_] hh) 1 _,blkc hh 7 _,blkc hh 9 _⟩
  have hX:∀ {q:Ev.Asr} {R:List Ev.Asr} {W:World},Ev.Hold ctx (q::Ev.blkA b1 (sL c p v 3 w0 (.slice ba bs.length bc) 0 l9Z) 112 :: m06 b2 (.slice av m.cells.length ak) m.ops::R) W→cpC c p b1 W∧W.cell? ⟨b2,0,none⟩=some (.slice av m.cells.length ak)∧W.cell? ⟨b2,1,none⟩=some (.int .u64 m.ops)∧W.cell? ⟨b1,7,none⟩=some (.int .i64 (v:Int))∧W.cell? ⟨b1,9,none⟩=some (.int .u64 w0):=fun hh=>hP (hold_drop (r:=[_]) hh)
  have hdN:Ev.Hold ctx (m06 W5.heap.size (.slice none 0 0) 0::HS c p b1 b2 b3 b4 (sL c p v 3 w0 (.slice ba bs.length bc) 0 l9Z) (.slice av m.cells.length ak) m.cells m.ops (.slice ba bs.length bc) bs r) (W5.alloc (.cells #[(.slice none 0 0),.int .u64 0] 53)).drew:=hold_new [(.slice none 0 0),.int .u64 0] 53 hd
  have cW:=rWord_ok c v hv
  have cL:∀ {R:List Ev.Asr} {W:World},Ev.Hold ctx (uA (.slice av m.cells.length ak) m.cells::R) W→Calls Tryz.prog 85 #[.agg #[(.slice av m.cells.length ak),.int .u64 m.ops],.int .i64 ((c.word v:Nat) : Int),.int .u64 w0,.int .u64 mv] W fun e w'=>∃ a2 k2,e=.returned (.tuple #[.agg #[(.slice a2 CS.length k2),.int .u64 ops'],.bool z])∧Ev.Hold ctx (uA (.slice a2 CS.length k2) CS::R) w':=fun {R W} hh=>by
   refine (callsIn_wide.1 (rcas_in 0 (ops:=m.ops) (by omega) hx w0 mv hh)).mono ?_
   rintro e w' ⟨al,rfl,h1⟩
   rw [hz',ho']
   rw [hCS] at h1
   obtain ⟨a2,k2,rfl⟩:=slr_val (hold_slr h1)
   exact ⟨a2,k2,rfl,h1⟩
  have cP:=fun W=>rPack ((hdW w0+(bs.length:Int)) % 4294967296) (tlW w0) (by omega) (tlW_bd w0) W
  rw [show packW ((hdW w0+(bs.length:Int)) % 4294967296) (tlW w0)=mv from hmv] at cP
  clear hCS hmv hz' hlen
  refine wpIn_wide.2 ?_
  go_region_held3 (fun W=>cpC c p b1 W∧W.cell? ⟨b2,0,none⟩=some (.slice av m.cells.length ak)∧W.cell? ⟨b2,1,none⟩=some (.int .u64 m.ops)∧W.cell? ⟨b1,7,none⟩=some (.int .i64 (v:Int))∧W.cell? ⟨b1,9,none⟩=some (.int .u64 w0)) ((first | exact hP hd | exact hX hdN | exact hP h1 | exact hX h1x | exact hX h1N | exact hP h2 | exact hX h2x | exact hX h2N | exact hX h4 | exact hX h4x | fail)) ((first
   | (have hcon:=cW W5.drew; (with_reducible refine hcon.mono ?_); clear hcon; rintro e w1 ⟨rfl,b1'⟩; (have h1:=hold_keep hd b1'; have h1N:=hold_new [(.slice none 0 0),.int .u64 0] 53 h1))
   | (have hcon:=cW (W5.alloc (.cells #[(.slice none 0 0),.int .u64 0] 53)).drew; (with_reducible refine hcon.mono ?_); clear hcon; rintro e w1 ⟨rfl,b1'⟩; have h1x:=hold_keep hdN b1')
   | (have hcon:=cP W5.drew; (with_reducible refine hcon.mono ?_); clear hcon; rintro e w1' ⟨rfl,hw1⟩; subst hw1)
   | (have hcon:=cP (W5.alloc (.cells #[(.slice none 0 0),.int .u64 0] 53)).drew; (with_reducible refine hcon.mono ?_); clear hcon; rintro e w1' ⟨rfl,hw1⟩; subst hw1)
   | (have hcon:=cP w1; (with_reducible refine hcon.mono ?_); clear hcon; rintro e w1' ⟨rfl,hw1⟩; subst hw1)
   | (have hcon:=cP (w1.alloc (.cells #[(.slice none 0 0),.int .u64 0] 53)); (with_reducible refine hcon.mono ?_); clear hcon; rintro e w1' ⟨rfl,hw1⟩; subst hw1)
   | (have hcon:=cL (hold_up [_,_,_,_] h1); (with_reducible refine hcon.mono ?_); clear hcon; rintro e w2 ⟨a2,k2,rfl,h2⟩; replace h2:=hold_dn [_,_,_,_] h2; have h2N:=hold_new [(.slice none 0 0),.int .u64 0] 53 h2; have h4:=hold_new [(.slice a2 CS.length k2),.int .u64 ops'] 53 h2)
   | (have hcon:=cL (hold_up [_,_,_,_,_] h1x); (with_reducible refine hcon.mono ?_); clear hcon; rintro e w2 ⟨a2,k2,rfl,h2⟩; have h2x:=hold_dn [_,_,_,_,_] h2; have x0:=blkc h2x 0 _; have x1:=blkc h2x 1 _; have f0:=froz_of (hold_blk h2x) 0; have f1:=froz_of (hold_blk h2x) 1; have h4x:=hold_set 1 (.int .u64 ops') (hold_set 0 (.slice a2 CS.length k2) h2x))
   | (have hcon:=cL (hold_up [_,_,_,_,_] h1N); (with_reducible refine hcon.mono ?_); clear hcon; rintro e w2 ⟨a2,k2,rfl,h2⟩; have h2x:=hold_dn [_,_,_,_,_] h2; have x0:=blkc h2x 0 _; have x1:=blkc h2x 1 _; have f0:=froz_of (hold_blk h2x) 0; have f1:=froz_of (hold_blk h2x) 1; have h4x:=hold_set 1 (.int .u64 ops') (hold_set 0 (.slice a2 CS.length k2) h2x))))
  all_goals
   gi_wp2
   gi_meet
   case rel=>first | exact ⟨_,_,_,rfl,rfl,h4⟩ | exact ⟨_,_,_,rfl,rfl,h4x⟩
 case rest =>
  obtain ⟨b9,a2,k2,rfl,rfl,g1⟩:=hcut
  clear gd hd
  have a0:=blkc g1 0 _
  have a1:=blkc g1 1 _
  replace g1:=hsel [_,_,_] g1 [1,2,0]
  have c0:=blkc (hold_up [_] g1) 0 _
  have c1:=blkc (hold_up [_] g1) 1 _
  have f0:=froz_of (hold_blk (hold_up [_] g1)) 0
  have f1:=froz_of (hold_blk (hold_up [_] g1)) 1
  have g2:=hold_dn [_] (hold_set 1 (.int .u64 ops') (hold_set 0 (.slice a2 CS.length k2) (hold_up [_] g1)))
  have g3:Ev.Hold ctx (HS c p b1 b2 b3 b4 (sL c p v 3 w0 (.slice ba bs.length bc) 0 l9Z) (.slice a2 CS.length k2) CS ops' (.slice ba bs.length bc) bs r) _:=hsel [_,_,_,_,_] g2 [0,1,3,4]
  have x8:=blkc g3 8 _
  have f8:=froz_of (hold_blk g3) 8
  have g4:=hold_set 8 (.int .i64 1) g3
  by_cases he:x=w0
  ·obtain rfl:true=z:=by rw [← hz']; simp [he]
   rw [if_pos he] at ho
   clear he hz' hCS hmv hlen
   have x11:=blkc g4 11 _
   have f11:=froz_of (hold_blk g4) 11
   have g5:Ev.Hold ctx (HS c p b1 b2 b3 b4 (sL c p v 1 w0 (.slice ba bs.length bc) (bs.length:Int) l9Z) (.slice a2 CS.length k2) CS ops' (.slice ba bs.length bc) bs r) _:=hold_set 11 (.int .i64 (bs.length:Int)) g4
   gi_upto_region 26 with fail
   obtain ⟨V,hV,v1⟩:=hname g5
   rw [← hV]
   clear hV a0 a1 c0 c1 f0 f1 g1 g2 g3 g4 g5 x8 f8 x11 f11
   obtain ⟨i0,hi,hz1,hz0,hz2⟩:=infInt
   have hsl:=hold_slr (hold_drop (r:=[_,_,_,_,_]) v1)
   have hcutN:∀ W,(Instr.sliceAt 35 (.slice ba bs.length bc) (some (.int .i64 1)) none none).run Tryz.prog W=.ok (Ev.cutV 1 (.slice ba bs.length bc) 1 bs.length) W:=fun W=>Ev.cut_runLo (lo:=1) hsl Tryz.underlying35 hi hz1 ht2 W
   have v2:=hold_keep v1 (Below.refl _ _).drew
   have hnl:=callsIn_wide.1 (newlay_at 0 hp ht2 hb hgs (hold_up [_,_,_,_,_] v2))
   have hS:∀ {LY:List Value} {R:List Ev.Asr} {W:World},Ev.Hold ctx (Ev.blkA b1 (sL c p v 1 w0 (.slice ba bs.length bc) (bs.length:Int) LY) 112 :: R) W→W.rangeAt b1 0 (cpL c p [.int .i64 (v:Int),.int .i64 1,.int .u64 w0,(.slice ba bs.length bc),.int .i64 (bs.length:Int)]):=fun hh=>rng_pre hh
   obtain ⟨CV,hCV⟩ : ∃ CV,Ev.cutV 1 (.slice ba bs.length bc) 1 bs.length=CV:=⟨_,rfl⟩
   rw [hCV] at hnl
   simp only [hCV] at hcutN
   refine wpIn_wide.2 ?_
   refine wp_region_held_drew (S:=fun W=>W.rangeAt b1 0 (cpL c p [.int .i64 (v:Int),.int .i64 1,.int .u64 w0,(.slice ba bs.length bc),.int .i64 (bs.length:Int)])) (by kernel_rfl) (hS v2) (fun hHeld=>?_)
   refine wpAnyH_take (i:=0) (v:=.pointer (some ⟨b1,0,none⟩)) rfl (by kernel_rfl) (by kernel_rfl) (by kernel_rfl) (fun _ _ _ h=>h) (Or.inl ⟨by rfl,by (intro w hSw; go_simp)⟩) (by assumption) ?_
   try simp only [Act.put,List.getElem_toArray,List.getElem_cons_succ,List.getElem_cons_zero,List.setIfInBounds_toArray,List.set_cons_zero,List.set_cons_succ]
   refine wpAnyH_take (i:=1) (v:=.agg (cfL c).toArray) rfl (by kernel_rfl) (by kernel_rfl) (by kernel_rfl) (fun _ _ _ h=>h) (yieldsIf_load_mid (by rfl) 49 (.tmp 120) rfl b1 0 rfl (cfL c) _ (fun w hw=>rng_cut (post:=[.int .i64 (p:Int),.int .i64 (v:Int),.int .i64 1,.int .u64 w0,(.slice ba bs.length bc),.int .i64 (bs.length:Int)]) hw) Tryz.underlying49 rfl (by kernel_rfl)) (by assumption) ?_
   try simp only [Act.put,List.getElem_toArray,List.getElem_cons_succ,List.getElem_cons_zero,List.setIfInBounds_toArray,List.set_cons_zero,List.set_cons_succ]
   refine wpAnyH_take (i:=2) (v:=.pointer (some ⟨b1,6,none⟩)) rfl (by kernel_rfl) (by kernel_rfl) (by kernel_rfl) (fun _ _ _ h=>h) (Or.inl ⟨by rfl,by (intro w hSw; go_simp)⟩) (by assumption) ?_
   try simp only [Act.put,List.getElem_toArray,List.getElem_cons_succ,List.getElem_cons_zero,List.setIfInBounds_toArray,List.set_cons_zero,List.set_cons_succ]
   refine wpAnyH_take (i:=3) (v:=.int .i64 (p:Int)) rfl (by kernel_rfl) (by kernel_rfl) (by kernel_rfl) (fun _ _ _ h=>h) (Or.inl ⟨by rfl,by (intro w hSw; have s6:=hSw 6 _ rfl; rw [Nat.zero_add] at s6; go_simp)⟩) (by assumption) ?_
   try simp only [Act.put,List.getElem_toArray,List.getElem_cons_succ,List.getElem_cons_zero,List.setIfInBounds_toArray,List.set_cons_zero,List.set_cons_succ]
   refine wpAnyH_take (i:=4) (v:=.pointer (some ⟨b1,10,none⟩)) rfl (by kernel_rfl) (by kernel_rfl) (by kernel_rfl) (fun _ _ _ h=>h) (Or.inl ⟨by rfl,by (intro w hSw; go_simp)⟩) (by assumption) ?_
   try simp only [Act.put,List.getElem_toArray,List.getElem_cons_succ,List.getElem_cons_zero,List.setIfInBounds_toArray,List.set_cons_zero,List.set_cons_succ]
   refine wpAnyH_take (i:=5) (v:=(.slice ba bs.length bc)) rfl (by kernel_rfl) (by kernel_rfl) (by kernel_rfl) (fun _ _ _ h=>h) (Or.inl ⟨by rfl,by (intro w hSw; have s6:=hSw 10 _ rfl; rw [Nat.zero_add] at s6; go_simp)⟩) (by assumption) ?_
   try simp only [Act.put,List.getElem_toArray,List.getElem_cons_succ,List.getElem_cons_zero,List.setIfInBounds_toArray,List.set_cons_zero,List.set_cons_succ]
   refine wpAnyH_take (i:=6) (v:=CV) rfl (by kernel_rfl) (by kernel_rfl) (by kernel_rfl) (fun _ _ _ h=>h) (Or.inl ⟨by rfl,by (intro w hSw; go_simp)⟩) (by assumption) ?_
   try simp only [Act.put,List.getElem_toArray,List.getElem_cons_succ,List.getElem_cons_zero,List.setIfInBounds_toArray,List.set_cons_zero,List.set_cons_succ]
   refine wpAnyH_ready (rs:=[7]) (by kernel_rfl) (by simp) ?_
   refine AllReadyH.cons rfl (fun K hK=>?_) ?_
   rotate_left
   ·exact AllReadyH.nil
   go_simp
   (with_reducible refine hnl.mono ?_)
   clear hnl
   rintro e w7 ⟨vl,rfl,h7⟩
   replace h7:=hsel [_,_,_,_,_,_,_] h7 [2,3,4,5,6,1,0]
   obtain ⟨al,kl,rfl⟩:=slr_val (hold_slr (hold_drop (r:=[_,_,_,_,_,_]) h7))
   refine hK.out _ _ (hS h7) (fun hHeld=>?_)
   clear hK K
   try simp only [Act.put,List.getElem_toArray,List.getElem_cons_succ,List.getElem_cons_zero,List.setIfInBounds_toArray,List.set_cons_zero,List.set_cons_succ]
   obtain ⟨w8,s8,h8⟩:=st_blk (pre:=(cpL c p [.int .i64 (v:Int),.int .i64 1,.int .u64 w0,(.slice ba bs.length bc),.int .i64 (bs.length:Int)])) (mid:=l9Z) (post:=[]) (mid':=(l9L c p 1 0 0 0 (.slice al (bs.drop 1).length kl))) (o:=12) (t := 110) h7 rfl rfl (by simp [Value.oneCell']) (by kernel_rfl)
   replace h8:Ev.Hold ctx (HS c p b1 b2 b3 b4 (sL c p v 1 w0 (.slice ba bs.length bc) (bs.length:Int) (l9L c p 1 0 0 0 (.slice al (bs.drop 1).length kl))) (.slice a2 CS.length k2) CS ops' (.slice ba bs.length bc) bs (isA (.slice al (bs.drop 1).length kl) (bs.drop 1)::r)) w8:=h8
   refine wpAnyH_take (i:=8) (v:=.pointer (some ⟨b1,12,none⟩)) rfl (by kernel_rfl) (by kernel_rfl) (by kernel_rfl) (fun _ _ _ h=>h) (Or.inl ⟨by rfl,by (intro w hSw; go_simp)⟩) (by assumption) ?_
   try simp only [Act.put,List.getElem_toArray,List.getElem_cons_succ,List.getElem_cons_zero,List.setIfInBounds_toArray,List.set_cons_zero,List.set_cons_succ]
   refine wpAnyH_ready (rs:=[9]) (by kernel_rfl) (by simp) ?_
   refine AllReadyH.cons rfl (fun K hK=>?_) ?_
   rotate_left
   ·exact AllReadyH.nil
   rw [if_pos (by rfl)]
   refine wp_store_run _ _ _ rfl s8 rfl rfl ?_
   refine hK.out _ _ (hS h8) (fun hHeld=>?_)
   clear hK K
   try simp only [Act.put,List.getElem_toArray,List.getElem_cons_succ,List.getElem_cons_zero,List.setIfInBounds_toArray,List.set_cons_zero,List.set_cons_succ]
   refine wpAnyH_done (by kernel_rfl) ?_ _
   have x8:=blkc h8 8 _
   have f8:=froz_of (hold_blk h8) 8
   have lvl:=hold_leaf (hold_drop (r:=[_,_,_,_,_,_]) h8)
   have g6:Ev.Hold ctx (HS c p b1 b2 b3 b4 (sL c p v 4 w0 (.slice ba bs.length bc) (bs.length:Int) (l9L c p 1 0 0 0 (.slice al (bs.drop 1).length kl))) (.slice a2 CS.length k2) CS ops' (.slice ba bs.length bc) bs (isA (.slice al (bs.drop 1).length kl) (bs.drop 1)::r)) _:=hold_set 8 (.int .i64 4) h8
   by_cases e:bs.length=1
   ·have hb':((bs.length:Int) == 1)=true:=by simp; omega
    rw [if_pos e] at ho
    clear e
    have y8:=blkc g6 8 _
    have i8:=froz_of (hold_blk g6) 8
    have g7:Ev.Hold ctx (HS c p b1 b2 b3 b4 (sL c p v 0 w0 (.slice ba bs.length bc) (bs.length:Int) (l9L c p 1 0 0 0 (.slice al (bs.drop 1).length kl))) (.slice a2 CS.length k2) CS ops' (.slice ba bs.length bc) bs (isA (.slice al (bs.drop 1).length kl) (bs.drop 1)::r)) _:=hold_set 8 (.int .i64 0) g6
    gi_upto_region 35 with fail
    refine wpIn_wide.2 (reg2 g7 (fun w' hw'=>?_) Tryz.underlying112 Tryz.underlying53 rfl rfl rfl rfl rfl rfl rfl rfl rfl rfl rfl)
    gi_wp2
    exact post_cell2 rfl rfl rfl rfl (lv_all (hold_up [_,_] hw') Tryz.underlying112 rfl (by kernel_rfl)) (lv_all (hold_up [_,_,_] hw') Tryz.underlying53 rfl (by kernel_rfl)) (by rw [ho.out]; first | exact ⟨_,_,_,lvl,rfl,hold_drop (r:=[_,_,_,_]) hw'⟩)
   ·have hb':((bs.length:Int) == 1)=false:=by simp; omega
    rw [if_neg e] at ho
    clear e
    gi_upto_region 35 with fail
    refine wpIn_wide.2 (reg2 g6 (fun w' hw'=>?_) Tryz.underlying112 Tryz.underlying53 rfl rfl rfl rfl rfl rfl rfl rfl rfl rfl rfl)
    gi_wp2
    exact post_cell2 rfl rfl rfl rfl (lv_all (hold_up [_,_] hw') Tryz.underlying112 rfl (by kernel_rfl)) (lv_all (hold_up [_,_,_] hw') Tryz.underlying53 rfl (by kernel_rfl)) (by rw [ho.out]; first | exact ⟨_,_,_,lvl,rfl,hold_drop (r:=[_,_,_,_]) hw'⟩)
  ·obtain rfl:false=z:=by rw [← hz']; simp [he]
   rw [if_neg he] at ho
   clear he hz' hCS hmv hlen
   have x10:=blkc g4 10 _
   have f10:=froz_of (hold_blk g4) 10
   have g5:=hold_set 10 (.slice none 0 0) g4
   have g6:Ev.Hold ctx (HS c p b1 b2 b3 b4 (sL c p v 1 w0 (.slice none 0 0) 0 l9Z) (.slice a2 CS.length k2) CS ops' (.slice none 0 0) [] r) _:=hsel [_,_,_,_,_,_,_] (g5.nilSl (e := 3) (sz:=1)) [1,2,3,4,5,0]
   gi_upto_region 35 with fail
   refine wpIn_wide.2 (reg2 g6 (fun w' hw'=>?_) Tryz.underlying112 Tryz.underlying53 rfl rfl rfl rfl rfl rfl rfl rfl rfl rfl rfl)
   gi_wp2
   exact post_cell2 rfl rfl rfl rfl (lv_all (hold_up [_,_] hw') Tryz.underlying112 rfl (by kernel_rfl)) (lv_all (hold_up [_,_,_] hw') Tryz.underlying53 rfl (by kernel_rfl)) (by rw [ho.out]; first | exact ⟨_,_,ll,lll,rfl,hold_drop (r:=[_,_,_,_]) hw'⟩)
end
end Go.Proofs.YtkmccgombmogmaaGreat
namespace Go.Proofs.YtkmccgombmogmaaGreat
open Go.RowKit
set_option linter.unusedVariables false
set_option linter.unusedSimpArgs false
set_option maxRecDepth 8000
section
variable {ctx:Ev.Ctx} {w:World} {r:List Ev.Asr} {c:Cfg} {p v:Nat} {m:MemM} {rv bt ll:Value}
set_option maxHeartbeats 8000000 in
theorem steal11_4 (n:Nat) (hp:p < c.n) (hv:v < c.n) {x:StealS} (hx:StealOk x) (hk:x.st=4) (hm:MemOk c m) (hz:szW (ld m (c.word v))≤(c.q:Int)) (hb:x.bt.length≤64) (h3:x.st=3→(x.bt.length:Int)=oldN (szW x.w)) (lll:Ev.leafV ll=true) (h:Ev.Hold ctx (cA rv m::(s11L x bt ll++r)) w) : Steal11 ctx r c p v m rv bt ll x n w:=by
 unfold Steal11
 have hbg:=hm.big
 have hno:=hx.no
 have hone:=hx.one
 have htwo:=hx.two
 have hthree:=hx.three
 have hfour:=hx.four
 have hgs:=hx.gs
 have hw0:U64 x.w:=hx.w
 clear hx
 obtain ⟨st,w0,bs,ly⟩:=x
 dsimp only at hno hone htwo hthree hfour hw0 hb h3 hgs hk
 obtain rfl:st=4:=hk
 obtain ⟨l,rfl,hlo,hl0⟩:=hfour rfl
 clear hone htwo hthree hfour h3 hno
 replace h:Ev.Hold ctx (uA rv m.cells::isA bt bs::(isA ll l.ls::r)) w:=h
 obtain ⟨av,ak,rfl⟩:=slr_val (hold_slr h)
 obtain ⟨ba,bc,rfl⟩:=slr_val (hold_slr (hold_drop (r:=[_]) h))
 obtain ⟨b1,W1,hb1,hW1,q1⟩:=newN (sL c p v 4 w0 (.slice ba bs.length bc) (bs.length:Int) (l9L c p (l.st:Int) l.w (l.n:Int) (l.k:Int) ll)) 112 h
 obtain ⟨b2,W2,hb2,hW2,q2⟩:=newN [.slice av m.cells.length ak,.int .u64 m.ops] 53 q1
 obtain ⟨b3,W3,hb3,hW3,q3⟩:=newN s11Z 112 q2
 obtain ⟨b4,W4,hb4,hW4,q4⟩:=newN [.slice none 0 0,.int .u64 0] 53 q3
 have gd:Ev.Hold ctx (HS c p b1 b2 b3 b4 (sL c p v 4 w0 (.slice ba bs.length bc) (bs.length:Int) (l9L c p (l.st:Int) l.w (l.n:Int) (l.k:Int) ll)) (.slice av m.cells.length ak) m.cells m.ops (.slice ba bs.length bc) bs (isA ll l.ls::r)) W4:=hsel [_,_,_,_,_] q4 [3,2,1,0,4]
 clear q1 q2 q3 q4
 obtain ⟨Y,hY⟩ : ∃ Y,stealStep c p v ⟨4,w0,bs,some l⟩ m=Y:=⟨_,rfl⟩
 have eg:s11 c p v ⟨4,w0,bs,some l⟩ (.slice ba bs.length bc) ll=(sL c p v 4 w0 (.slice ba bs.length bc) (bs.length:Int) (l9L c p (l.st:Int) l.w (l.n:Int) (l.k:Int) ll)).toArray:=rfl
 rw [eg,hY]
 clear eg
 have x9:=blkc gd 9 _
 have hkb:=szW_bd w0
 have u1:IntKind.u32.wrap (szW w0 / 2)=szW w0 / 2:=by rw [wrap32]; omega
 obtain ⟨kk,hkk⟩ : ∃ kk,oldN (szW w0)=kk:=⟨_,rfl⟩
 have u2:IntKind.u32.wrap (szW w0 - szW w0 / 2)=kk:=by rw [← hkk,wrap32]; unfold oldN; omega
 refine wen Tryz.func88 149 ?_
 gi_wp2
 refine wcw (rSize w0 hw0 _) ?_
 rintro e w1 ⟨rfl,rfl⟩
 clear hW1 hW2 hW3 hW4 hb1 hb2 hb3 hb4
 gi_upto_region 3 with fail
 have hd0:=hold_keep gd (Below.refl _ _).drew
 refine wpIn_wide.2 ?_
 go_region_held3 (fun W=>W.cell? ⟨b1,9,none⟩=some (.int .u64 w0)) (exact blkc hd0 9 _) ((first
  | (have hcon:=rHead w0 hw0 W4.drew; (with_reducible refine hcon.mono ?_); clear hcon; rintro e w1 ⟨rfl,rfl⟩)
  | (have hcon:=rTail w0 hw0 W4.drew; (with_reducible refine hcon.mono ?_); clear hcon; rintro e w1 ⟨rfl,rfl⟩)))
 obtain ⟨W5,hW5,g0⟩:=hname hd0
 rw [← hW5]
 clear hW5 gd hd0 x9
 have gd:=g0
 clear g0
 have hd:=hold_keep gd (Below.refl _ _).drew
 have x8:=blkc gd 8 _
 have hq:=c.qb
 obtain ⟨ops',ho'⟩ : ∃ o,IntKind.u64.wrap (m.ops+1)=o:=⟨_,rfl⟩
 obtain ⟨l',m',hZ⟩ : ∃ l' m',layStep c p l m=(l',m'):=⟨_,_,rfl⟩
 have hly:=lay9H (n - 1) (w:=W5) (ctx:=ctx) (r:=[Ev.blkA b1 (sL c p v 4 w0 (.slice ba bs.length bc) (bs.length:Int) (l9L c p (l.st:Int) l.w (l.n:Int) (l.k:Int) ll)) 112,m06 b2 (.slice av m.cells.length ak) m.ops,Ev.blkA b3 s11Z 112,m06 b4 (.slice none 0 0) 0,isA (.slice ba bs.length bc) bs]++r) hp hlo hl0 hm (hsel [_,_,_,_,_,_,_] gd [4,6,0,1,2,3,5])
 unfold Lay9 at hly
 rw [hZ] at hly
 dsimp only at hly
 have hr1:=ld_blk (pre:=(cpL c p [.int .i64 (v:Int),.int .i64 4,.int .u64 w0,(.slice ba bs.length bc),.int .i64 (bs.length:Int)])) (mid:=(l9L c p (l.st:Int) l.w (l.n:Int) (l.k:Int) ll)) (post:=[]) (o:=12) (t := 110) gd rfl Tryz.underlying110 rfl (by kernel_rfl)
 have hr2:=ld_all (hold_up [_] gd) Tryz.underlying53 rfl (by kernel_rfl)
 have ho:Aside (Y=(⟨if l'.st=0 then 0 else 4,w0,bs,some l'⟩,m')):=by show Y=_; rw [← hY]; simp only [stealStep,hZ]
 clear hd hZ
 gi_wp2_with (first | refine wpListIn_load_run rfl _ _ rfl hr1 rfl ?_ | refine wpListIn_load_run rfl _ _ rfl hr2 rfl ?_)
 refine wcl hly ?_
 rintro e w6 ⟨v0,lf,rfl,h6⟩
 clear hr1 hr2 hly gd x8
 obtain ⟨v6,j6,rfl⟩:=slr_val (hold_slr h6)
 obtain ⟨a6,k6,rfl⟩:=slr_val (hold_slr (hold_drop (r:=[_]) h6))
 have llf:=hold_leaf (hold_drop (r:=[_]) h6)
 obtain ⟨M6,hM6⟩ : ∃ n,m'.cells.length=n:=⟨_,rfl⟩
 obtain ⟨N6,hN6⟩ : ∃ n,l'.ls.length=n:=⟨_,rfl⟩
 rw [hM6,hN6] at h6
 rw [hN6] at llf
 rw [hM6,hN6]
 clear hM6 hN6
 replace h6:=hsel [_,_,_,_,_,_,_] h6 [2,3,4,5,0,6,1]
 obtain ⟨w7,s7,h7⟩:=st_blk (pre:=(cpL c p [.int .i64 (v:Int),.int .i64 4,.int .u64 w0,(.slice ba bs.length bc),.int .i64 (bs.length:Int)])) (mid:=(l9L c p (l.st:Int) l.w (l.n:Int) (l.k:Int) ll)) (post:=[]) (mid':=(l9L c p (l'.st:Int) l'.w (l'.n:Int) (l'.k:Int) (.slice a6 N6 k6))) (o:=12) (t := 110) h6 rfl rfl (by simp [Value.oneCell']) (by kernel_rfl)
 obtain ⟨w8,s8,h8⟩:=st_all (t := 53) (cs':=[.slice v6 M6 j6,.int .u64 m'.ops]) (hold_up [_] h7) rfl (by simp [Value.oneCell']) (by kernel_rfl)
 have h9:Ev.Hold ctx (HS c p b1 b2 b3 b4 (sL c p v 4 w0 (.slice ba bs.length bc) (bs.length:Int) (l9L c p (l'.st:Int) l'.w (l'.n:Int) (l'.k:Int) (.slice a6 N6 k6))) (.slice v6 M6 j6) m'.cells m'.ops (.slice ba bs.length bc) bs (isA (.slice a6 N6 k6) l'.ls::r)) _:=hold_dn [_] h8
 have y20:=blkc h9 20 _
 have y8:=blkc h9 8 _
 have i8:=froz_of (hold_blk h9) 8
 clear h6 h7 h8
 have el:l9 c p l' (.slice a6 N6 k6)=(l9L c p (l'.st:Int) l'.w (l'.n:Int) (l'.k:Int) (.slice a6 N6 k6)).toArray:=rfl
 rw [el]
 clear el
 by_cases e:l'.st=0
 ·have hb':((l'.st:Int) == 0)=true:=by simp; omega
  rw [if_pos e] at ho
  clear e
  have g7:Ev.Hold ctx (HS c p b1 b2 b3 b4 (sL c p v 0 w0 (.slice ba bs.length bc) (bs.length:Int) (l9L c p (l'.st:Int) l'.w (l'.n:Int) (l'.k:Int) (.slice a6 N6 k6))) (.slice v6 M6 j6) m'.cells m'.ops (.slice ba bs.length bc) bs (isA (.slice a6 N6 k6) l'.ls::r)) _:=hold_set 8 (.int .i64 0) h9
  gi_upto_region 33 with (first | refine wpListIn_store_run rfl _ _ _ rfl s7 rfl rfl ?_ | refine wpListIn_store_run rfl _ _ _ rfl s8 rfl rfl ?_)
  gi_upto_region 35 with fail
  refine wpIn_wide.2 (reg2 g7 (fun w' hw'=>?_) Tryz.underlying112 Tryz.underlying53 rfl rfl rfl rfl rfl rfl rfl rfl rfl rfl rfl)
  gi_wp2
  exact post_cell2 rfl rfl rfl rfl (lv_all (hold_up [_,_] hw') Tryz.underlying112 rfl (by kernel_rfl)) (lv_all (hold_up [_,_,_] hw') Tryz.underlying53 rfl (by kernel_rfl)) (by rw [ho.out]; first | exact ⟨_,_,_,llf,rfl,hold_drop (r:=[_,_,_,_]) hw'⟩)
 ·have hb':((l'.st:Int) == 0)=false:=by simp; omega
  rw [if_neg e] at ho
  clear e
  gi_upto_region 33 with (first | refine wpListIn_store_run rfl _ _ _ rfl s7 rfl rfl ?_ | refine wpListIn_store_run rfl _ _ _ rfl s8 rfl rfl ?_)
  gi_upto_region 35 with fail
  refine wpIn_wide.2 (reg2 h9 (fun w' hw'=>?_) Tryz.underlying112 Tryz.underlying53 rfl rfl rfl rfl rfl rfl rfl rfl rfl rfl rfl)
  gi_wp2
  exact post_cell2 rfl rfl rfl rfl (lv_all (hold_up [_,_] hw') Tryz.underlying112 rfl (by kernel_rfl)) (lv_all (hold_up [_,_,_] hw') Tryz.underlying53 rfl (by kernel_rfl)) (by rw [ho.out]; first | exact ⟨_,_,_,llf,rfl,hold_drop (r:=[_,_,_,_]) hw'⟩)
end
end Go.Proofs.YtkmccgombmogmaaGreat
namespace Go.Proofs.YtkmccgombmogmaaGreat
open Go.RowKit
set_option linter.unusedVariables false
set_option linter.unusedSimpArgs false
set_option maxRecDepth 8000
section
variable {ctx:Ev.Ctx} {w:World} {r:List Ev.Asr} {c:Cfg} {p v:Nat} {m:MemM} {rv bt ll:Value}
theorem steal11H (n:Nat) (hp:p < c.n) (hv:v < c.n) {x:StealS} (hx:StealOk x) (h0:x.st ≠ 0) (hm:MemOk c m) (hz:szW (ld m (c.word v))≤(c.q:Int)) (hb:x.bt.length≤64) (h3:x.st=3→(x.bt.length:Int)=oldN (szW x.w)) (lll:Ev.leafV ll=true) (h:Ev.Hold ctx (cA rv m::(s11L x bt ll++r)) w) : CallsIn Fence.wide n Tryz.prog 88 #[.agg (s11 c p v x bt ll),.agg #[rv,.int .u64 m.ops]] w fun e w'=>∃ rv' bt' ll',Ev.leafV ll'=true∧e=.returned (.tuple #[.agg (s11 c p v (stealStep c p v x m).1 bt' ll'),.agg #[rv',.int .u64 (stealStep c p v x m).2.ops]])∧Ev.Hold ctx (cA rv' (stealStep c p v x m).2::(s11L (stealStep c p v x m).1 bt' ll'++r)) w':=by
 have hst:=hx.st
 have hs:x.st=1∨x.st=2∨x.st=3∨x.st=4:=by omega
 rcases hs with hk | hk | hk | hk
 ·exact steal11_1 n hp hv hx hk hm hz hb h3 lll h
 ·exact steal11_2 n hp hv hx hk hm hz hb h3 lll h
 ·exact steal11_3 n hp hv hx hk hm hz hb h3 lll h
 ·exact steal11_4 n hp hv hx hk hm hz hb h3 lll h
end
end Go.Proofs.YtkmccgombmogmaaGreat
namespace Go.Proofs.YtkmccgombmogmaaGreat
open Go.RowKit
open Go.Ev (iz uz iN)
set_option linter.unusedVariables false
set_option linter.unusedSimpArgs false
set_option maxRecDepth 8000
structure OwR where
 kd:Int
 cv:Int
 cg:Int
 P:List Value
 G:List Value
 S:List Value
 dv:Value
 tk:Value
 hd:Value
 bt:Value
 ll:Value
def OwR.cs (c:Cfg) (r:OwR) : List Value:=[iz r.kd,iz r.cv,iz r.cg]++(r.P++(r.G++(r.S++[iN c.q,r.dv])))
def macPs (r:OwR) : Option MacS→List Ev.Asr
 | some (.put u)=>[isA r.tk u.ts,isA r.hd u.hs]
 | some (.steal _ u)=>s11L u r.bt r.ll
 | _=>[]
def OwR.ps (c:Cfg) (o:OwnS) (r:OwR) : List Ev.Asr:=isA r.dv (dqAll c o.dq)::macPs r o.mac
def macR (c:Cfg) (p:Nat) (r:OwR) : Option MacS→Prop
 | none=>r.kd=0
 | some (.put u)=>r.kd=1∧r.cg=u.gg∧r.P=(p9 c p u r.tk r.hd).toList
 | some (.get u)=>r.kd=2∧∃ gt tr,r.G=(g10 c p u gt tr).toList∧(u.has=true→gt=u.sn)
 | some (.steal v u)=>r.kd=3∧r.cv=(v:Int)∧r.S=(s11 c p v u r.bt r.ll).toList∧Ev.leafV r.ll=true
structure OwR.Ok (c:Cfg) (p:Nat) (M:Option MacS) (r:OwR) : Prop where
 P:r.P.length=12
 G:r.G.length=13
 S:r.S.length=24
 one:∀ x ∈ r.P++(r.G++r.S),x.oneCell'=true
 dv:Ev.leafV r.dv=true
 mac:macR c p r M
theorem leaf_oc {v:Value} (h:Ev.leafV v=true) : v.oneCell'=true:=by
 cases v <;> simp_all [Ev.leafV,Value.oneCell']
theorem OwR.Ok.len {c:Cfg} {p:Nat} {M:Option MacS} {r:OwR} (h:r.Ok c p M) : (r.cs c).length=54:=by
 simp [OwR.cs,h.P,h.G,h.S]
theorem OwR.Ok.ones {c:Cfg} {p:Nat} {M:Option MacS} {r:OwR} (h:r.Ok c p M) : ∀ x ∈ r.cs c,x.oneCell'=true:=by
 intro x hx
 have hd:=leaf_oc h.dv
 simp only [OwR.cs,List.mem_append,List.mem_cons,List.not_mem_nil,or_false] at hx
 rcases hx with (rfl | rfl | rfl) | hx | hx | hx | rfl | rfl
 ·rfl
 ·rfl
 ·rfl
 ·exact h.one x (List.mem_append_left _ hx)
 ·exact h.one x (List.mem_append_right _ (List.mem_append_left _ hx))
 ·exact h.one x (List.mem_append_right _ (List.mem_append_right _ hx))
 ·rfl
 ·exact hd
def fam (c:Cfg) (x:RaceS) (rs:Nat→OwR) (q:Nat) : List Ev.Asr:=match x.ow[q]? with | some o=>(rs q).ps c o | none=>[]
def famR (c:Cfg) (x:RaceS) (rs:Nat→OwR) (p:Nat) : List Ev.Asr:=((List.range c.n).erase p).flatMap (fam c x rs)
def owsL (c:Cfg) (rs:Nat→OwR) : List Value:=(List.range c.n).flatMap (fun q=>(rs q).cs c)
abbrev lA (c:Cfg) (lv:Value) (rs:Nat→OwR) : Ev.Asr:=Ev.slA 114 54 lv c.n (owsL c rs)
def refL (c:Cfg) (x:RaceS) (rs:Nat→OwR) (lv rv:Value) : List Ev.Asr:=lA c lv rs::cA rv x.m::(List.range c.n).flatMap (fam c x rs)
def RefOk (c:Cfg) (x:RaceS) (rs:Nat→OwR) : Prop:=∀ q o,x.ow[q]? = some o→(rs q).Ok c q o.mac
theorem flatO_at {n p:Nat} (f:Nat→List Value) (hp:p < n) : ∃ pre post,(∀ g:Nat→List Value,(∀ q,q ≠ p→g q=f q)→(List.range n).flatMap g=pre++(g p++post))∧((∀ q,q < n→(f q).length=54)→pre.length=p * 54):=by
 obtain ⟨k,rfl⟩ : ∃ k,n=p+(1+k):=⟨n - p - 1,by omega⟩
 refine ⟨(List.range p).flatMap f,(List.range k).flatMap (fun i=>f (p+(1+i))),fun g hg=>?_,fun hl=>?_⟩
 ·rw [List.range_add,List.flatMap_append,List.flatMap_map,List.range_add,List.flatMap_append,List.flatMap_map]
  congr 1
  ·rw [List.flatMap_def,List.flatMap_def]
   congr 1
   apply List.map_congr_left
   intro q hq
   have:=List.mem_range.1 hq
   exact hg q (by omega)
  ·congr 1
   ·simp [List.range_succ]
   ·rw [List.flatMap_def,List.flatMap_def]
    congr 1
    apply List.map_congr_left
    intro q hq
    exact hg _ (by omega)
 ·have:∀ j,j≤p→((List.range j).flatMap f).length=j * 54:=by
   intro j hj
   induction j with
   | zero=>rfl
   | succ j ih =>
    rw [List.range_succ,List.flatMap_append,List.length_append,ih (by omega),List.flatMap_singleton,hl j (by omega)]
    omega
  exact this p (Nat.le_refl _)
section
variable {c:Cfg} {x x':RaceS} {rs rs':Nat→OwR} {lv rv lv' rv':Value} {p:Nat} {o:OwnS} {ctx:Ev.Ctx} {r:List Ev.Asr} {w:World}
theorem fam_split (F:Nat→List Ev.Asr) {n:Nat} (hp:p < n) : ((List.range n).flatMap F).Perm (F p++((List.range n).erase p).flatMap F):=by
 have:=(List.perm_cons_erase (List.mem_range.2 hp)).flatMap_right F
 rwa [List.flatMap_cons] at this
theorem ref_take (hp:p < c.n) (ho:x.ow[p]? = some o) (h:Ev.Hold ctx (refL c x rs lv rv++r) w) : Ev.Hold ctx (lA c lv rs::cA rv x.m::((rs p).ps c o++(famR c x rs p++r))) w:=by
 refine hold_perm ?_ h
 have h1:=fam_split (fam c x rs) hp
 have e:fam c x rs p=(rs p).ps c o:=by unfold fam; rw [ho]
 rw [e] at h1
 have h2:=h1.append_right r
 rw [List.append_assoc] at h2
 exact (h2.cons _).cons _
theorem famR_same (hf:∀ q,q ≠ p→fam c x' rs' q=fam c x rs q) : famR c x' rs' p=famR c x rs p:=by
 unfold famR
 rw [List.flatMap_def,List.flatMap_def]
 congr 1
 apply List.map_congr_left
 intro q hq
 exact hf q ((List.Nodup.mem_erase_iff List.nodup_range).1 hq).1
theorem ref_put (hp:p < c.n) (ho:x'.ow[p]? = some o) (hf:∀ q,q ≠ p→fam c x' rs' q=fam c x rs q) (h:Ev.Hold ctx (lA c lv rs'::cA rv x'.m::((rs' p).ps c o++(famR c x rs p++r))) w) : Ev.Hold ctx (refL c x' rs' lv rv++r) w:=by
 refine hold_perm ?_ h
 have h1:=fam_split (fam c x' rs') hp
 have e:fam c x' rs' p=(rs' p).ps c o:=by unfold fam; rw [ho]
 have h2:=h1.append_right r
 rw [e,List.append_assoc] at h2
 have e2:((List.range c.n).erase p).flatMap (fam c x' rs')=famR c x rs p:=famR_same hf
 rw [e2] at h2
 exact (h2.symm.cons _).cons _
theorem there12 (m:Nat) (p:Int) {ra la:Option Addr} {rn rk n lk:Nat} {ops pts:Int} (hn:n≤8) (w:World) :
  CallsIn Fence.wide m Tryz.prog 48 #[.agg (rV c (.slice ra rn rk) ops (.slice la n lk) pts).toArray,.int .i64 p] w fun e w'=>e=.returned (.bool (decide (0≤p∧p < (n:Int))))∧Below w.heap.size w w':=by
 refine callsIn_of_wp Tryz.func48 rfl trivial ?_ rfl
 simp only [Tryz.ntmps48,List.size_toArray,List.length_cons,List.length_nil,Nat.reduceAdd,Nat.reduceSub,Array.replicate_succ,Array.replicate_zero,List.push_toArray,List.append_toArray,List.nil_append,List.cons_append]
 have hB:=(Below.refl w.heap.size w).alloc (Nat.le_refl _) (.cells (rV c (.slice ra rn rk) ops (.slice la n lk) pts).toArray 56)
 obtain ⟨W1,hW1⟩ : ∃ W1,w.alloc (.cells (rV c (.slice ra rn rk) ops (.slice la n lk) pts).toArray 56)=W1:=⟨_,rfl⟩
 rw [hW1] at hB
 have c8:W1.cell? ⟨w.heap.size,8,none⟩=some (.slice la n lk):=by rw [← hW1]; exact cell_of (World.alloc_heap_new w _) 8 _ rfl
 by_cases h0:0≤p
 ·by_cases h1:p < (n:Int)
  ·have h0':p ≥ 0:=h0
   gi_wp2
   exact bodyPost_ret (results_tmp rfl _ _ _) rfl ⟨by simp [h0,h1],hB⟩
  ·have h0':p ≥ 0:=h0
   gi_wp2
   exact bodyPost_ret (results_tmp rfl _ _ _) rfl ⟨by simp [h1],hB⟩
 ·have h0':¬ p ≥ 0:=h0
  gi_wp2
  exact bodyPost_ret (results_tmp rfl _ _ _) rfl ⟨by simp; omega,hB⟩
end
end Go.Proofs.YtkmccgombmogmaaGreat
namespace Go.Proofs.YtkmccgombmogmaaGreat
open Go.RowKit
open Go.Ev (iz uz iN)
set_option linter.unusedVariables false
set_option linter.unusedSimpArgs false
set_option maxRecDepth 8000
abbrev oZ:List Value:=[.int .i64 0,.int .i64 0,.int .i64 0,.int .i64 0,.int .i64 0,.int .i64 0,.int .i64 0,.int .i64 0,.int .i64 0,.int .i64 0,.int .i64 0,.int .i64 0,.int .u64 0,.slice none 0 0,.slice none 0 0,.int .i64 0,.int .i64 0,.int .i64 0,.int .i64 0,.int .i64 0,.int .i64 0,.int .i64 0,.int .i64 0,.int .u64 0,.int .i64 0,.int .i64 0,.bool false,.int .i64 0,.int .i64 0,.int .i64 0,.int .i64 0,.int .i64 0,.int .i64 0,.int .i64 0,.int .i64 0,.int .i64 0,.int .i64 0,.int .u64 0,.slice none 0 0,.int .i64 0,.int .i64 0,.int .i64 0,.int .i64 0,.int .i64 0,.int .i64 0,.int .i64 0,.int .i64 0,.slice none 0 0,.int .i64 0,.int .u64 0,.int .i64 0,.int .i64 0,.int .i64 0,.slice none 0 0]
end Go.Proofs.YtkmccgombmogmaaGreat
namespace Go.Proofs.YtkmccgombmogmaaGreat
open Go.RowKit
open Go.Ev (iz uz iN)
set_option linter.unusedVariables false
set_option linter.unusedSimpArgs false
set_option maxRecDepth 8000
section
variable {ctx:Ev.Ctx} {w:World} {r:List Ev.Asr} {c:Cfg} {x:RaceS} {rs:Nat→OwR} {p:Nat} {o:OwnS} {M:MacS}
def OwR.free (r:OwR) : OwR:={ r with kd:=0,cv:=0,cg:=0 }
def setR (rs:Nat→OwR) (p:Nat) (r:OwR) : Nat→OwR:=fun q=>if q=p then r else rs q
theorem setR_at (rs:Nat→OwR) (p:Nat) (r:OwR) : setR rs p r p=r:=if_pos rfl
theorem setR_ne (rs:Nat→OwR) {p q:Nat} (r:OwR) (h:q ≠ p) : setR rs p r q=rs q:=if_neg h
set_option maxHeartbeats 4000000 in
theorem ends12w (m:Nat) {n:Nat} {pre mid post:List Value} {R:OwR} {la ra:Option Addr} {lk rn rk:Nat} {ops pts:Int} {got:Int} {oa:Option Addr} {on ok:Nat} (hn:n≤8) (hp:p < n) (hpre:pre.length=p * 54) (hlen:mid.length=54) (h1:∀ x ∈ pre++(mid++post),x.oneCell'=true)
  (hfr:R.free.cs c=[.int .i64 0,.int .i64 0,.int .i64 0]++mid.drop 3) (hfr1:∀ x ∈ R.free.cs c,x.oneCell'=true)
  (hk:mid[0]? = some (iz 1)∧mid[14]? = some (.slice oa on ok)∧got = -1∨mid[0]? = some (iz 2)∧(mid[26]? = some (.bool false)∧got = -1∨mid[26]? = some (.bool true)∧mid[25]? = some (iz got))∧Value.slice oa on ok=.slice none 0 0 ∨
   mid[0]? = some (iz 3)∧(mid[39]? = some (iz 0)∧got = -1∧Value.slice oa on ok=.slice none 0 0∨∃ (mn:Int) (bb bo bn bk:Nat),0 < mn∧mid[39]? = some (iz mn)∧mid[38]? = some (.slice (some ⟨bb,bo,none⟩) bn bk)∧0 < bn∧(∀ W,Ev.Hold ctx r W→W.cell? ⟨bb,bo,none⟩=some (iz got))∧mid[47]? = some (.slice oa on ok)))
  (h:Ev.Hold ctx (Ev.slA 114 54 (.slice la n lk) n (pre++(mid++post))::r) w) :
  CallsIn Fence.wide m Tryz.prog 58 #[.agg (rV c (.slice ra rn rk) ops (.slice la n lk) pts).toArray,.int .i64 (p:Int)] w fun e w'=>∃ a k kd,mid[0]? = some (iz kd)∧e=.returned (.tuple #[.agg (rV c (.slice ra rn rk) ops (.slice a n k) pts).toArray,.agg #[iz kd,iz got,.slice oa on ok],.bool true])∧Ev.Hold ctx (Ev.slA 114 54 (.slice a n k) n (pre++(R.free.cs c++post))::r) w':=by
 refine callsIn_of_wp Tryz.func58 rfl trivial ?_ rfl
 simp only [Tryz.ntmps58,List.size_toArray,List.length_cons,List.length_nil,Nat.reduceAdd,Nat.reduceSub,Array.replicate_succ,Array.replicate_zero,List.push_toArray,List.append_toArray,List.nil_append,List.cons_append]
 obtain ⟨ba,off,lc,hav,hcc,hll⟩:=sl_some h (by omega) (by decide)
 cases hav
 obtain ⟨b1,hb1⟩ : ∃ b1,w.heap.size=b1:=⟨_,rfl⟩
 obtain ⟨RV,hRV⟩ : ∃ RV,rV c (.slice ra rn rk) ops (.slice (some ⟨ba,off,none⟩) n lk) pts=RV:=⟨_,rfl⟩
 have g1:=hold_new RV 56 h
 rw [hb1] at g1
 obtain ⟨W1,hW1⟩ : ∃ W1,w.alloc (.cells RV.toArray 56)=W1:=⟨_,rfl⟩
 rw [hW1] at g1
 obtain ⟨b2,hb2⟩ : ∃ b2,W1.heap.size=b2:=⟨_,rfl⟩
 have g2:=hold_new rZ 56 g1
 rw [hb2] at g2
 obtain ⟨W2,hW2⟩ : ∃ W2,W1.alloc (.cells #[.int .i64 0,.int .i64 0,.int .i64 0,.int .i64 0,.int .i64 0,.int .i64 0,.slice none 0 0,.int .u64 0,.slice none 0 0,.int .i64 0] 56)=W2:=⟨_,rfl⟩
 replace g2:Ev.Hold ctx (Ev.blkA b2 rZ 56 :: Ev.blkA b1 RV 56 :: Ev.slA 114 54 (.slice (some ⟨ba,off,none⟩) n lk) n (pre++(mid++post))::r) W2:=by rw [← hW2]; exact g2
 obtain ⟨b3,hb3⟩ : ∃ b3,W2.heap.size=b3:=⟨_,rfl⟩
 have g3:=hold_new [.int .i64 0,.int .i64 0,.slice none 0 0] 62 g2
 rw [hb3] at g3
 obtain ⟨W3,hW3⟩ : ∃ W3,W2.alloc (.cells #[.int .i64 0,.int .i64 0,.slice none 0 0] 62)=W3:=⟨_,rfl⟩
 replace g3:Ev.Hold ctx (Ev.blkA b3 [.int .i64 0,.int .i64 0,.slice none 0 0] 62 :: Ev.blkA b2 rZ 56 :: Ev.blkA b1 RV 56 :: Ev.slA 114 54 (.slice (some ⟨ba,off,none⟩) n lk) n (pre++(mid++post))::r) W3:=by rw [← hW3]; exact g3
 have c8:W3.cell? ⟨b1,8,none⟩=some (.slice (some ⟨ba,off,none⟩) n lk):=cell_of (hold_blk (hold_up [_,_] g3)) 8 _ (by rw [← hRV]; rfl)
 have r1:=ld_sl (o:=off+p * 54) (t := 114) (hold_up [_,_,_] g3) (by rw [hpre]) (by omega) Tryz.underlying114 rfl (by rw [hlen]; kernel_rfl)
 obtain ⟨b4,hb4⟩ : ∃ b4,W3.heap.size=b4:=⟨_,rfl⟩
 have g4:=hold_new oZ 114 g3
 rw [hb4] at g4
 obtain ⟨W4,hW4⟩ : ∃ W4,W3.alloc (.cells oZ.toArray 114)=W4:=⟨_,rfl⟩
 rw [hW4] at g4
 obtain ⟨w5,r2,g5⟩:=st_all (t := 114) (cs':=mid) g4 (by rw [hlen]; rfl) (fun x hx=>h1 x (List.mem_append_right _ (List.mem_append_left _ hx))) (by rw [hlen]; kernel_rfl)
 have hpI:(p:Int) < (n:Int):=by omega
 obtain ⟨kd,hkd⟩ : ∃ kd,mid[0]? = some (iz kd):=by
  rcases hk with ⟨h,_⟩ | ⟨h,_⟩ | ⟨h,_⟩ <;> exact ⟨_,h⟩
 have k0:w5.cell? ⟨b4,0,none⟩=some (.int .i64 kd):=cell_of (hold_blk g5) 0 _ (by rw [List.getElem?_toArray]; exact hkd)
 obtain ⟨b5,hb5⟩ : ∃ b5,w5.heap.size=b5:=⟨_,rfl⟩
 have g6:=hold_new [iz kd,iz (-1),.slice none 0 0] 62 g5
 rw [hb5] at g6
 gi_upto_region 3 with (first
  | (refine wpListIn_load_run rfl _ _ rfl r1 rfl ?_)
  | (refine wpListIn_store_run rfl _ _ _ rfl r2 rfl rfl ?_))
 rename_i K12 a12 K3 a3
 obtain ⟨W6,hW6⟩ : ∃ W6,w5.alloc (.cells #[iz kd,iz (-1),.slice none 0 0] 62)=W6:=⟨_,rfl⟩
 replace g6:Ev.Hold ctx (Ev.blkA b5 [iz kd,iz (-1),.slice none 0 0] 62 :: Ev.blkA b4 mid 114 :: Ev.blkA b3 [.int .i64 0,.int .i64 0,.slice none 0 0] 62 :: Ev.blkA b2 rZ 56 :: Ev.blkA b1 RV 56 :: Ev.slA 114 54 (.slice (some ⟨ba,off,none⟩) n lk) n (pre++(mid++post))::r) W6:=by rw [← hW6]; exact g6
 rw [show w5.alloc (.cells #[.int .i64 kd,.int .i64 (-1),.slice none 0 0] 62)=W6 from hW6]
 have hK12:∀ (w7:World) {z9 z10 z11 z12 z13 z14 z15 z16 z17 z18 z19 z20 z21 z22 z23 z24 z25 z26 z27 z28 z29 z30 z31 z32 z33 z34 z35 z36 z37 z38 z39 z40 z41 z42 z43 z44 z45 z46 z47 z48 z49 z50:Value},Ev.Hold ctx (Ev.blkA b5 [iz kd,iz got,.slice oa on ok] 62 :: Ev.blkA b4 mid 114 :: Ev.blkA b3 [.int .i64 0,.int .i64 0,.slice none 0 0] 62 :: Ev.blkA b2 rZ 56 :: Ev.blkA b1 RV 56 :: Ev.slA 114 54 (.slice (some ⟨ba,off,none⟩) n lk) n (pre++(mid++post))::r) w7→K12 { tmps:=#[.agg RV.toArray,.int .i64 (p:Int),.pointer (some ⟨b1,0,none⟩),undef,.pointer (some ⟨b2,0,none⟩),.pointer (some ⟨b3,0,none⟩),.bool false,.pointer (some ⟨b4,0,none⟩),.pointer (some ⟨b5,0,none⟩),z9,z10,z11,z12,z13,z14,z15,z16,z17,z18,z19,z20,z21,z22,z23,z24,z25,z26,z27,z28,z29,z30,z31,z32,z33,z34,z35,z36,z37,z38,z39,z40,z41,z42,z43,z44,z45,z46,z47,z48,z49,z50,undef,undef,undef,undef,undef,undef,undef],defers:=[] } w7:=by
  intro w7 z9 z10 z11 z12 z13 z14 z15 z16 z17 z18 z19 z20 z21 z22 z23 z24 z25 z26 z27 z28 z29 z30 z31 z32 z33 z34 z35 z36 z37 z38 z39 z40 z41 z42 z43 z44 z45 z46 z47 z48 z49 z50 g7
  clear a3 g6 g5 g4 g3 g2 g1 k0 r1 r2 c8 hb1 hb2 hb3 hb4 hb5 hW1 hW2 hW3 hW4 hW6 hk hcc
  obtain ⟨w8,r3,g8⟩:=st_blk (pre:=[]) (mid:=mid.take 3) (post:=mid.drop 3) (o:=0) (t := 61) (mid':=[.int .i64 0,.int .i64 0,.int .i64 0]) (by rw [List.nil_append,List.take_append_drop]; exact hold_up [_] g7) rfl (by rw [List.length_take,hlen]; rfl) (by simp [Value.oneCell']) (by kernel_rfl)
  rw [List.nil_append,← hfr] at g8
  obtain ⟨OC,hOC⟩ : ∃ OC,R.free.cs c=OC:=⟨_,rfl⟩
  have hocl:OC.length=54:=by rw [← hOC,hfr]; simp [hlen]
  rw [hOC] at g8
  have g9:=hold_up [_,_,_,_,_] g8
  obtain ⟨OU,hOU⟩ : ∃ OU:List Value,[iz kd,iz got,.slice oa on ok]=OU:=⟨_,rfl⟩
  replace g9:Ev.Hold ctx (Ev.slA 114 54 (.slice (some ⟨ba,off,none⟩) n lk) n (pre++(mid++post))::Ev.blkA b4 OC 114 :: Ev.blkA b5 OU 62 :: Ev.blkA b3 [.int .i64 0,.int .i64 0,.slice none 0 0] 62 :: Ev.blkA b2 rZ 56 :: Ev.blkA b1 RV 56 :: r) w8:=by rw [← hOU]; exact g9
  clear g8 g7
  have hS:∀ (l0 l1 l2:Ev.Asr) (l:List Ev.Asr) (w':World),Ev.Hold ctx (l0::Ev.blkA b4 OC 114 :: Ev.blkA b5 OU 62 :: l1::l2::Ev.blkA b1 RV 56 :: l) w'→w'.rangeAt b1 0 RV∧w'.rangeAt b4 0 OC∧w'.rangeAt b5 0 OU:=fun l0 l1 l2 l w' hh =>
   ⟨rng_all (hold_up [_,_,_,_,_] hh),rng_all (hold_up [_] hh),rng_all (hold_up [_,_] hh)⟩
  have g9d:=hold_keep g9 ((Below.refl _ w8).drew)
  have hw:=callsIn_wide.1 (with12 0 (pts:=pts) (ops:=ops) (ra:=ra) (rn:=rn) (rk:=rk) (c:=c) hn hp hpre hlen hocl (by rw [← hOC]; exact hfr1) h1 g9d)
  rw [hRV] at hw
  have hu1:=Tryz.underlying56
  have hu2:=Tryz.underlying114
  have hu3:=Tryz.underlying62
  have hi1:(Tryz.prog.info? 56).map (·.size)=some RV.length:=by rw [← hRV]; kernel_rfl
  have hi2:(Tryz.prog.info? 114).map (·.size)=some OC.length:=by rw [hocl]; kernel_rfl
  have hi3:(Tryz.prog.info? 62).map (·.size)=some OU.length:=by rw [← hOU]; kernel_rfl
  have hOU1:∀ x ∈ OU,x.oneCell'=true:=by rw [← hOU]; simp [Value.oneCell']
  have hOUl:OU.length=3:=by rw [← hOU]; rfl
  gi_upto_region 13 with (refine wpListIn_store_run rfl _ _ _ rfl r3 rfl rfl ?_)
  clear hfr r3
  simp only [Act.put]
  refine wpIn_wide.2 ?_
  refine wp_region_held_drew (S:=fun w'=>w'.rangeAt b1 0 RV∧w'.rangeAt b4 0 OC∧w'.rangeAt b5 0 OU) (by kernel_rfl) (hS _ _ _ _ _ g9d) (fun hHeld=>?_)
  refine wpAnyH_take (i:=0) (v:=.agg RV.toArray) rfl (by kernel_rfl) (by kernel_rfl) (by kernel_rfl) (fun _ _ _ h=>h) (yieldsIf_load_mid (by rfl) 56 (.tmp 2) rfl b1 0 rfl RV _ (fun w hw=>hw.1) hu1 rfl hi1) (by assumption) ?_
  simp only [Act.put,List.getElem_toArray,List.getElem_cons_succ,List.getElem_cons_zero,List.setIfInBounds_toArray,List.set_cons_zero,List.set_cons_succ]
  refine wpAnyH_take (i:=1) (v:=.int .i64 (p:Int)) rfl (by kernel_rfl) (by kernel_rfl) (by kernel_rfl) (fun _ _ _ h=>h) (Or.inl ⟨by rfl,fun w hw=>by rfl⟩) (by assumption) ?_
  simp only [Act.put,List.getElem_toArray,List.getElem_cons_succ,List.getElem_cons_zero,List.setIfInBounds_toArray,List.set_cons_zero,List.set_cons_succ]
  refine wpAnyH_take (i:=2) (v:=.agg OC.toArray) rfl (by kernel_rfl) (by kernel_rfl) (by kernel_rfl) (fun _ _ _ h=>h) (yieldsIf_load_mid (by rfl) 114 (.tmp 7) rfl b4 0 rfl OC _ (fun w hw=>hw.2.1) hu2 rfl hi2) (by assumption) ?_
  simp only [Act.put,List.getElem_toArray,List.getElem_cons_succ,List.getElem_cons_zero,List.setIfInBounds_toArray,List.set_cons_zero,List.set_cons_succ]
  refine wpAnyH_take (i:=4) (v:=.agg OU.toArray) rfl (by kernel_rfl) (by kernel_rfl) (by kernel_rfl) (fun _ _ _ h=>h) (yieldsIf_load_mid (by rfl) 62 (.tmp 8) rfl b5 0 rfl OU _ (fun w hw=>hw.2.2) hu3 rfl hi3) (by assumption) ?_
  simp only [Act.put,List.getElem_toArray,List.getElem_cons_succ,List.getElem_cons_zero,List.setIfInBounds_toArray,List.set_cons_zero,List.set_cons_succ]
  refine wpAnyH_ready (rs:=[3]) (by kernel_rfl) (by simp) ?_
  refine AllReadyH.cons rfl (fun K hK=>?_) ?_
  rotate_left
  ·exact AllReadyH.nil
  go_simp
  (with_reducible refine hw.mono ?_)
  clear hw
  rintro e wA ⟨a,k,rfl,gA⟩
  obtain ⟨wB,rB,gB⟩:=st_all (t := 56) (cs':=rV c (.slice ra rn rk) ops (.slice a n k) pts) (hold_up [_,_,_,_] gA) rfl (by simp [rV,Value.oneCell']) (by kernel_rfl)
  replace gB:=hold_dn [_,_,_,_] gB
  obtain ⟨wC,rC,gC⟩:=st_all (t := 62) (cs':=OU) (hold_up [_,_,_] gB) hOUl hOU1 hi3
  replace gC:=hold_dn [_,_,_] gC
  refine hK.out _ _ (hS _ _ _ _ _ gA) (fun hHeld=>?_)
  clear hK K
  try simp only [Act.put,List.getElem_toArray,List.getElem_cons_succ,List.getElem_cons_zero,List.setIfInBounds_toArray,List.set_cons_zero,List.set_cons_succ]
  refine wpAnyH_ready (rs:=[5]) (by kernel_rfl) (by simp) ?_
  refine AllReadyH.cons rfl (fun K hK=>?_) ?_
  rotate_left
  ·exact AllReadyH.nil
  rw [if_pos (by rfl)]
  refine wp_store_run _ _ _ rfl rB rfl rfl ?_
  refine hK.out _ _ (hS _ _ _ _ _ gB) (fun hHeld=>?_)
  clear hK K
  try simp only [Act.put,List.getElem_toArray,List.getElem_cons_succ,List.getElem_cons_zero,List.setIfInBounds_toArray,List.set_cons_zero,List.set_cons_succ]
  refine wpAnyH_ready (rs:=[6]) (by kernel_rfl) (by simp) ?_
  refine AllReadyH.cons rfl (fun K hK=>?_) ?_
  rotate_left
  ·exact AllReadyH.nil
  rw [if_pos (by rfl)]
  refine wp_store_run _ _ _ rfl rC rfl rfl ?_
  refine hK.out _ _ (hS _ _ _ _ _ gC) (fun hHeld=>?_)
  clear hK K
  try simp only [Act.put,List.getElem_toArray,List.getElem_cons_succ,List.getElem_cons_zero,List.setIfInBounds_toArray,List.set_cons_zero,List.set_cons_succ]
  refine wpAnyH_ready (rs:=[7]) (by kernel_rfl) (by simp) ?_
  refine AllReadyH.cons rfl (fun K hK=>?_) ?_
  rotate_left
  ·exact AllReadyH.nil
  go_simp
  refine hK.out _ _ (hS _ _ _ _ _ gC) (fun hHeld=>?_)
  clear hK K
  try simp only [Act.put,List.getElem_toArray,List.getElem_cons_succ,List.getElem_cons_zero,List.setIfInBounds_toArray,List.set_cons_zero,List.set_cons_succ]
  refine wpAnyH_done (by kernel_rfl) ?_ _
  gi_wp2
  refine post_cell2T rfl rfl rfl rfl (lv_all (hold_up [_,_,_,_] gC) hu1 rfl (by kernel_rfl)) (lv_all (hold_up [_,_,_] gC) hu3 rfl hi3) ?_
  refine ⟨a,k,kd,hkd,by rw [← hOU]; rfl,?_⟩
  rw [hOC]
  exact hold_drop (r:=[_,_,_,_,_]) (hold_dn [_,_,_,_,_] gC)
 clear a12 g5 g4 g3 g2 g1 k0 r1 r2 c8 hb1 hb2 hb3 hb4 hb5 hW1 hW2 hW3 hW4 hW6 hcc
 have q5:=cell_of (hold_blk g6)
 have q0:W6.cell? ⟨b5,0,none⟩=some (iz kd):=q5 0 _ rfl
 have q1:W6.cell? ⟨b5,1,none⟩=some (iz (-1)):=q5 1 _ rfl
 have q2:W6.cell? ⟨b5,2,none⟩=some (.slice none 0 0):=q5 2 _ rfl
 have f1:W6.frozen? ⟨b5,1,none⟩=false:=froz_of (hold_blk g6) 1
 have f2:W6.frozen? ⟨b5,2,none⟩=false:=froz_of (hold_blk g6) 2
 have q4:∀ (j:Nat) (v:Value),mid[j]? = some v→W6.cell? ⟨b4,j,none⟩=some v:=fun j v hj=>cell_of (hold_blk (hold_up [_] g6)) j v (by rw [List.getElem?_toArray]; exact hj)
 have e0:W6.cell? ⟨b4,0,none⟩=some (.int .i64 kd):=q4 0 _ hkd
 have hr:=hold_drop (r:=[_,_,_,_,_,_]) g6
 clear q5
 have g7:=hold_set 2 (.slice oa on ok) g6
 rcases hk with ⟨h0,h2,h3⟩ | ⟨h0,h2,h3⟩ | ⟨h0,h2⟩
 ·rw [h0] at hkd
  cases hkd
  rw [h3] at hK12
  have e14:=q4 14 _ h2
  clear q4
  gi_wp2
  first | exact g7 | exact hK12 _ g7
 ·rw [h0] at hkd
  cases hkd
  rcases h2 with ⟨h2,rfl⟩ | ⟨h2,h4⟩
  ·have e26:=q4 26 _ h2
   clear q4
   rw [h3] at hK12
   gi_wp2
   first | exact g6 | exact hK12 _ g6
  ·have e26:=q4 26 _ h2
   have e25:=q4 25 _ h4
   have g8:=hold_set 1 (iz got) g6
   clear q4
   rw [h3] at hK12
   gi_wp2
   first | exact g8 | exact hK12 _ g8
 ·rw [h0] at hkd
  cases hkd
  rcases h2 with ⟨h2,rfl,h3⟩ | ⟨mn,bb,bo,bn,bk,hmn,h2,h3,hbn,h4,h5⟩
  ·have e39:=q4 39 _ h2
   clear q4
   rw [h3] at hK12
   gi_wp2
   first | exact g6 | exact hK12 _ g6
  ·have e39:=q4 39 _ h2
   have e38:=q4 38 _ h3
   have e47:=q4 47 _ h5
   have e4:=h4 W6 hr
   have hbI:(0:Int) < (bn:Int):=by omega
   have g8:=hold_set 2 (.slice oa on ok) (hold_set 1 (iz got) g6)
   clear q4 h4
   gi_wp2
   first | exact g8 | exact hK12 _ g8
end
end Go.Proofs.YtkmccgombmogmaaGreat
