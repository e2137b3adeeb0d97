/- Part of a proof: see the last text. -/
import Derived.Test.YtkmccgombmogmaaGreatZk2
import Derived.Test.YtkmccgombmogmaaGreatZk3
import Derived.OrdersHeld
import Derived.Deep.RegionHeld
namespace Go.Proofs.YtkmccgombmogmaaGreat
open Go.RowKit
set_option linter.unusedVariables false
set_option linter.unusedSimpArgs false
set_option maxRecDepth 8000
abbrev cpL (c:Cfg) (p:Nat) (l:List Value) : List Value:=.int .i64 (c.n:Int)::.int .i64 (c.q:Int)::.int .i64 c.g::.int .i64 c.m::.int .i64 c.t::.int .i64 c.s::.int .i64 (p:Int)::l
abbrev cpC (c:Cfg) (p b:Nat) (W:World) : Prop:=W.cell? ⟨b,0,none⟩=some (.int .i64 (c.n:Int))∧W.cell? ⟨b,1,none⟩=some (.int .i64 (c.q:Int))∧W.cell? ⟨b,2,none⟩=some (.int .i64 c.g)∧W.cell? ⟨b,3,none⟩=some (.int .i64 c.m)∧W.cell? ⟨b,4,none⟩=some (.int .i64 c.t)∧W.cell? ⟨b,5,none⟩=some (.int .i64 c.s)∧W.cell? ⟨b,6,none⟩=some (.int .i64 (p:Int))
section
variable {ctx:Ev.Ctx} {w:World} {r:List Ev.Asr} {c:Cfg} {p bp bm:Nat} {mm:MemM} {T:TypeId} {l:List Value}
theorem cpc (h:Ev.Hold ctx (Ev.blkA bp (cpL c p l) T::r) w) : cpC c p bp w:=⟨blkc h 0 _,blkc h 1 _,blkc h 2 _,blkc h 3 _,blkc h 4 _,blkc h 5 _,blkc h 6 _⟩
theorem MemOk.at_ {a:Nat} (hm:MemOk c mm) (ha:a < mm.cells.length) : mm.cells[a]? = some (ld mm a)∧(a:Int)≤9223372036854775807:=⟨(hm.get ha).1,by have:=hm.big; omega⟩
theorem rgload (n:Nat) (hp:p < c.n) (hm:MemOk c mm) {st w0 k:Int} (h:Ev.Hold ctx (Ev.blkA bp (cpL c p (.int .i64 st::.int .u64 w0::.int .u32 k::l)) T::memA bm mm::r) w) :
  CallsIn Fence.wide n Tryz.prog 146 #[.pointer (some ⟨bp,0,none⟩),.pointer (some ⟨bm,0,none⟩)] w fun e w'=>e=.returned (.int .u32 (szW (ld mm (c.word p))))∧Ev.Hold ctx (Ev.blkA bp (cpL c p (.int .i64 st::.int .u64 (ld mm (c.word p))::.int .u32 0::l)) T::memA bm mm.tick::r) w':=by
 obtain ⟨hx,ha⟩:=hm.at_ (hm.lt_word hp)
 have hu:=(hm.get (hm.lt_word hp)).2
 have hd:=hold_keep h (Below.refl _ _).drew
 refine wen Tryz.func146 25 ?_
 gi_upto_region 1 with fail
 refine wpIn_wide.2 ?_
 go_region_held3 (cpC c p bp) ((first | exact cpc hd | exact cpc h1 | exact cpc h2 | exact cpc (hold_set 8 (.int .u64 (ld mm (c.word p))) h2) | exact cpc (hold_set 9 (.int .u32 0) (hold_set 8 (.int .u64 (ld mm (c.word p))) h2)) | fail)) ((first
  | (go_at_call 40; have hcon:=word_ok c p hp w.drew; (with_reducible refine hcon.mono ?_); clear hcon; rintro e w1 ⟨rfl,b1⟩; have h1:=hold_keep hd b1)
  | (go_at_call 150; have hcon:=callsIn_wide.1 (load_in 0 hx ha (hold_swap h1)); (with_reducible refine hcon.mono ?_); clear hcon; rintro e w2 ⟨rfl,h2⟩; replace h2:=hold_swap h2; have x8:=blkc h2 8 _; have x9:=blkc h2 9 _; have f8:=froz_of (hold_blk h2) 8; have f9:=froz_of (hold_blk h2) 9)))
 have h3:=hold_set 9 (.int .u32 0) (hold_set 8 (.int .u64 (ld mm (c.word p))) h2)
 have y8:=blkc h3 8 _
 gi_wp2
 refine wcw (wLen _ hu _) ?_
 rintro e w3 ⟨rfl,rfl⟩
 gi_wp2
 exact bodyPost_ret (results_tmp rfl _ _ _) rfl ⟨rfl,h3⟩
theorem rgslot (n:Nat) (hp:p < c.n) {st w0 k:Int} (hw0:U64 w0) (i:Int) (h:Ev.Hold ctx (Ev.blkA bp (cpL c p (.int .i64 st::.int .u64 w0::.int .u32 k::l)) T::r) w) :
  CallsIn Fence.wide n Tryz.prog 148 #[.pointer (some ⟨bp,0,none⟩),.int .i64 i] w fun e w'=>e=.returned (.int .i64 ((c.slot p (IntKind.u32.wrap (tlW w0+IntKind.u32.wrap i)) : Nat) : Int))∧Ev.Hold ctx (Ev.blkA bp (cpL c p (.int .i64 st::.int .u64 w0::.int .u32 k::l)) T::r) w':=by
 have hd:=hold_keep h (Below.refl _ _).drew
 have h0:0≤IntKind.u32.wrap (tlW w0+IntKind.u32.wrap i):=by rw [wrap32]; omega
 refine wen Tryz.func148 20 ?_
 gi_upto_region 1 with fail
 refine wpIn_wide.2 ?_
 go_region_held3 (fun W=>cpC c p bp W∧W.cell? ⟨bp,8,none⟩=some (.int .u64 w0)) ((first | exact ⟨cpc hd,blkc hd 8 _⟩ | exact ⟨cpc h1,blkc h1 8 _⟩ | fail)) ((first
  | (have hcon:=wTail w0 hw0 w.drew; (with_reducible refine hcon.mono ?_); clear hcon; rintro e w1 ⟨rfl,rfl⟩)
  | (have hcon:=slot_ok c p hp _ h0 w.drew; (with_reducible refine hcon.mono ?_); clear hcon; rintro e w1 ⟨rfl,b1⟩; have h1:=hold_keep hd b1)))
 gi_wp2
 exact bodyPost_ret (results_tmp rfl _ _ _) rfl ⟨rfl,h1⟩
theorem rgchange (n:Nat) (hp:p < c.n) (hm:MemOk c mm) {st w0 k:Int} (v:Int) (h:Ev.Hold ctx (Ev.blkA bp (cpL c p (.int .i64 st::.int .u64 w0::.int .u32 k::l)) T::memA bm mm::r) w) :
  CallsIn Fence.wide n Tryz.prog 149 #[.pointer (some ⟨bp,0,none⟩),.pointer (some ⟨bm,0,none⟩),.int .u64 v] w fun e w'=>e=.returned (.bool (decide (ld mm (c.word p)=w0)))∧Ev.Hold ctx (Ev.blkA bp (cpL c p (.int .i64 (if ld mm (c.word p)=w0 then 0 else 1)::.int .u64 w0::.int .u32 k::l)) T::memA bm (if ld mm (c.word p)=w0 then mm.put (c.word p) v else mm.tick)::r) w':=by
 obtain ⟨hx,ha⟩:=hm.at_ (hm.lt_word hp)
 have hd:=hold_keep h (Below.refl _ _).drew
 obtain ⟨x,hxe⟩ : ∃ x,ld mm (c.word p)=x:=⟨_,rfl⟩
 rw [hxe] at hx ⊢
 obtain ⟨z,hz⟩ : ∃ z,decide (x=w0)=z:=⟨_,rfl⟩
 obtain ⟨M,hM⟩ : ∃ M,(if x=w0 then mm.put (c.word p) v else mm.tick)=M:=⟨_,rfl⟩
 obtain ⟨y,hy⟩ : ∃ y:Int,(if x=w0 then 0 else 1)=y:=⟨_,rfl⟩
 have hzy:(z=true∧y=0)∨(z=false∧y=1):=by
  by_cases e:x=w0
  ·exact .inl ⟨by rw [← hz]; simp [e],by rw [← hy,if_pos e]⟩
  ·exact .inr ⟨by rw [← hz]; simp [e],by rw [← hy,if_neg e]⟩
 have hcon:∀ {W:World},Ev.Hold ctx (Ev.blkA bp (cpL c p (.int .i64 st::.int .u64 w0::.int .u32 k::l)) T::memA bm mm::r) W→Calls Tryz.prog 154 #[.pointer (some ⟨bm,0,none⟩),.int .i64 ((c.word p:Nat) : Int),.int .u64 w0,.int .u64 v] W fun e w'=>e=.returned (.bool z)∧Ev.Hold ctx (memA bm M::Ev.blkA bp (cpL c p (.int .i64 st::.int .u64 w0::.int .u32 k::l)) T::r) w':=fun hh=>by
  have:=callsIn_wide.1 (cas_in 0 hx ha w0 v (hold_swap hh))
  rw [hz,hM] at this
  exact this
 rw [hz,hM,hy]
 clear hz hM hy hxe
 refine wen Tryz.func149 29 ?_
 gi_upto_region 1 with fail
 refine wpIn_wide.2 ?_
 go_region_held3 (fun W=>cpC c p bp W∧W.cell? ⟨bp,8,none⟩=some (.int .u64 w0)) ((first | exact ⟨cpc hd,blkc hd 8 _⟩ | exact ⟨cpc h1,blkc h1 8 _⟩ | exact ⟨cpc h2,blkc h2 8 _⟩ | fail)) ((first
  | (have hcon:=word_ok c p hp w.drew; (with_reducible refine hcon.mono ?_); clear hcon; rintro e w1 ⟨rfl,b1⟩; have h1:=hold_keep hd b1)
  | (have hcon:=hcon h1; (with_reducible refine hcon.mono ?_); clear hcon; rintro e w2 ⟨rfl,h2⟩; replace h2:=hold_swap h2)))
 have f7:=froz_of (hold_blk h2) 7
 have y7:=blkc h2 7 _
 rcases hzy with ⟨rfl,rfl⟩ | ⟨rfl,rfl⟩
 ·have h4:=hold_set 7 (.int .i64 0) (hold_set 7 (.int .i64 1) h2)
  have z7:=blkc (hold_set 7 (.int .i64 1) h2) 7 _
  have g7:=froz_of (hold_blk (hold_set 7 (.int .i64 1) h2)) 7
  gi_wp2
  exact bodyPost_ret (results_tmp rfl _ _ _) rfl ⟨rfl,h4⟩
 ·have h4:=hold_set 7 (.int .i64 1) h2
  gi_wp2
  exact bodyPost_ret (results_tmp rfl _ _ _) rfl ⟨rfl,h4⟩
end
end Go.Proofs.YtkmccgombmogmaaGreat
namespace Go.Proofs.YtkmccgombmogmaaGreat
open Go.RowKit
set_option linter.unusedVariables false
set_option linter.unusedSimpArgs false
set_option maxRecDepth 8000
section
variable {ctx:Ev.Ctx} {w:World} {r:List Ev.Asr} {c:Cfg} {p bp bm:Nat} {mm:MemM} {T:TypeId} {l:List Value}
abbrev pwL:List Value:=[.nilFunc,.func (.func 141) #[] #[],.func (.func 142) #[] #[],.func (.func 143) #[] #[],.func (.func 144) #[] #[],.func (.func 145) #[] #[]]
theorem pways (n:Nat) (h:Ev.Hold ctx r w) : CallsIn Fence.wide n Tryz.prog 140 #[] w fun e w'=>e=.returned (.agg pwL.toArray)∧Ev.Hold ctx r w':=by
 obtain ⟨b,W,hb,hW,g⟩:=newN [.nilFunc,.nilFunc,.nilFunc,.nilFunc,.nilFunc,.nilFunc] 219 h
 obtain ⟨W2,s2,g2⟩:=st_all (t := 219) (cs':=pwL) g rfl (by simp [Value.oneCell']) (by kernel_rfl)
 refine wen Tryz.func140 2 ?_
 gi_wp2_with (refine wpListIn_store_run rfl _ _ _ rfl s2 rfl rfl ?_)
 exact post_cell rfl rfl rfl (lv_all g2 Tryz.underlying219 rfl (by kernel_rfl)) ⟨rfl,hold_drop (r:=[_]) g2⟩
theorem phalf (n:Nat) (h:w.cell? ⟨bp,1,none⟩=some (.int .i64 (c.q:Int))) : CallsIn Fence.wide n Tryz.prog 151 #[.pointer (some ⟨bp,0,none⟩)] w fun e w'=>e=.returned (.int .u32 ((c.q / 2:Nat) : Int))∧w'=w:=by
 have z:=c.qb
 have e1:((c.q:Nat) : Int).tdiv 2=((c.q / 2:Nat) : Int):=by
  rw [Int.tdiv_eq_ediv_of_nonneg (by omega)]
  omega
 have e2:IntKind.u32.wrap ((c.q / 2:Nat) : Int)=((c.q / 2:Nat) : Int):=by rw [wrap32]; omega
 have e3:IntKind.i64.wrap ((c.q / 2:Nat) : Int)=((c.q / 2:Nat) : Int):=wrap_ok (by omega) (by omega)
 refine wen Tryz.func151 10 ?_
 gi_wp2
 exact bodyPost_ret (results_tmp rfl _ _ _) rfl ⟨rfl,rfl⟩
abbrev pB (c:Cfg) (p bp:Nat) (st w0 k gg:Int) (tk hd:Value) : Ev.Asr:=Ev.blkA bp (cpL c p [.int .i64 st,.int .u64 w0,.int .u32 k,.int .i64 gg,tk,hd]) 148
variable {st w0 k gg:Int} {tk hd:Value}
theorem plook (n:Nat) (hp:p < c.n) (hm:MemOk c mm) (h:Ev.Hold ctx (pB c p bp st w0 k gg tk hd::memA bm mm::r) w) :
  CallsIn Fence.wide n Tryz.prog 141 #[.pointer (some ⟨bp,0,none⟩),.pointer (some ⟨bm,0,none⟩)] w fun e w'=>e=.returned (.tuple #[])∧Ev.Hold ctx (pB c p bp (if (c.q:Int)≤szW (ld mm (c.word p)) then 4 else 2) (ld mm (c.word p)) 0 gg (.slice none 0 0) hd::memA bm mm.tick::r) w':=by
 have z:=c.qb
 have e2:IntKind.u32.wrap ((c.q:Nat) : Int)=((c.q:Nat) : Int):=by rw [wrap32]; omega
 obtain ⟨y,hy⟩ : ∃ y:Int,(if (c.q:Int)≤szW (ld mm (c.word p)) then 4 else 2)=y:=⟨_,rfl⟩
 have hqy:((c.q:Int)≤szW (ld mm (c.word p))∧y=4)∨(¬ (c.q:Int)≤szW (ld mm (c.word p))∧y=2):=by
  by_cases e:(c.q:Int)≤szW (ld mm (c.word p))
  ·exact .inl ⟨e,by rw [← hy,if_pos e]⟩
  ·exact .inr ⟨e,by rw [← hy,if_neg e]⟩
 rw [hy]
 clear hy
 have x7:=blkc h 7 _
 have f7:=froz_of (hold_blk h) 7
 have h1:=hold_set 7 (.int .i64 2) h
 have x11:=blkc h1 11 _
 have f11:=froz_of (hold_blk h1) 11
 have h2:=hold_set 11 (.slice none 0 0) h1
 refine wen Tryz.func141 26 ?_
 gi_upto_region 1 with fail
 obtain ⟨W2,hW2⟩ : ∃ W2,(w.setCell ⟨bp,7,none⟩ (.int .i64 2)).setCell ⟨bp,11,none⟩ (.slice none 0 0)=W2:=⟨_,rfl⟩
 rw [hW2] at h2 ⊢
 clear hW2 h1 h x7 f7 x11 f11
 have hd1:=hold_keep h2 (Below.refl _ _).drew
 refine wpIn_wide.2 ?_
 go_region_held3 (cpC c p bp) ((first | exact cpc hd1 | exact cpc h3 | fail)) ((first
  | (have hcon:=callsIn_wide.1 (rgload 0 hp hm hd1); (with_reducible refine hcon.mono ?_); clear hcon; rintro e w1 ⟨rfl,h3⟩)))
 have x7:=blkc h3 7 _
 have f7:=froz_of (hold_blk h3) 7
 rcases hqy with ⟨hq,rfl⟩ | ⟨hq,rfl⟩
 ·have h4:=hold_set 7 (.int .i64 4) h3
  gi_wp2
  exact bodyPost_end (results_none rfl _ _ _) rfl ⟨rfl,h4⟩
 ·gi_wp2
  exact bodyPost_end (results_none rfl _ _ _) rfl ⟨rfl,h3⟩
theorem play (n:Nat) (hp:p < c.n) (hm:MemOk c mm) (hg:0≤gg∧gg≤9223372036854775807) (hw0:U64 w0) (h:Ev.Hold ctx (pB c p bp st w0 k gg tk hd::memA bm mm::r) w) :
  CallsIn Fence.wide n Tryz.prog 142 #[.pointer (some ⟨bp,0,none⟩),.pointer (some ⟨bm,0,none⟩)] w fun e w'=>e=.returned (.tuple #[])∧Ev.Hold ctx (pB c p bp 3 w0 k gg tk hd::memA bm (mm.put (c.slot p (tlW w0)) gg)::r) w':=by
 obtain ⟨hx,ha⟩:=hm.at_ (hm.lt_slot hp (tlW w0))
 have e2:IntKind.u64.wrap gg=gg:=by rw [IntKind.wrap_u64]; omega
 have hd1:=hold_keep h (Below.refl _ _).drew
 have hs:=rgslot 0 hp hw0 0 hd1
 rw [show IntKind.u32.wrap (tlW w0+IntKind.u32.wrap 0)=tlW w0 by have:=tlW_bd w0; rw [wrap32,wrap32]; omega] at hs
 refine wen Tryz.func142 17 ?_
 gi_upto_region 0 with fail
 refine wpIn_wide.2 ?_
 go_region_held3 (fun W=>W.cell? ⟨bp,10,none⟩=some (.int .i64 gg)) ((first | exact blkc hd1 10 _ | exact blkc h2 10 _ | exact blkc h3 10 _ | fail)) ((first
  | (have hcon:=callsIn_wide.1 hs; (with_reducible refine hcon.mono ?_); clear hcon; rintro e w1 ⟨rfl,h2⟩)
  | (have hcon:=callsIn_wide.1 (store_in 0 hx ha gg (hold_swap h2)); (with_reducible refine hcon.mono ?_); clear hcon; rintro e w1 ⟨rfl,h3⟩; replace h3:=hold_swap h3)))
 have x7:=blkc h3 7 _
 have f7:=froz_of (hold_blk h3) 7
 have h4:=hold_set 7 (.int .i64 3) h3
 gi_wp2
 exact bodyPost_end (results_none rfl _ _ _) rfl ⟨rfl,h4⟩
theorem pswing (n:Nat) (hp:p < c.n) (hm:MemOk c mm) (hw0:U64 w0) (hs:List Int) (h:Ev.Hold ctx (pB c p bp st w0 k gg tk hd::memA bm mm::isA hd hs::r) w) :
  CallsIn Fence.wide n Tryz.prog 143 #[.pointer (some ⟨bp,0,none⟩),.pointer (some ⟨bm,0,none⟩)] w fun e w'=>e=.returned (.tuple #[])∧∃ hd',Ev.Hold ctx (pB c p bp (if ld mm (c.word p)=w0 then 0 else 1) w0 k gg tk hd'::memA bm (if ld mm (c.word p)=w0 then mm.put (c.word p) (mvW w0 1) else mm.tick)::isA hd' (if ld mm (c.word p)=w0 then [] else hs)::r) w':=by
 have hd1:=hold_keep h (Below.refl _ _).drew
 have hc:=rgchange 0 hp hm (mvW w0 1) hd1
 by_cases e:ld mm (c.word p)=w0
 all_goals
  simp only [e,if_pos,if_neg,decide_true,decide_false,↓reduceIte] at hc ⊢
  refine wen Tryz.func143 16 ?_
  gi_upto_region 0 with fail
  refine wpIn_wide.2 ?_
  go_region_held3 (fun W=>W.cell? ⟨bp,8,none⟩=some (.int .u64 w0)) ((first | exact blkc hd1 8 _ | exact blkc h2 8 _ | fail)) ((first
   | (have hcon:=wGrow w0 1 hw0 w.drew; (with_reducible refine hcon.mono ?_); clear hcon; rintro e w1 ⟨rfl,rfl⟩)
   | (have hcon:=callsIn_wide.1 hc; (with_reducible refine hcon.mono ?_); clear hcon; rintro e w1 ⟨rfl,h2⟩)))
 ·have x12:=blkc h2 12 _
  have f12:=froz_of (hold_blk h2) 12
  have h4:=hold_set 12 (.slice none 0 0) h2
  gi_wp2
  exact bodyPost_end (results_none rfl _ _ _) rfl ⟨rfl,.slice none 0 0,hsel [_,_,_,_] (h4.nilSl (e := 3) (sz:=1)) [1,2,0]⟩
 ·gi_wp2
  exact bodyPost_end (results_none rfl _ _ _) rfl ⟨rfl,hd,h2⟩
theorem iapp1 {u:Value} {xs:List Int} (g:Int) (hn:xs.length≤999999) (h:Ev.Hold ctx (isA u xs::r) w) :
  ∃ a k w',(Builtin.append_ #[35,35] 35 #[u,.slice (some ⟨w.heap.size,0,none⟩) 1 1]).run Tryz.prog (w.alloc (.cells #[.int .i64 g] 3))=.ok (.slice a (xs.length+1) k) w'∧Ev.Hold ctx (isA (.slice a (xs.length+1) k) (xs++[g])::r) w':=by
 have h1:=hold_swap (blk_isA (hold_new [.int .i64 g] 3 h))
 obtain ⟨a,k,w',r1,h2⟩:=aapp (t := 35) rfl (by simp; omega) h1
 rw [List.length_append] at r1 h2
 exact ⟨a,k,w',r1,hsel [_,_] h2 [0]⟩
end
end Go.Proofs.YtkmccgombmogmaaGreat
namespace Go
set_option linter.unusedVariables false
section
variable {P:Program} {ops:Array Oper} {Q:Exit→Act→World→Prop} {S T:World→Prop} {n:Nat}
def earlyB (ops:Array Oper) (n:Nat) (listed:Array Bool) : Bool:=(List.range ops.size).all fun j=>decide (j < n) || !listed.getD j false
def waitsB (ops:Array Oper) (n i:Nat) : Bool:=(List.range ops.size).all fun j=>decide (j < n) || ((ops[j]?).map (·.after.any fun e=>Region.binds .any e && e.on == i)).getD true
def wpAnyB (P:Program) (ops:Array Oper) (Q:Exit→Act→World→Prop) (S:World→Prop) (n:Nat) : Nat→Array Bool→Act→World→Prop
 | 0,listed,a,w=>Region.ready .any ops listed=[]∧Q .normal a w
 | fuel+1,listed,a,w=>(Region.ready .any ops listed=[]→Q .normal a w)∧∀ i ∈ Region.ready .any ops listed,wpOp P ops Q i (fun a' w'=>(earlyB ops n (listed.setIfInBounds i true)=true→S w')∧wpAnyB P ops Q S n fuel (listed.setIfInBounds i true) a' w') a w
theorem any_of_B (fuel:Nat) : ∀ (listed:Array Bool) (a:Act) (w:World),wpAnyB P ops Q S n fuel listed a w→wpAny P .any ops Q fuel listed a w:=by
 induction fuel with
 | zero=>exact fun _ _ _ h=>h
 | succ fuel ih=>exact fun listed a w h=>⟨h.1,fun i hi=>wpOp_mono (fun a' w' k=>ih _ a' w' k.2) (h.2 i hi)⟩
theorem wp_region_B {id:Nat} {a:Act} {w:World} (S:World→Prop) (n:Nat) (hm:P.follows .mixedOrders=true) (hS:S w.drew) (h:S w.drew→wpAnyB P ops Q S n ops.size (Array.replicate ops.size false) a w.drew) : (Code.region id ops true).wp P Q a w :=
 wp_region_any hm (any_of_B _ _ _ _ (h hS))
theorem early_set {i:Nat} {listed:Array Bool} (hi:i < n) : earlyB ops n (listed.setIfInBounds i true)=earlyB ops n listed:=by
 unfold earlyB
 congr 1
 funext j
 by_cases h:j < n
 ·simp [h]
 ·have hne:i ≠ j:=by omega
  simp [hne]
def Apart (ops:Array Oper) (i j:Nat) : Prop:=∃ o,ops[j]? = some o∧∀ e ∈ o.after,Region.binds .any e=true→e.on ≠ i
theorem apart_lt {i j:Nat} (hB:waitsB ops n i=true) : Apart ops i j→j < n:=fun ⟨o,ho,hall⟩=>by
 have:=List.all_eq_true.1 hB j (List.mem_range.2 (Array.getElem?_eq_some_iff.1 ho).1)
 rw [ho] at this
 rcases Bool.or_eq_true_iff.1 this with h | h
 ·exact of_decide_eq_true h
 ·obtain ⟨e,he,h2⟩:=Array.any_eq_true'.1 (show o.after.any _=true from h)
  rw [Bool.and_eq_true,beq_iff_eq] at h2
  exact absurd h2.2 (hall e he h2.1)
theorem ready_apart {i j:Nat} {listed:Array Bool} (hr:i ∈ Region.ready .any ops listed) (hj:j ∈ Region.ready .any ops listed) : Apart ops i j:=by
 obtain ⟨h0,-⟩:=mem_ready.1 hr
 obtain ⟨-,o,ho,hall⟩:=mem_ready.1 hj
 refine ⟨o,ho,fun e he hb heq=>?_⟩
 have h1:=hall e he hb
 rw [heq] at h1
 by_cases h:i < listed.size
 ·simp [h] at h0 h1
  rw [h0] at h1
  cases h1
 ·simp [Array.getElem?_eq_none (Nat.le_of_not_lt h)] at h1
theorem firstB {i:Nat} {oi:Oper} {v:Value} (hi:ops[i]? = some oi) (hsel:∀ (j:Nat) (o:Oper) cs b,ops[j]? = some o→o.op ≠ .select cs b)
  (hQ:∀ c a w,Q (.panic c) (a.put oi.dst v) w→Q (.panic c) a w) (hin:i < n) (hT:(∀ w,T w)∨T=S∧waitsB ops n i=true) (fuel:Nat) :
  ∀ (listed:Array Bool) (a:Act) (w:World),(∀ j oj,ops[j]? = some oj→j ≠ i→listed.getD j true=false→Apart ops i j→oi.apart ops oj=true) →
   i ∈ Region.ready .any ops listed→YieldsIf P ops T oi v a→T w→(earlyB ops n listed=true→S w)→(∀ w,T w)∨earlyB ops n listed=true →
   wpAnyB P ops Q S n fuel (listed.setIfInBounds i true) (a.put oi.dst v) w→wpAnyB P ops Q S n (fuel+1) listed a w:=by
 induction fuel with
 | zero =>
  intro listed a w _ hr hy hw hS _ H
  have only:∀ j ∈ Region.ready .any ops listed,j=i:=fun j hj=>Classical.byContradiction fun hne=>by
   have:=ready_mono hj hne
   rw [H.1] at this
   cases this
  exact ⟨fun h=>(by rw [h] at hr; cases hr),fun j hj=>by rw [only j hj]; exact hy.wpOp hi hw ⟨fun h=>hS (by rwa [early_set hin] at h),H⟩⟩
 | succ fuel ih =>
  intro listed a w hf hr hy hw hS hL H
  refine ⟨fun h=>(by rw [h] at hr; cases hr),fun j hj=>?_⟩
  by_cases hne:j=i
  ·subst hne
   exact hy.wpOp hi hw ⟨fun h=>hS (by rwa [early_set hin] at h),H⟩
  have hap:=ready_apart hr hj
  have hsome:=hap
  obtain ⟨oj,hoj,-⟩:=hsome
  have step:=wpOp_putIf hoj (hf j oj hoj hne (mem_ready.1 hj).1 hap) (fun cs b=>hsel i oi cs b hi) (fun cs b=>hsel j oj cs b hoj) hQ hy (H.2 j (ready_mono hj hne))
  refine wpOp_mono (fun a' w' ⟨hy',hs',hrest⟩=>?_) step
  rw [Array.setIfInBounds_comm _ _ (Ne.symm hne)] at hs' hrest
  rw [early_set hin] at hs'
  have hL':(∀ w,T w)∨T w'∧earlyB ops n (listed.setIfInBounds j true)=true:=by
   rcases hT with hT | ⟨rfl,hB⟩
   ·exact .inl hT
   ·rcases hL with hL | hL
    ·exact .inl hL
    ·have he:earlyB ops n (listed.setIfInBounds j true)=true:=by rw [early_set (apart_lt hB hap)]; exact hL
     exact .inr ⟨hs' he,he⟩
  refine ⟨hs',ih _ a' w' (fun k ok hk hki hun hka=>hf k ok hk hki ?_ hka) (ready_mono hr (Ne.symm hne)) hy' (hL'.elim (fun h=>h w') And.left) hs' (hL'.imp id And.right) hrest⟩
  by_cases h:j=k
  ·rw [← h]
   exact (mem_ready.1 hj).1
  ·rwa [getD_set_ne true h] at hun
section
variable {i:Nat} {oi:Oper} {v:Value} {fuel:Nat} {listed:Array Bool} {a:Act} {w:World}
theorem free_apart (hi:ops[i]? = some oi) (hf:Region.free .any ops listed i=true) : ∀ j oj,ops[j]? = some oj→j ≠ i→listed.getD j true=false→Apart ops i j→oi.apart ops oj=true:=fun j oj hj hne hun ⟨o,ho,hall⟩=>by
 rw [hj] at ho
 cases ho
 exact Region.free_spec hi hf j oj hj hne hun hall
theorem takeB (hy:YieldsIf P ops S oi v a) (hS:S w) (h:wpAnyB P ops Q S n fuel (listed.setIfInBounds i true) (a.put oi.dst v) w)
  (hi:ops[i]? = some oi:=by rfl) (hs:Region.noSelect ops=true:=by kernel_rfl) (hf:Region.free .any ops listed i=true:=by kernel_rfl) (hr:(Region.ready .any ops listed).contains i=true:=by kernel_rfl)
  (hQ:∀ c a w,Q (.panic c) (a.put oi.dst v) w→Q (.panic c) a w:=by exact fun _ _ _ h=>h) (hin:i < n:=by decide) (hB:waitsB ops n i=true:=by kernel_rfl) (hL:earlyB ops n listed=true:=by kernel_rfl) : wpAnyB P ops Q S n (fuel+1) listed a w :=
 firstB hi (Region.noSelect_spec hs) hQ hin (.inr ⟨rfl,hB⟩) fuel listed a w (free_apart hi hf) (by simpa using hr) hy hS (fun _=>hS) (.inr hL) h
theorem takeB0 (hy:YieldsIf P ops (fun _=>True) oi v a) (hS:S w) (h:wpAnyB P ops Q S n fuel (listed.setIfInBounds i true) (a.put oi.dst v) w)
  (hi:ops[i]? = some oi:=by rfl) (hs:Region.noSelect ops=true:=by kernel_rfl) (hf:Region.free .any ops listed i=true:=by kernel_rfl) (hr:(Region.ready .any ops listed).contains i=true:=by kernel_rfl)
  (hQ:∀ c a w,Q (.panic c) (a.put oi.dst v) w→Q (.panic c) a w:=by exact fun _ _ _ h=>h) (hin:i < n:=by decide) : wpAnyB P ops Q S n (fuel+1) listed a w :=
 firstB hi (Region.noSelect_spec hs) hQ hin (.inl fun _=>trivial) fuel listed a w (free_apart hi hf) (by simpa using hr) hy trivial (fun _=>hS) (.inl fun _=>trivial) h
theorem nextB (h:∀ K':Act→World→Prop,Shut (∀ a w,S w→(S w→wpAnyB P ops Q S n fuel (listed.setIfInBounds i true) a w)→K' a w)→if Region.wanted oi (yielded ops a.tmps)=true then Oper.wp P oi a w K' Q else K' (a.put oi.dst undef) w)
  (ho:ops[i]? = some oi:=by rfl) (hr:Region.ready .any ops listed=[i]:=by kernel_rfl) : wpAnyB P ops Q S n (fuel+1) listed a w:=by
 refine ⟨fun h0=>(by rw [hr] at h0; cases h0),fun j hj=>?_⟩
 rw [hr] at hj
 obtain rfl:j=i:=by simpa using hj
 exact wpOp_step ho (fun K' hK=>h K' (fun a w hS hW=>hK a w ⟨fun _=>hS,hW hS⟩))
theorem lastB (h:∀ K':Act→World→Prop,Shut (∀ a w,wpAnyB P ops Q S n fuel (listed.setIfInBounds i true) a w→K' a w)→if Region.wanted oi (yielded ops a.tmps)=true then Oper.wp P oi a w K' Q else K' (a.put oi.dst undef) w)
  (ho:ops[i]? = some oi:=by rfl) (hr:Region.ready .any ops listed=[i]:=by kernel_rfl) (hL:earlyB ops n (listed.setIfInBounds i true)=false:=by kernel_rfl) : wpAnyB P ops Q S n (fuel+1) listed a w:=by
 refine ⟨fun h0=>(by rw [hr] at h0; cases h0),fun j hj=>?_⟩
 rw [hr] at hj
 obtain rfl:j=i:=by simpa using hj
 exact wpOp_step ho (fun K' hK=>h K' (fun a w hW=>hK a w ⟨fun he=>(by rw [hL] at he; cases he),hW⟩))
end
theorem doneB {listed:Array Bool} {a:Act} {w:World} (h:Q .normal a w) (hr:Region.ready .any ops listed=[]:=by kernel_rfl) : ∀ fuel,wpAnyB P ops Q S n fuel listed a w
 | 0=>⟨hr,h⟩
 | _+1=>⟨fun _=>h,by rw [hr]; simp⟩
end
end Go
namespace Go.Proofs.YtkmccgombmogmaaGreat
open Go.RowKit
set_option linter.unusedVariables false
set_option linter.unusedSimpArgs false
set_option maxRecDepth 8000
section
variable {ctx:Ev.Ctx} {w:World} {r:List Ev.Asr} {c:Cfg} {p bp bm:Nat} {mm:MemM} {st w0 k gg:Int} {tk hd:Value}
set_option maxHeartbeats 2000000 in
theorem ptake (n:Nat) (hp:p < c.n) (hm:MemOk c mm) (hw0:U64 w0) (ts:List Int) (hts:ts.length≤64) (h:Ev.Hold ctx (pB c p bp 4 w0 k gg tk hd::memA bm mm::isA tk ts::r) w) :
  CallsIn Fence.wide n Tryz.prog 144 #[.pointer (some ⟨bp,0,none⟩),.pointer (some ⟨bm,0,none⟩)] w fun e w'=>e=.returned (.tuple #[])∧∃ tk',Ev.Hold ctx (pB c p bp (if ts.length+1=c.q / 2 then 5 else 4) w0 k gg tk' hd::memA bm mm.tick::isA tk' (ts++[IntKind.i64.wrap (ld mm (c.slot p (tkI c w0 ts.length)))])::r) w':=by
 have z:=c.qb
 obtain ⟨s5,hs5⟩ : ∃ s5:Int,(if ts.length+1=c.q / 2 then 5 else 4)=s5:=⟨_,rfl⟩
 have hq5:(ts.length+1=c.q / 2∧s5=5)∨(¬ ts.length+1=c.q / 2∧s5=4):=by
  by_cases e:ts.length+1=c.q / 2
  ·exact .inl ⟨e,by rw [← hs5,if_pos e]⟩
  ·exact .inr ⟨e,by rw [← hs5,if_neg e]⟩
 rw [hs5]
 clear hs5
 obtain ⟨x,hxe⟩ : ∃ x,ld mm (c.slot p (tkI c w0 ts.length))=x:=⟨_,rfl⟩
 obtain ⟨hx,ha⟩:=hm.at_ (hm.lt_slot hp (tkI c w0 ts.length))
 have e1:IntKind.i64.wrap ((ts.length:Int) - ((c.q / 2:Nat) : Int))=(ts.length:Int) - ((c.q / 2:Nat) : Int):=wrap_ok (by omega) (by omega)
 have e2:IntKind.i64.wrap ((c.q / 2:Nat) : Int)=((c.q / 2:Nat) : Int):=wrap_ok (by omega) (by omega)
 obtain ⟨ta,tc,rfl⟩:=slr_val (hold_slr (hold_drop (r:=[_,_]) h))
 have hd1:=hold_keep h (Below.refl _ _).drew
 have hhf:=phalf (c:=c) (bp:=bp) (w:=w.drew) 0 (blkc hd1 1 _)
 have hs:=rgslot 0 hp hw0 ((ts.length:Int) - ((c.q / 2:Nat) : Int)) hd1
 rw [tkI_prog] at hs
 have ec:((c.q / 2:Nat) : Int)=(c.q:Int) / 2:=by omega
 rw [ec] at e1 e2 hs hhf
 have q0:=blkc hd1 11 _
 rw [hxe] at hx ⊢
 obtain ⟨y,hy⟩ : ∃ y,IntKind.i64.wrap x=y:=⟨_,rfl⟩
 rw [hy]
 refine wen Tryz.func144 40 ?_
 gi_upto_region 0 with fail
 gi_cut [] from 2 (fun wx=>∃ tk',Ev.Hold ctx (pB c p bp 4 w0 k gg tk' hd::memA bm mm.tick::isA tk' (ts++[y])::r) wx)
 case first =>
  refine wpIn_wide.2 ?_
  refine wp_region_noPanic ?_
  refine wp_region_B (fun W=>W.cell? ⟨bp,1,none⟩=some (.int .i64 (c.q:Int))∧W.cell? ⟨bp,11,none⟩=some (.slice ta ts.length tc)) 23 (by kernel_rfl) ?_ (fun hHeld=>?_)
  ·(try dsimp only); (first | exact ⟨blkc hd1 1 _,blkc hd1 11 _⟩ | exact ⟨blkc h2 1 _,blkc h2 11 _⟩ | exact ⟨blkc h3 1 _,blkc h3 11 _⟩ | exact ⟨blkc h4 1 _,blkc h4 11 _⟩ | exact ⟨blkc h5 1 _,blkc h5 11 _⟩)
  refine takeB0 (i:=0) (v:=?_) (Or.inl ⟨by kernel_rfl,?_⟩) (by assumption) ?_
  rotate_left
  ·intro w _; go_simp; try with_reducible rfl
  try simp only [Act.put,List.setIfInBounds_toArray,List.set_cons_zero,List.set_cons_succ]
  refine takeB0 (i:=1) (v:=?_) (Or.inl ⟨by kernel_rfl,?_⟩) (by assumption) ?_
  rotate_left
  ·intro w _; go_simp; try with_reducible rfl
  try simp only [Act.put,List.setIfInBounds_toArray,List.set_cons_zero,List.set_cons_succ]
  refine takeB0 (i:=2) (v:=?_) (Or.inl ⟨by kernel_rfl,?_⟩) (by assumption) ?_
  rotate_left
  ·intro w _; go_simp; try with_reducible rfl
  try simp only [Act.put,List.setIfInBounds_toArray,List.set_cons_zero,List.set_cons_succ]
  refine takeB0 (i:=3) (v:=?_) (Or.inl ⟨by kernel_rfl,?_⟩) (by assumption) ?_
  rotate_left
  ·intro w _; go_simp; try with_reducible rfl
  try simp only [Act.put,List.setIfInBounds_toArray,List.set_cons_zero,List.set_cons_succ]
  refine takeB (i:=4) (v:=?_) (Or.inl ⟨by kernel_rfl,?_⟩) (by assumption) ?_
  rotate_left
  ·intro w hSw; (try dsimp only at hSw); go_simp; try with_reducible rfl
  try simp only [Act.put,List.setIfInBounds_toArray,List.set_cons_zero,List.set_cons_succ]
  refine takeB0 (i:=5) (v:=?_) (Or.inl ⟨by kernel_rfl,?_⟩) (by assumption) ?_
  rotate_left
  ·intro w _; go_simp; try with_reducible rfl
  try simp only [Act.put,List.setIfInBounds_toArray,List.set_cons_zero,List.set_cons_succ]
  refine takeB0 (i:=6) (v:=?_) (Or.inl ⟨by kernel_rfl,?_⟩) (by assumption) ?_
  rotate_left
  ·intro w _; go_simp; try with_reducible rfl
  try simp only [Act.put,List.setIfInBounds_toArray,List.set_cons_zero,List.set_cons_succ]
  refine takeB0 (i:=7) (v:=?_) (Or.inl ⟨by kernel_rfl,?_⟩) (by assumption) ?_
  rotate_left
  ·intro w _; go_simp; try with_reducible rfl
  try simp only [Act.put,List.setIfInBounds_toArray,List.set_cons_zero,List.set_cons_succ]
  refine takeB0 (i:=8) (v:=?_) (Or.inl ⟨by kernel_rfl,?_⟩) (by assumption) ?_
  rotate_left
  ·intro w _; go_simp; try with_reducible rfl
  try simp only [Act.put,List.setIfInBounds_toArray,List.set_cons_zero,List.set_cons_succ]
  refine takeB0 (i:=9) (v:=?_) (Or.inl ⟨by kernel_rfl,?_⟩) (by assumption) ?_
  rotate_left
  ·intro w _; go_simp; try with_reducible rfl
  try simp only [Act.put,List.setIfInBounds_toArray,List.set_cons_zero,List.set_cons_succ]
  refine takeB0 (i:=10) (v:=?_) (Or.inl ⟨by kernel_rfl,?_⟩) (by assumption) ?_
  rotate_left
  ·intro w _; go_simp; try with_reducible rfl
  try simp only [Act.put,List.setIfInBounds_toArray,List.set_cons_zero,List.set_cons_succ]
  refine takeB0 (i:=11) (v:=?_) (Or.inl ⟨by kernel_rfl,?_⟩) (by assumption) ?_
  rotate_left
  ·intro w _; go_simp; try with_reducible rfl
  try simp only [Act.put,List.setIfInBounds_toArray,List.set_cons_zero,List.set_cons_succ]
  refine takeB (i:=12) (v:=?_) (Or.inl ⟨by kernel_rfl,?_⟩) (by assumption) ?_
  rotate_left
  ·intro w hSw; (try dsimp only at hSw); go_simp; try with_reducible rfl
  try simp only [Act.put,List.setIfInBounds_toArray,List.set_cons_zero,List.set_cons_succ]
  refine takeB0 (i:=13) (v:=?_) (Or.inl ⟨by kernel_rfl,?_⟩) (by assumption) ?_
  rotate_left
  ·intro w _; go_simp; try with_reducible rfl
  try simp only [Act.put,List.setIfInBounds_toArray,List.set_cons_zero,List.set_cons_succ]
  refine takeB0 (i:=14) (v:=?_) (Or.inl ⟨by kernel_rfl,?_⟩) (by assumption) ?_
  rotate_left
  ·intro w _; go_simp; try with_reducible rfl
  try simp only [Act.put,List.setIfInBounds_toArray,List.set_cons_zero,List.set_cons_succ]
  refine nextB (i:=15) (ho:=rfl) (fun K hK=>?_)
  go_simp
  (have hcon:=callsIn_wide.1 hhf; (with_reducible refine hcon.mono ?_); clear hcon; rintro e w1 ⟨rfl,hw1⟩; replace hw1:=hw1.symm; subst hw1)
  first | refine hK.out _ _ ?_ (fun hHeld=>?_) | (go_wp2_with fail; refine hK.out _ _ ?_ (fun hHeld=>?_))
  ·(try dsimp only); (first | exact ⟨blkc hd1 1 _,blkc hd1 11 _⟩ | exact ⟨blkc h2 1 _,blkc h2 11 _⟩ | exact ⟨blkc h3 1 _,blkc h3 11 _⟩ | exact ⟨blkc h4 1 _,blkc h4 11 _⟩ | exact ⟨blkc h5 1 _,blkc h5 11 _⟩)
  clear hK K
  try simp only [Act.put,List.setIfInBounds_toArray,List.set_cons_zero,List.set_cons_succ]
  refine takeB0 (i:=16) (v:=?_) (Or.inl ⟨by kernel_rfl,?_⟩) (by assumption) ?_
  rotate_left
  ·intro w _; go_simp; try with_reducible rfl
  try simp only [Act.put,List.setIfInBounds_toArray,List.set_cons_zero,List.set_cons_succ]
  refine takeB0 (i:=17) (v:=?_) (Or.inl ⟨by kernel_rfl,?_⟩) (by assumption) ?_
  rotate_left
  ·intro w _; go_simp; try with_reducible rfl
  try simp only [Act.put,List.setIfInBounds_toArray,List.set_cons_zero,List.set_cons_succ]
  refine nextB (i:=18) (ho:=rfl) (fun K hK=>?_)
  go_simp
  (have hcon:=callsIn_wide.1 hs; (with_reducible refine hcon.mono ?_); clear hcon; rintro e w1 ⟨rfl,h2⟩; have q1:=blkc h2 11 _)
  first | refine hK.out _ _ ?_ (fun hHeld=>?_) | (go_wp2_with fail; refine hK.out _ _ ?_ (fun hHeld=>?_))
  ·(try dsimp only); (first | exact ⟨blkc hd1 1 _,blkc hd1 11 _⟩ | exact ⟨blkc h2 1 _,blkc h2 11 _⟩ | exact ⟨blkc h3 1 _,blkc h3 11 _⟩ | exact ⟨blkc h4 1 _,blkc h4 11 _⟩ | exact ⟨blkc h5 1 _,blkc h5 11 _⟩)
  clear hK K
  try simp only [Act.put,List.setIfInBounds_toArray,List.set_cons_zero,List.set_cons_succ]
  refine nextB (i:=19) (ho:=rfl) (fun K hK=>?_)
  go_simp
  (have hcon:=callsIn_wide.1 (load_in 0 hx ha (hold_swap h2)); (with_reducible refine hcon.mono ?_); clear hcon; rintro e w2 ⟨rfl,h3⟩; replace h3:=hold_swap h3; have q2:=blkc h3 11 _; have h4:=hold_new [.int .i64 y] 3 h3; replace h4:=hold_up [_] h4; have q3:=blkc h4 11 _; obtain ⟨a5,k5,w5,r5,h5⟩:=iapp1 y (by omega) (hold_up [_,_] h3); replace h5:=hold_up [_] h5; have q5:=blkc h5 11 _; have f5:=froz_of (hold_blk h5) 11; have h6:=hold_set 11 (.slice a5 (ts.length+1) k5) h5)
  first | refine hK.out _ _ ?_ (fun hHeld=>?_) | (go_wp2_with fail; refine hK.out _ _ ?_ (fun hHeld=>?_))
  ·(try dsimp only); (first | exact ⟨blkc hd1 1 _,blkc hd1 11 _⟩ | exact ⟨blkc h2 1 _,blkc h2 11 _⟩ | exact ⟨blkc h3 1 _,blkc h3 11 _⟩ | exact ⟨blkc h4 1 _,blkc h4 11 _⟩ | exact ⟨blkc h5 1 _,blkc h5 11 _⟩)
  clear hK K
  try simp only [Act.put,List.setIfInBounds_toArray,List.set_cons_zero,List.set_cons_succ]
  refine takeB0 (i:=20) (v:=?_) (Or.inl ⟨by kernel_rfl,?_⟩) (by assumption) ?_
  rotate_left
  ·intro w _; go_simp; try with_reducible rfl
  try simp only [Act.put,List.setIfInBounds_toArray,List.set_cons_zero,List.set_cons_succ]
  refine nextB (i:=21) (ho:=rfl) (fun K hK=>?_)
  go_simp
  refine hK.out _ _ ?_ (fun hHeld=>?_)
  ·(try dsimp only); (first | exact ⟨blkc hd1 1 _,blkc hd1 11 _⟩ | exact ⟨blkc h2 1 _,blkc h2 11 _⟩ | exact ⟨blkc h3 1 _,blkc h3 11 _⟩ | exact ⟨blkc h4 1 _,blkc h4 11 _⟩ | exact ⟨blkc h5 1 _,blkc h5 11 _⟩)
  clear hK K
  try simp only [Act.put,List.setIfInBounds_toArray,List.set_cons_zero,List.set_cons_succ]
  refine nextB (i:=22) (ho:=rfl) (fun K hK=>?_)
  (rw [if_pos (by rfl)]; refine wp_append_run _ _ _ rfl r5 ?_)
  refine hK.out _ _ ?_ (fun hHeld=>?_)
  ·(try dsimp only); (first | exact ⟨blkc hd1 1 _,blkc hd1 11 _⟩ | exact ⟨blkc h2 1 _,blkc h2 11 _⟩ | exact ⟨blkc h3 1 _,blkc h3 11 _⟩ | exact ⟨blkc h4 1 _,blkc h4 11 _⟩ | exact ⟨blkc h5 1 _,blkc h5 11 _⟩)
  clear hK K
  try simp only [Act.put,List.setIfInBounds_toArray,List.set_cons_zero,List.set_cons_succ]
  refine lastB (i:=23) (ho:=rfl) (fun K hK=>?_)
  go_simp
  refine hK.out _ _ ?_
  clear hK K
  try simp only [Act.put,List.setIfInBounds_toArray,List.set_cons_zero,List.set_cons_succ]
  refine lastB (i:=24) (ho:=rfl) (fun K hK=>?_)
  go_simp
  refine hK.out _ _ ?_
  clear hK K
  try simp only [Act.put,List.setIfInBounds_toArray,List.set_cons_zero,List.set_cons_succ]
  refine lastB (i:=25) (ho:=rfl) (fun K hK=>?_)
  go_simp
  refine hK.out _ _ ?_
  clear hK K
  try simp only [Act.put,List.setIfInBounds_toArray,List.set_cons_zero,List.set_cons_succ]
  refine (doneB (h:=?_) (hr:=by kernel_rfl)) _
  refine NoPanic.normal ?_
  all_goals
   gi_wp2
   gi_meet
   case rel=>exact ⟨_,hsel [_,_,_] h6 [0,2,1]⟩
 case rest =>
  obtain ⟨tk',h6⟩:=hcut
  obtain ⟨a5,k5,rfl⟩:=slr_val (hold_slr (hold_drop (r:=[_,_]) h6))
  have el:(ts++[y]).length=ts.length+1:=by simp
  rw [el] at h6
  clear hs hhf hd1 h
  replace h6:=hold_keep h6 (Below.refl _ _).drew
  have hhf:=phalf (c:=c) (bp:=bp) 0 (blkc h6 1 _)
  rw [ec] at hhf
  have S0:=blkc h6 11 _
  gi_upto_region 1 with fail
  refine wpIn_wide.2 ?_
  go_region_held3 (fun W=>W.cell? ⟨bp,11,none⟩=some (.slice a5 (ts.length+1) k5)) (exact S0) ((first
   | (have hcon:=callsIn_wide.1 hhf; (with_reducible refine hcon.mono ?_); clear hcon; rintro e w1 ⟨rfl,hw1⟩; replace hw1:=hw1.symm; subst hw1)))
  have x7:=blkc h6 7 _
  have f7:=froz_of (hold_blk h6) 7
  rcases hq5 with ⟨hq,rfl⟩ | ⟨hq,rfl⟩
  ·have hb:((ts.length:Int)+1 == (c.q:Int) / 2)=true:=by simp; omega
   have h7:=hold_set 7 (.int .i64 5) h6
   gi_wp2
   exact bodyPost_end (results_none rfl _ _ _) rfl ⟨rfl,_,h7⟩
  ·have hb:((ts.length:Int)+1 == (c.q:Int) / 2)=false:=by simp; omega
   gi_wp2
   exact bodyPost_end (results_none rfl _ _ _) rfl ⟨rfl,_,h6⟩
end
end Go.Proofs.YtkmccgombmogmaaGreat
namespace Go.Proofs.YtkmccgombmogmaaGreat
open Go.RowKit
set_option linter.unusedVariables false
set_option linter.unusedSimpArgs false
set_option maxRecDepth 8000
section
variable {ctx:Ev.Ctx} {w:World} {r:List Ev.Asr} {c:Cfg} {p bp bm:Nat} {mm:MemM} {st w0 k gg:Int} {tk hd:Value}
theorem pcut (n:Nat) (hp:p < c.n) (hm:MemOk c mm) (hw0:U64 w0) (ts hs:List Int) (hts:ts.length≤64) (h:Ev.Hold ctx (pB c p bp st w0 k gg tk hd::memA bm mm::isA tk ts::isA hd hs::r) w) :
  CallsIn Fence.wide n Tryz.prog 145 #[.pointer (some ⟨bp,0,none⟩),.pointer (some ⟨bm,0,none⟩)] w fun e w'=>e=.returned (.tuple #[]) ∧
   (ld mm (c.word p)=w0∧(∃ hd',Ev.Hold ctx (pB c p bp 0 w0 k gg tk hd'::memA bm (mm.put (c.word p) (mvW w0 (-((c.q / 2:Nat) : Int))))::isA hd' (ts++[gg])::r) w')∨¬ ld mm (c.word p)=w0∧Ev.Hold ctx (pB c p bp 1 w0 k gg tk hd::memA bm mm.tick::isA tk ts::isA hd hs::r) w'):=by
 have z:=c.qb
 obtain ⟨ta,tc,rfl⟩:=slr_val (hold_slr (hold_drop (r:=[_,_]) h))
 have hd1:=hold_keep h (Below.refl _ _).drew
 have hhf:=phalf (c:=c) (bp:=bp) (w:=w.drew) 0 (blkc hd1 1 _)
 have ec:((c.q / 2:Nat) : Int)=(c.q:Int) / 2:=by omega
 have hc:=rgchange 0 hp hm (mvW w0 (-((c.q / 2:Nat) : Int))) hd1
 have hdr:=wDrop w0 ((c.q / 2:Nat) : Int) hw0
 rw [ec] at hc hhf hdr ⊢
 by_cases he:ld mm (c.word p)=w0
 all_goals
  simp only [he,if_pos,if_neg,decide_true,decide_false,↓reduceIte] at hc
  refine wen Tryz.func145 28 ?_
  gi_upto_region 0 with fail
  refine wpIn_wide.2 ?_
  go_region_held3 (fun W=>W.cell? ⟨bp,8,none⟩=some (.int .u64 w0)) ((first | exact blkc hd1 8 _ | exact blkc h2 8 _ | fail)) ((first
   | (have hcon:=callsIn_wide.1 hhf; (with_reducible refine hcon.mono ?_); clear hcon; rintro e w1 ⟨rfl,hw1⟩; replace hw1:=hw1.symm; subst hw1)
   | (have hcon:=hdr w.drew; (with_reducible refine hcon.mono ?_); clear hcon; rintro e w1 ⟨rfl,rfl⟩)
   | (have hcon:=callsIn_wide.1 hc; (with_reducible refine hcon.mono ?_); clear hcon; rintro e w1 ⟨rfl,h2⟩)))
 ·replace h2:=hold_keep h2 (Below.refl _ _).drew
  have S0:w1.drew.cell? ⟨bp,11,none⟩=_∧w1.drew.cell? ⟨bp,10,none⟩=_:=⟨blkc h2 11 _,blkc h2 10 _⟩
  have h3:=hold_new [.int .i64 gg] 3 h2
  obtain ⟨a5,k5,w5,r5,h5⟩:=iapp1 gg (by omega) (hold_up [_,_] h2)
  replace h5:=hold_up [_] h5
  have x12:=blkc h5 12 _
  have f12:=froz_of (hold_blk h5) 12
  have h6:=hold_set 12 (.slice a5 (ts.length+1) k5) h5
  gi_upto_region 1 with fail
  refine wpIn_wide.2 ?_
  go_region_held3 (fun W=>W.cell? ⟨bp,11,none⟩=some (.slice ta ts.length tc)∧W.cell? ⟨bp,10,none⟩=some (.int .i64 gg)) ((first | exact S0 | exact ⟨blkc (hold_up [_] h3) 11 _,blkc (hold_up [_] h3) 10 _⟩ | exact ⟨blkc h5 11 _,blkc h5 10 _⟩ | exact ⟨blkc h6 11 _,blkc h6 10 _⟩ | fail)) ((first
   | (rw [if_pos (by rfl)]; refine wp_append_run _ _ _ rfl r5 ?_) | (refine wp_append_run _ _ _ rfl r5 ?_)))
  gi_wp2
  exact bodyPost_end (results_none rfl _ _ _) rfl ⟨rfl,.inl ⟨he,_,hsel [_,_,_,_] h6 [0,2,1]⟩⟩
 ·gi_wp2
  exact bodyPost_end (results_none rfl _ _ _) rfl ⟨rfl,.inr ⟨he,h2⟩⟩
end
end Go.Proofs.YtkmccgombmogmaaGreat
namespace Go.Proofs.YtkmccgombmogmaaGreat
open Go.RowKit
set_option linter.unusedVariables false
set_option linter.unusedSimpArgs false
set_option maxRecDepth 8000
section
variable {ctx:Ev.Ctx} {w:World} {r:List Ev.Asr} {c:Cfg} {p bp bm:Nat} {mm:MemM} {w0 k gg:Int} {tk hd:Value}
theorem pdone (n:Nat) {st:Int} (h:w.cell? ⟨bp,7,none⟩=some (.int .i64 st)) : CallsIn Fence.wide n Tryz.prog 139 #[.pointer (some ⟨bp,0,none⟩)] w fun e w'=>e=.returned (.bool (decide (st=0)))∧w'=w:=by
 have hb:(st == 0)=decide (st=0):=by
  by_cases e:st=0 <;> simp [e]
 refine wen Tryz.func139 12 ?_
 gi_wp2
 exact bodyPost_ret (results_tmp rfl _ _ _) rfl ⟨by simp,rfl⟩
set_option maxHeartbeats 2000000 in
theorem pstep (n:Nat) {st:Nat} (h1:1≤st∧st≤5) {f:FuncId} (hf:pwL[st]? = some (.func (.func f) #[] #[])) {Q:Int→World→Prop} (hc:∀ W,Ev.Hold ctx (pB c p bp (st:Int) w0 k gg tk hd::r) W→Calls Tryz.prog f #[.pointer (some ⟨bp,0,none⟩),.pointer (some ⟨bm,0,none⟩)] W fun e w'=>e=.returned (.tuple #[])∧∃ st2,w'.cell? ⟨bp,7,none⟩=some (.int .i64 st2)∧Q st2 w')
  (h:Ev.Hold ctx (pB c p bp (st:Int) w0 k gg tk hd::r) w) : CallsIn Fence.wide n Tryz.prog 138 #[.pointer (some ⟨bp,0,none⟩),.pointer (some ⟨bm,0,none⟩)] w fun e w'=>∃ st2,e=.returned (.bool (decide (st2=0)))∧Q st2 w':=by
 have hd1:=hold_keep h (Below.refl _ _).drew
 have hw:=pways 0 hd1
 have q7:=blkc h 7 _
 have hdn:=pdone (n - 1) q7
 have x1:∀ W,(Instr.index 219 (.agg pwL.toArray) (.int .i64 1)).run Tryz.prog W=.ok (.func (.func 141) #[] #[]) W:=fun W=>by kernel_rfl
 have x2:∀ W,(Instr.index 219 (.agg pwL.toArray) (.int .i64 2)).run Tryz.prog W=.ok (.func (.func 142) #[] #[]) W:=fun W=>by kernel_rfl
 have x3:∀ W,(Instr.index 219 (.agg pwL.toArray) (.int .i64 3)).run Tryz.prog W=.ok (.func (.func 143) #[] #[]) W:=fun W=>by kernel_rfl
 have x4:∀ W,(Instr.index 219 (.agg pwL.toArray) (.int .i64 4)).run Tryz.prog W=.ok (.func (.func 144) #[] #[]) W:=fun W=>by kernel_rfl
 have x5:∀ W,(Instr.index 219 (.agg pwL.toArray) (.int .i64 5)).run Tryz.prog W=.ok (.func (.func 145) #[] #[]) W:=fun W=>by kernel_rfl
 obtain rfl | rfl | rfl | rfl | rfl:st=1∨st=2∨st=3∨st=4∨st=5:=by omega
 all_goals
  cases hf
  refine wen Tryz.func138 18 ?_
  gi_wp2
  refine wcl (hdn) ?_
  rintro e w1 ⟨rfl,rfl⟩
  gi_upto_region 2 with fail
  gi_cut [] from 2 (fun wx=>∃ st2,wx.cell? ⟨bp,7,none⟩=some (.int .i64 st2)∧Q st2 wx)
  case first =>
   have q7d:=blkc hd1 7 _
   refine wpIn_wide.2 ?_
   refine wp_region_noPanic ?_
   refine wp_region_held_drew (S:=(fun _=>True)) (by kernel_rfl) ?_ (fun hHeld=>?_)
   ·(try dsimp only) <;> (trivial)
   refine wpAnyH_take (i:=1) (v:=?_) rfl (by kernel_rfl) (by kernel_rfl) (by kernel_rfl) (fun _ _ _ h=>h) (Or.inl ⟨by kernel_rfl,?_⟩) (by assumption) ?_
   rotate_left
   ·intro w hSw; (try dsimp only at hSw); go_simp; try with_reducible rfl
   try simp only [Act.put,List.setIfInBounds_toArray,List.set_cons_zero,List.set_cons_succ]
   refine wpAnyH_take (i:=2) (v:=?_) rfl (by kernel_rfl) (by kernel_rfl) (by kernel_rfl) (fun _ _ _ h=>h) (Or.inl ⟨by kernel_rfl,?_⟩) (by assumption) ?_
   rotate_left
   ·intro w hSw; (try dsimp only at hSw); go_simp; try with_reducible rfl
   try simp only [Act.put,List.setIfInBounds_toArray,List.set_cons_zero,List.set_cons_succ]
   refine wpAnyH_take (i:=3) (v:=?_) rfl (by kernel_rfl) (by kernel_rfl) (by kernel_rfl) (fun _ _ _ h=>h) (Or.inl ⟨by kernel_rfl,?_⟩) (by assumption) ?_
   rotate_left
   ·intro w hSw; (try dsimp only at hSw); go_simp; try with_reducible rfl
   try simp only [Act.put,List.setIfInBounds_toArray,List.set_cons_zero,List.set_cons_succ]
   refine wpAnyH_take (i:=4) (v:=?_) rfl (by kernel_rfl) (by kernel_rfl) (by kernel_rfl) (fun _ _ _ h=>h) (Or.inl ⟨by kernel_rfl,?_⟩) (by assumption) ?_
   rotate_left
   ·intro w hSw; (try dsimp only at hSw); go_simp; try with_reducible rfl
   try simp only [Act.put,List.setIfInBounds_toArray,List.set_cons_zero,List.set_cons_succ]
   refine wpAnyH_take (i:=7) (v:=?_) rfl (by kernel_rfl) (by kernel_rfl) (by kernel_rfl) (fun _ _ _ h=>h) (Or.inl ⟨by kernel_rfl,?_⟩) (by assumption) ?_
   rotate_left
   ·intro w hSw; (try dsimp only at hSw); go_simp; try with_reducible rfl
   try simp only [Act.put,List.setIfInBounds_toArray,List.set_cons_zero,List.set_cons_succ]
   refine wpAnyH_take (i:=8) (v:=?_) rfl (by kernel_rfl) (by kernel_rfl) (by kernel_rfl) (fun _ _ _ h=>h) (Or.inl ⟨by kernel_rfl,?_⟩) (by assumption) ?_
   rotate_left
   ·intro w hSw; (try dsimp only at hSw); go_simp; try with_reducible rfl
   try simp only [Act.put,List.setIfInBounds_toArray,List.set_cons_zero,List.set_cons_succ]
   refine wpAnyH_ready (rs:=[0,5]) (by kernel_rfl) (by simp) ?_
   refine AllReadyH.cons rfl (fun K hK=>?_) ?_
   focus
    go_simp
    (have hcon:=callsIn_wide.1 hw; (with_reducible refine hcon.mono ?_); clear hcon; rintro e w2 ⟨rfl,h2⟩; have q7w:=blkc h2 7 _)
    first | refine hK.out _ _ ?_ (fun hHeld=>?_) | (go_wp2_with fail; refine hK.out _ _ ?_ (fun hHeld=>?_))
    ·(try dsimp only) <;> (trivial)
    clear hK K
    try simp only [Act.put,List.setIfInBounds_toArray,List.set_cons_zero,List.set_cons_succ]
    refine wpAnyH_ready (rs:=[5]) (by kernel_rfl) (by simp) ?_
    refine AllReadyH.cons rfl (fun K hK=>?_) AllReadyH.nil
    go_simp
    refine hK.out _ _ ?_ (fun hHeld=>?_)
    ·(try dsimp only) <;> (trivial)
    clear hK K
    try simp only [Act.put,List.setIfInBounds_toArray,List.set_cons_zero,List.set_cons_succ]
    refine wpAnyH_ready (rs:=[6]) (by kernel_rfl) (by simp) ?_
    refine AllReadyH.cons rfl (fun K hK=>?_) AllReadyH.nil
    go_simp
    refine hK.out _ _ ?_ (fun hHeld=>?_)
    ·(try dsimp only) <;> (trivial)
    clear hK K
    try simp only [Act.put,List.setIfInBounds_toArray,List.set_cons_zero,List.set_cons_succ]
    refine wpAnyH_ready (rs:=[9]) (by kernel_rfl) (by simp) ?_
    refine AllReadyH.cons rfl (fun K hK=>?_) AllReadyH.nil
    go_simp
    (have hcon:=hc _ h2; (with_reducible refine hcon.mono ?_); clear hcon; rintro e w3 ⟨rfl,h3⟩)
    first | refine hK.out _ _ ?_ (fun hHeld=>?_) | (go_wp2_with fail; refine hK.out _ _ ?_ (fun hHeld=>?_))
    ·(try dsimp only) <;> (trivial)
    clear hK K
    try simp only [Act.put,List.setIfInBounds_toArray,List.set_cons_zero,List.set_cons_succ]
    refine wpAnyH_done (by kernel_rfl) ?_ _
   rotate_right
   focus
    refine AllReadyH.cons rfl (fun K hK=>?_) AllReadyH.nil
    go_simp
    refine hK.out _ _ ?_ (fun hHeld=>?_)
    ·(try dsimp only) <;> (trivial)
    clear hK K
    try simp only [Act.put,List.setIfInBounds_toArray,List.set_cons_zero,List.set_cons_succ]
    refine wpAnyH_ready (rs:=[0]) (by kernel_rfl) (by simp) ?_
    refine AllReadyH.cons rfl (fun K hK=>?_) AllReadyH.nil
    go_simp
    (have hcon:=callsIn_wide.1 hw; (with_reducible refine hcon.mono ?_); clear hcon; rintro e w2 ⟨rfl,h2⟩; have q7w:=blkc h2 7 _)
    first | refine hK.out _ _ ?_ (fun hHeld=>?_) | (go_wp2_with fail; refine hK.out _ _ ?_ (fun hHeld=>?_))
    ·(try dsimp only) <;> (trivial)
    clear hK K
    try simp only [Act.put,List.setIfInBounds_toArray,List.set_cons_zero,List.set_cons_succ]
    refine wpAnyH_ready (rs:=[6]) (by kernel_rfl) (by simp) ?_
    refine AllReadyH.cons rfl (fun K hK=>?_) AllReadyH.nil
    go_simp
    refine hK.out _ _ ?_ (fun hHeld=>?_)
    ·(try dsimp only) <;> (trivial)
    clear hK K
    try simp only [Act.put,List.setIfInBounds_toArray,List.set_cons_zero,List.set_cons_succ]
    refine wpAnyH_ready (rs:=[9]) (by kernel_rfl) (by simp) ?_
    refine AllReadyH.cons rfl (fun K hK=>?_) AllReadyH.nil
    go_simp
    (have hcon:=hc _ h2; (with_reducible refine hcon.mono ?_); clear hcon; rintro e w3 ⟨rfl,h3⟩)
    first | refine hK.out _ _ ?_ (fun hHeld=>?_) | (go_wp2_with fail; refine hK.out _ _ ?_ (fun hHeld=>?_))
    ·(try dsimp only) <;> (trivial)
    clear hK K
    try simp only [Act.put,List.setIfInBounds_toArray,List.set_cons_zero,List.set_cons_succ]
    refine wpAnyH_done (by kernel_rfl) ?_ _
   all_goals (refine NoPanic.normal ?_)
   all_goals
    gi_wp2
    gi_meet
    case rel=>exact h3
  case rest =>
   obtain ⟨st2,h7,hQ⟩:=hcut
   gi_wp2
   refine wcl (pdone (n - 1) h7) ?_
   rintro e w1 ⟨rfl,rfl⟩
   gi_wp2
   exact bodyPost_ret (results_tmp rfl _ _ _) rfl ⟨st2,rfl,hQ⟩
end
def putV (c:Cfg) (p bp:Nat) (x:PutS) (k:Int) (tk hd:Value) : Ev.Asr:=Ev.blkA bp [.int .i64 (c.n:Int),.int .i64 (c.q:Int),.int .i64 c.g,.int .i64 c.m,.int .i64 c.t,.int .i64 c.s,.int .i64 (p:Int),.int .i64 (x.st:Int),.int .u64 x.w,.int .u32 k,.int .i64 x.gg,tk,hd] 148
def putL (c:Cfg) (p bp:Nat) (x:PutS) (e:Int×Value×Value) : List Ev.Asr:=putV c p bp x e.1 e.2.1 e.2.2::isA e.2.2 x.hs::(if x.st=0 then [] else [isA e.2.1 x.ts])
def putA (c:Cfg) (p bp:Nat) (x:PutS) : Ev.Asr:=Ev.exA (fun e:Int×Value×Value=>Ev.leafV e.2.1=true) (fun e=>Ev.grp (putL c p bp x e))
section
variable {c:Cfg} {p bp:Nat} {x:PutS} {k:Int} {tk hd:Value} {ctx:Ev.Ctx} {w:World} {l:List Ev.Asr}
theorem put_close (h0:x.st ≠ 0) (ltk:Ev.leafV tk=true) (h:Ev.Hold ctx (putV c p bp x k tk hd::isA hd x.hs::isA tk x.ts::l) w) : Ev.Hold ctx (putA c p bp x::l) w:=by
 refine Ev.Hold.putX (k,tk,hd) ltk (Ev.Hold.shut ?_)
 simp only [putL,if_neg h0]
 exact h
theorem put_close0 (h0:x.st=0) (ltk:Ev.leafV tk=true) (h:Ev.Hold ctx (putV c p bp x k tk hd::isA hd x.hs::l) w) : Ev.Hold ctx (putA c p bp x::l) w:=by
 refine Ev.Hold.putX (k,tk,hd) ltk (Ev.Hold.shut ?_)
 simp only [putL,if_pos h0]
 exact h
theorem put_open (h0:x.st ≠ 0) (h:Ev.Hold ctx (putA c p bp x::l) w) : ∃ k tk hd,Ev.leafV tk=true∧Ev.leafV hd=true∧Ev.Hold ctx (putV c p bp x k tk hd::isA hd x.hs::isA tk x.ts::l) w:=by
 obtain ⟨⟨k,tk,hd⟩,ltk,hh⟩:=h.getX
 have h2:=hh.open
 simp only [putL,if_neg h0] at h2
 exact ⟨k,tk,hd,ltk,hold_leaf (hold_drop (r:=[_]) h2),h2⟩
theorem put_open0 (h0:x.st=0) (h:Ev.Hold ctx (putA c p bp x::l) w) : ∃ k tk hd,Ev.leafV tk=true∧Ev.leafV hd=true∧Ev.Hold ctx (putV c p bp x k tk hd::isA hd x.hs::l) w:=by
 obtain ⟨⟨k,tk,hd⟩,ltk,hh⟩:=h.getX
 have h2:=hh.open
 simp only [putL,if_pos h0] at h2
 exact ⟨k,tk,hd,ltk,hold_leaf (hold_drop (r:=[_]) h2),h2⟩
end
theorem put_step {w:World} {F:Nat→Prop} {c:Cfg} {p:Nat} (hp:p < c.n) {x:PutS} (hx:PutOk c x) (h0:x.st ≠ 0) {m:MemM} (hm:MemOk c m) {bp bm:Nat} (h:Ev.Now [putA c p bp x,memA bm m] F w) :
  Calls Tryz.prog 138 #[.pointer (some ⟨bp,0,none⟩),.pointer (some ⟨bm,0,none⟩)] w fun e w'=>e=.returned (.bool (decide ((putStep c p x m).1.st=0)))∧Ev.Hold ⟨w,F⟩ [putA c p bp (putStep c p x m).1,memA bm (putStep c p x m).2] w':=by
 obtain ⟨k,tk,hd,ltk,lhd,hh⟩:=put_open h0 (Ev.Hold.start h)
 have z:=c.qb
 obtain ⟨st,gg,ww,ts,hs⟩:=x
 have hgg:0≤gg∧gg≤9223372036854775807:=hx.gg h0
 have hw0:U64 ww:=hx.w
 have h5:st≤5:=hx.st
 have hts:ts.length≤c.q / 2:=hx.ts
 replace h0:st ≠ 0:=h0
 have key:∀ W,Ev.Hold ⟨w,F⟩ (pB c p bp (st:Int) ww k gg tk hd::[memA bm m,isA tk ts,isA hd hs]) W→∀ f,pwL[st]? = some (.func (.func f) #[] #[])→Calls Tryz.prog f #[.pointer (some ⟨bp,0,none⟩),.pointer (some ⟨bm,0,none⟩)] W fun e w'=>e=.returned (.tuple #[])∧∃ st2:Int,w'.cell? ⟨bp,7,none⟩=some (.int .i64 st2)∧decide (st2=0)=decide ((putStep c p ⟨st,gg,ww,ts,hs⟩ m).1.st=0)∧Ev.Hold ⟨w,F⟩ [putA c p bp (putStep c p ⟨st,gg,ww,ts,hs⟩ m).1,memA bm (putStep c p ⟨st,gg,ww,ts,hs⟩ m).2] w':=by
  intro W hW f hf
  obtain rfl | rfl | rfl | rfl | rfl:st=1∨st=2∨st=3∨st=4∨st=5:=by omega
  all_goals cases hf
  ·refine callsIn_wide.1 ((plook 0 hp hm hW).mono ?_)
   rintro e w1 ⟨rfl,h1⟩
   by_cases e:(c.q:Int)≤szW (ld m (c.word p))
   all_goals
    simp only [putStep,e,if_pos,if_neg,↓reduceIte] at h1 ⊢
    exact ⟨trivial,_,blkc h1 7 _,rfl,hsel [_,_,_] (put_close (l:=[memA bm m.tick,isA tk ts]) (tk:=.slice none 0 0) (Nat.succ_ne_zero _) rfl (hsel [_,_,_,_,_] (h1.nilSl (e := 3) (sz:=1)) [1,4,0,2,3])) [0,1]⟩
  ·refine callsIn_wide.1 ((play 0 hp hm hgg hw0 hW).mono ?_)
   rintro e w1 ⟨rfl,h1⟩
   exact ⟨rfl,_,blkc h1 7 _,rfl,put_close (l:=[_]) (Nat.succ_ne_zero _) ltk (hsel [_,_,_,_] h1 [0,3,2,1])⟩
  ·refine callsIn_wide.1 ((pswing 0 hp hm hw0 hs (hsel [_,_,_,_] hW [0,1,3,2])).mono ?_)
   rintro e w1 ⟨rfl,hd',h1⟩
   by_cases e:ld m (c.word p)=ww
   ·simp only [putStep,e,if_pos,↓reduceIte] at h1 ⊢
    exact ⟨trivial,_,blkc h1 7 _,rfl,hsel [_,_,_] (put_close0 (l:=[_,_]) rfl ltk (hsel [_,_,_,_] h1 [0,2,1,3])) [0,1]⟩
   ·simp only [putStep,e,if_neg,↓reduceIte] at h1 ⊢
    exact ⟨trivial,_,blkc h1 7 _,rfl,put_close (l:=[_]) (Nat.succ_ne_zero _) ltk (hsel [_,_,_,_] h1 [0,2,3,1])⟩
  ·refine callsIn_wide.1 ((ptake 0 hp hm hw0 ts (by omega) hW).mono ?_)
   rintro e w1 ⟨rfl,tk',h1⟩
   have lt:=hold_leaf (hold_drop (r:=[_,_]) h1)
   by_cases e:ts.length+1=c.q / 2
   all_goals
    simp only [putStep,e,if_pos,if_neg,↓reduceIte] at h1 ⊢
    exact ⟨trivial,_,blkc h1 7 _,rfl,put_close (l:=[_]) (Nat.succ_ne_zero _) lt (hsel [_,_,_,_] h1 [0,3,2,1])⟩
  ·refine callsIn_wide.1 ((pcut 0 hp hm hw0 ts hs (by omega) hW).mono ?_)
   rintro e w1 ⟨rfl,⟨e,hd',h1⟩ | ⟨e,h1⟩⟩
   ·simp only [putStep,e,if_pos,↓reduceIte] at h1 ⊢
    exact ⟨trivial,_,blkc h1 7 _,rfl,put_close0 (l:=[_]) rfl ltk (hsel [_,_,_] h1 [0,2,1])⟩
   ·simp only [putStep,e,if_neg,↓reduceIte] at h1 ⊢
    exact ⟨trivial,_,blkc h1 7 _,rfl,put_close (l:=[_]) (Nat.succ_ne_zero _) ltk (hsel [_,_,_,_] h1 [0,3,2,1])⟩
 obtain ⟨f,hf⟩ : ∃ f,pwL[st]? = some (.func (.func f) #[] #[]):=by
  obtain rfl | rfl | rfl | rfl | rfl:st=1∨st=2∨st=3∨st=4∨st=5:=by omega
  all_goals exact ⟨_,rfl⟩
 refine callsIn_wide.1 ((pstep 0 (by omega) hf (fun W hW=>key W hW f hf) (hsel [_,_,_,_] hh [0,3,2,1])).mono ?_)
 rintro e w1 ⟨st2,rfl,h1,h2⟩
 exact ⟨by rw [h1],h2⟩
end Go.Proofs.YtkmccgombmogmaaGreat
namespace Go.Proofs.YtkmccgombmogmaaGreat
open Go.RowKit
set_option linter.unusedVariables false
set_option linter.unusedSimpArgs false
set_option maxRecDepth 8000
section
variable {ctx:Ev.Ctx} {w:World} {r:List Ev.Asr} {c:Cfg} {p bp:Nat}
theorem iclone (n:Nat) {v:Value} {xs:List Int} (hn:xs.length≤1000000) (h:Ev.Hold ctx (isA v xs::r) w) :
  CallsIn Fence.wide n Tryz.prog 97 #[v] w fun e w'=>∃ v',e=.returned v'∧Ev.Hold ctx (isA v' xs::isA v xs::r) w':=by
 obtain ⟨F1,k1,back⟩:=hold_fr [_] h
 refine (callsIn_wide.2 (clone_int hn (one_ints xs) k1)).mono ?_
 rintro e w1 ⟨v',_,-,rfl,h1⟩
 exact ⟨v',rfl,back _ _ h1⟩
theorem cf6c {b:Nat} {l:List Value} {T:TypeId} (h:Ev.Hold ctx (Ev.blkA b (.int .i64 (c.n:Int)::.int .i64 (c.q:Int)::.int .i64 c.g::.int .i64 c.m::.int .i64 c.t::.int .i64 c.s::l) T::r) w) : w.cell? ⟨b,0,none⟩=some (.int .i64 (c.n:Int))∧w.cell? ⟨b,1,none⟩=some (.int .i64 (c.q:Int))∧w.cell? ⟨b,2,none⟩=some (.int .i64 c.g)∧w.cell? ⟨b,3,none⟩=some (.int .i64 c.m)∧w.cell? ⟨b,4,none⟩=some (.int .i64 c.t)∧w.cell? ⟨b,5,none⟩=some (.int .i64 c.s):=⟨blkc h 0 _,blkc h 1 _,blkc h 2 _,blkc h 3 _,blkc h 4 _,blkc h 5 _⟩
theorem pfrom (n:Nat) (hp:p < c.n) (h:Ev.Hold ctx r w) :
  CallsIn Fence.wide n Tryz.prog 63 #[c.v,.int .i64 (p:Int)] w fun e w'=>e=.returned (.agg (cpL c p [.int .i64 1,.int .u64 0,.int .u32 0]).toArray)∧Ev.Hold ctx r w':=by
 obtain ⟨b1,W1,hb1,hW1,g1⟩:=newN [.int .i64 (c.n:Int),.int .i64 (c.q:Int),.int .i64 c.g,.int .i64 c.m,.int .i64 c.t,.int .i64 c.s] 23 h
 obtain ⟨b2,W2,hb2,hW2,g2⟩:=newN [.int .i64 0,.int .i64 0,.int .i64 0,.int .i64 0,.int .i64 0,.int .i64 0,.int .i64 0,.int .i64 0,.int .u64 0,.int .u32 0] 145 g1
 obtain ⟨b3,W3,hb3,hW3,g3⟩:=newN [.int .i64 0,.int .i64 0,.int .i64 0,.int .i64 0,.int .i64 0,.int .i64 0,.int .i64 0,.int .i64 0,.int .u64 0,.int .u32 0] 145 g2
 obtain ⟨k0,k1,k2,k3,k4,k5⟩:=cf6c (l:=[]) (hold_up [_] g2)
 obtain ⟨W4,s4,g4⟩:=st_all (t := 145) (cs':=cpL c p [.int .i64 0,.int .u64 0,.int .u32 0]) g3 rfl (by simp [Value.oneCell']) (by kernel_rfl)
 obtain ⟨k0,k1,k2,k3,k4,k5⟩:=cf6c (l:=[]) (hold_up [_,_] g4)
 refine wen Tryz.func63 13 ?_
 gi_wp2_with (refine wpListIn_store_run rfl _ _ _ rfl s4 rfl rfl ?_)
 refine wcw (word_ok c p hp _) ?_
 rintro e w5 ⟨rfl,b5⟩
 have g5:=hold_keep g4 b5
 have x7:=blkc g5 7 _
 have f7:=froz_of (hold_blk g5) 7
 have h0:(0:Int)≤((c.word p:Nat) : Int):=by omega
 have g6:=hold_set 7 (.int .i64 1) g5
 have l6:=ld_all (t := 145) g6 Tryz.underlying145 rfl (by kernel_rfl)
 obtain ⟨W7,s7,g7⟩:=st_all (t := 145) (cs':=cpL c p [.int .i64 1,.int .u64 0,.int .u32 0]) (hold_up [_] g6) rfl (by simp [Value.oneCell']) (by kernel_rfl)
 gi_wp2_with (first | refine wpListIn_store_run rfl _ _ _ rfl s7 rfl rfl ?_ | refine wpListIn_load_run rfl _ _ rfl l6 rfl ?_)
 exact post_cell rfl rfl rfl (lv_all g7 Tryz.underlying145 rfl (by kernel_rfl)) ⟨rfl,hold_drop (r:=[_,_,_]) g7⟩
def newPut (gg:Int) : PutS:=if 0≤gg then ⟨1,gg,0,[],[gg]⟩ else ⟨0,gg,0,[],[]⟩
theorem rputnew (n:Nat) (hp:p < c.n) {gg:Int} (hg:0≤gg) (h:Ev.Hold ctx r w) :
  CallsIn Fence.wide n Tryz.prog 33 #[c.v,.int .i64 (p:Int),.int .i64 gg] w fun e w'=>∃ bp,e=.returned (.pointer (some ⟨bp,0,none⟩))∧Ev.Hold ctx (putA c p bp (newPut gg)::r) w':=by
 obtain ⟨b1,W1,hb1,hW1,g1⟩:=newN [.int .i64 (c.n:Int),.int .i64 (c.q:Int),.int .i64 c.g,.int .i64 c.m,.int .i64 c.t,.int .i64 c.s] 23 h
 obtain ⟨k0,k1,k2,k3,k4,k5⟩:=cf6c (l:=[]) g1
 refine wen Tryz.func33 29 ?_
 gi_wp2
 refine wcl (pfrom (n - 1) hp g1) ?_
 rintro e w2 ⟨rfl,g2⟩
 clear k0 k1 k2 k3 k4 k5
 obtain ⟨b3,W3,hb3,hW3,g3⟩:=newN (cpL c p [.int .i64 1,.int .u64 0,.int .u32 0,.int .i64 gg,.slice none 0 0,.slice none 0 0]) 148 g2
 have x7:=blkc g3 7 _
 obtain ⟨b4,W4,hb4,hW4,g4⟩:=newN [.int .i64 gg] 3 g3
 have x12:=blkc (hold_up [_] g4) 12 _
 have f12:=froz_of (hold_blk (hold_up [_] g4)) 12
 have g5:=hold_set 12 (.slice (some ⟨b4,0,none⟩) 1 1) (hold_up [_] g4)
 gi_wp2
 refine bodyPost_ret (results_tmp rfl _ _ _) rfl ⟨b3,rfl,?_⟩
 rw [newPut,if_pos hg]
 have g6:=(blk_isA (hsel [_,_,_] g5 [1,0])).nilSl (e := 3) (sz:=1)
 exact put_close (k:=0) (Nat.succ_ne_zero _) rfl (hsel [_,_,_] g6 [2,1,0])
theorem hands_put (n:Nat) {x:PutS} (hx:x.hs.length≤64) (h:Ev.Hold ctx (putA c p bp x::r) w) :
  CallsIn Fence.wide n Tryz.prog 137 #[.pointer (some ⟨bp,0,none⟩)] w fun e w'=>∃ v,e=.returned v∧Ev.Hold ctx (isA v x.hs::putA c p bp x::r) w':=by
 have key:∃ hd l k tk,Ev.Hold ctx (isA hd x.hs::pB c p bp (x.st:Int) x.w k x.gg tk hd::(l++r)) w∧∀ W v,Ev.Hold ctx (isA v x.hs::isA hd x.hs::pB c p bp (x.st:Int) x.w k x.gg tk hd::(l++r)) W→Ev.Hold ctx (isA v x.hs::putA c p bp x::r) W:=by
  by_cases h0:x.st=0
  ·obtain ⟨k,tk,hd,ltk,-,hh⟩:=put_open0 h0 h
   exact ⟨hd,[],k,tk,hold_swap hh,fun W v hW=>hold_swap (put_close0 h0 ltk (hsel [_,_,_] hW [2,1,0]))⟩
  ·obtain ⟨k,tk,hd,ltk,-,hh⟩:=put_open h0 h
   exact ⟨hd,[isA tk x.ts],k,tk,hold_swap hh,fun W v hW=>hold_swap (put_close h0 ltk (hsel [_,_,_,_] hW [2,1,3,0]))⟩
 obtain ⟨hd,l,k,tk,h1,back⟩:=key
 have x12:=blkc (hold_up [_] h1) 12 _
 refine wen Tryz.func137 9 ?_
 gi_wp2
 refine wcl (iclone (n - 1) (by omega) h1) ?_
 rintro e w1 ⟨v,rfl,h2⟩
 gi_wp2
 exact bodyPost_ret (results_tmp rfl _ _ _) rfl ⟨v,rfl,back _ _ h2⟩
theorem over_put (n:Nat) {x:PutS} (hx:x.hs.length≤64) (h:Ev.Hold ctx (putA c p bp x::r) w) :
  CallsIn Fence.wide n Tryz.prog 66 #[.pointer (some ⟨bp,0,none⟩)] w fun e w'=>∃ v,e=.returned v∧Ev.Hold ctx (isA v (if x.st=0 then x.hs else [])::putA c p bp x::r) w':=by
 have hA:=h
 by_cases h0:x.st=0
 ·obtain ⟨k,tk,hd,ltk,-,hh⟩:=put_open0 h0 h
  have x7:w.cell? ⟨bp,7,none⟩=some (.int .i64 0):=by rw [show (0:Int)=(x.st:Int) by omega]; exact blkc hh 7 _
  have x12:=blkc hh 12 _
  refine wen Tryz.func66 17 ?_
  gi_wp2
  refine wcl (iclone (n - 1) (by omega) (hold_swap hh)) ?_
  rintro e w1 ⟨v,rfl,h2⟩
  gi_wp2
  refine bodyPost_ret (results_tmp rfl _ _ _) rfl ⟨v,rfl,?_⟩
  exact hold_swap (put_close0 h0 ltk (hsel [_,_,_] h2 [2,1,0]))
 ·obtain ⟨k,tk,hd,ltk,-,hh⟩:=put_open h0 h
  obtain ⟨st,hst⟩ : ∃ st:Int,(x.st:Int)=st:=⟨_,rfl⟩
  have x7:w.cell? ⟨bp,7,none⟩=some (.int .i64 st):=by rw [← hst]; exact blkc hh 7 _
  have hb:(st != 0)=true:=by simp; omega
  refine wen Tryz.func66 17 ?_
  gi_wp2
  exact bodyPost_ret (results_tmp rfl _ _ _) rfl ⟨.slice none 0 0,rfl,hA.nilSl⟩
end
end Go.Proofs.YtkmccgombmogmaaGreat
