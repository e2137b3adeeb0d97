/- Part of a proof: see the last text. -/
import Derived.Test.YtkmccgombmogmaaGreatZk1
import Derived.Test.YtkmccgombmogmaaGreatZk7
namespace Go.Proofs.YtkmccgombmogmaaGreat
open Go.RowKit
set_option linter.unusedVariables false
set_option linter.unusedSimpArgs false
set_option maxRecDepth 8000
def StealS.hands (x:StealS) : List Int:=match x.ly with | none=>[] | some l=>x.bt.take 1++l.ls
theorem slr_cut {w:World} {a0 a1:Option Addr} {c0 c1 n lo hi:Nat} {l:List Int} (h:Ev.SlR 1 (.slice a0 n c0) l.length (ints l) w) (hl:n=l.length) (h1:lo≤hi) (h2:hi≤l.length) (hcv:Ev.cutV 1 (.slice a0 n c0) lo hi=.slice a1 (hi - lo) c1) : Ev.SlR 1 (.slice a1 (hi - lo) c1) ((l.drop lo).take (hi - lo)).length (ints ((l.drop lo).take (hi - lo))) w:=by
 have:=h.cut h1 h2
 rw [hcv] at this
 simp only [Nat.mul_one] at this
 rw [show ((l.drop lo).take (hi - lo)).length=hi - lo by simp; omega]
 simpa [ints,List.map_take,List.map_drop] using this
theorem concat2_in (m:Nat) {b:Nat} {u0 u1:Value} {l0 l1:List Int} {T:TypeId} {fz:Nat×Nat} {w:World} (hb:w.heap[b]? = some (Obj.cells #[u0,u1] T fz)) (h0:Ev.SlR 1 u0 l0.length (ints l0) w) (h1:Ev.SlR 1 u1 l1.length (ints l1) w) (n0:l0.length≤1000) (n1:l1.length≤1000) :
  CallsIn Fence.wide m Tryz.prog 116 #[.slice (some ⟨b,0,none⟩) 2 2] w fun e w'=>∃ v,e=.returned v∧w'.ownsRow w.heap.size 3 1 v (l0++l1).length (ints (l0++l1))∧Below w.heap.size w w':=by
 have:=concat_in m b 2 (fun k=>if k=0 then u0 else u1) (fun k=>if k=0 then l0 else l1) w (by omega) (fun k hk=>?_) (fun k hk=>?_) (Array.getElem?_eq_some_iff.1 hb).1
 ·have e:cat (fun k=>if k=0 then l0 else l1) 2=l0++l1:=by simp [cat,List.range_succ]
  rw [e] at this
  exact this
 ·match k,hk with
  | 0,_=>exact cell_of hb 0 _ rfl
  | 1,_=>exact cell_of hb 1 _ rfl
 ·match k,hk with
  | 0,_=>exact ⟨h0,n0⟩
  | 1,_=>exact ⟨h1,n1⟩
set_option maxHeartbeats 2000000 in
theorem steal_hands (m:Nat) {c:Cfg} {p v bp:Nat} {x:StealS} (hp:p < c.n) (hv:v < c.n) (hx:StealOk x) {mm:MemM} (hm:MemOk c mm) {F:Nat→Prop} {w:World} (h:Ev.Now [stealA c p v bp x] F w) :
  CallsIn Fence.wide m Tryz.prog 99 #[.pointer (some ⟨bp,0,none⟩)] w fun e w'=>∃ u,Ev.leafV u=true∧e=.returned u∧Ev.Hold ⟨w,F⟩ [isA u x.hands,stealA c p v bp x] w':=by
 refine callsIn_of_wp Tryz.func99 rfl trivial ?_ rfl
 simp only [Tryz.ntmps99,List.size_toArray,List.length_cons,List.length_nil,Nat.reduceAdd,Nat.reduceSub,Array.replicate_succ,Array.replicate_zero,List.push_toArray,List.append_toArray,List.nil_append,List.cons_append]
 gi_wp2
 refine ⟨trivial,fun h=>by simp [Fence.wide] at h,(many_steal (m - 1) (Ev.Hold.start h)).mono ?_⟩
 rintro e w1 ⟨rfl,hh⟩
 cases hly:x.ly with
 | none =>
  have e0:((x.many:Nat) : Int)=0:=by simp [StealS.many,hly]
  have eh:x.hands=[]:=by simp [StealS.hands,hly]
  rw [e0]
  gi_wp2
  have h2:=hh.nilSl (e := 3) (sz:=1)
  refine bodyPost_ret (results_tmp rfl _ _ _) rfl ⟨.slice none 0 0,rfl,rfl,?_⟩
  rw [eh]
  exact h2
 | some l =>
  obtain ⟨hlb,hb0⟩:=hx.lay l hly
  have e0:¬ ((x.many:Nat) : Int)=0:=by simp only [StealS.many,hly]; omega
  have eh:x.hands=x.bt.take 1++l.ls:=by simp [StealS.hands,hly]
  obtain ⟨bv,bl,lbv,h2⟩:=steal_open4 hly hh
  have hbl:=hold_blk (h2.sel [1] (by kernel_rfl))
  have hsl:=hold_slr (h2.sel [2] (by kernel_rfl))
  obtain ⟨a0,c0,rfl⟩:=slr_val hsl
  obtain ⟨a1,c1,hcv⟩ : ∃ a1 c1,Ev.cutV 1 (.slice a0 x.bt.length c0) 0 1=.slice a1 1 c1:=by
   cases a0 with
   | none=>exact ⟨none,c0 - 0,by simp [Ev.cutV]⟩
   | some a=>exact ⟨_,c0 - 0,by simp only [Ev.cutV,Nat.sub_zero]; rfl⟩
  have hcut:∀ w,(Instr.sliceAt 35 (.slice a0 x.bt.length c0) none (some (.int .i64 1)) none).run Tryz.prog w=.ok (.slice a1 1 c1) w:=by
   obtain ⟨i0,hi,hz1,hz0,hz2⟩:=infInt
   intro w
   rw [← hcv]
   exact Ev.cut_run (kd:=.i64) (.inl ⟨rfl,rfl⟩) rfl hsl Tryz.underlying35 hi hz1 (Nat.zero_le _) hb0 w
  have hSH:∀ w',Ev.Hold ⟨w,F⟩ [layA c p bl l,stealV c p v bp x (.slice a0 x.bt.length c0) (.pointer (some ⟨bl,0,none⟩)),isA (.slice a0 x.bt.length c0) x.bt] w'→w'.cell? ⟨bp,11,none⟩=some (.slice a0 x.bt.length c0)∧w'.cell? ⟨bp,6,none⟩=some (.pointer (some ⟨bl,0,none⟩))∧Ev.Hold ⟨w,F⟩ [layA c p bl l,stealV c p v bp x (.slice a0 x.bt.length c0) (.pointer (some ⟨bl,0,none⟩)),isA (.slice a0 x.bt.length c0) x.bt] w':=fun w' hh=>⟨cell_of (hold_blk (hh.sel [1] (by kernel_rfl))) 11 _ rfl,cell_of (hold_blk (hh.sel [1] (by kernel_rfl))) 6 _ rfl,hh⟩
  have hd:=hold_keep h2 ((Below.refl _ w1).drew)
  gi_wp2
  refine wpIn_wide.2 ?_
  have hSB:∀ w',(w'.cell? ⟨bp,11,none⟩=some (.slice a0 x.bt.length c0)∧w'.cell? ⟨bp,6,none⟩=some (.pointer (some ⟨bl,0,none⟩))∧Ev.Hold ⟨w,F⟩ [layA c p bl l,stealV c p v bp x (.slice a0 x.bt.length c0) (.pointer (some ⟨bl,0,none⟩)),isA (.slice a0 x.bt.length c0) x.bt] w')→Ev.Hold ⟨w,F⟩ ([layA c p bl l]++[stealV c p v bp x (.slice a0 x.bt.length c0) (.pointer (some ⟨bl,0,none⟩)),isA (.slice a0 x.bt.length c0) x.bt]) w':=fun w' h=>h.2.2
  go_region_held3 (fun w'=>w'.cell? ⟨bp,11,none⟩=some (.slice a0 x.bt.length c0)∧w'.cell? ⟨bp,6,none⟩=some (.pointer (some ⟨bl,0,none⟩))∧Ev.Hold ⟨w,F⟩ [layA c p bl l,stealV c p v bp x (.slice a0 x.bt.length c0) (.pointer (some ⟨bl,0,none⟩)),isA (.slice a0 x.bt.length c0) x.bt] w') ((refine hSH _ ?_; first | with_reducible exact hd | with_reducible exact hS5 | with_reducible exact hS3 | with_reducible exact hS4 | fail)) ((first
   | (go_at_call 103; have hcon:=callsIn_wide.1 (rest_in 0 hlb.ls (hSB _ (by assumption))); (with_reducible refine hcon.mono ?_); clear hcon; rintro e w3 ⟨vr,rfl,hH3⟩; obtain ⟨ar,cr,rfl⟩:=slr_val (hold_slr hH3); have hS3:Ev.Hold ⟨w,F⟩ [layA c p bl l,stealV c p v bp x (.slice a0 x.bt.length c0) (.pointer (some ⟨bl,0,none⟩)),isA (.slice a0 x.bt.length c0) x.bt] w3:=hH3.sel [1,2,3] (by kernel_rfl); have hB4:=(Below.refl _ w3).alloc (Nat.le_refl _) (.cells #[.slice a1 1 c1,.slice ar l.ls.length cr] 35); have hH4:=hold_keep hH3 hB4; have hS4:=hold_keep hS3 hB4; skip)
   | (go_at_call 116; have hcon:=callsIn_wide.1 (concat2_in 0 (World.alloc_heap_new w3 _) (slr_cut (lo:=0) (hi:=1) (hold_slr (hH4.sel [3] (by kernel_rfl))) rfl (Nat.zero_le _) hb0 hcv) (hold_slr hH4) (by simp; omega) (Nat.le_trans hlb.ls (by decide))); (with_reducible refine hcon.mono ?_); clear hcon; rintro e w5 ⟨vc,rfl,oc,bc⟩; have hS5:=hold_keep hS4 bc; have hH5:=hold_own hS4 oc bc; have lvc:=slr_val (hold_slr hH5); skip)))
  gi_wp2
  have h6:Ev.Hold ⟨w,F⟩ _ w5:=(hH5.sel [1,2,3,0] (by kernel_rfl)).head (b:=layW c p l (.pointer (some ⟨bl,0,none⟩))) (fun F h=>⟨bl,rfl,h⟩)
  have h7:Ev.Hold ⟨w,F⟩ [stealA c p v bp x,isA vc (x.bt.take 1++l.ls)] w5:=steal_close4 (l:=[isA vc (x.bt.take 1++l.ls)]) (bv:=.slice a0 x.bt.length c0) hly rfl (h6.sel [1,2,0,3] (by kernel_rfl))
  rw [← eh] at h7
  refine bodyPost_ret (results_tmp rfl _ _ _) rfl ⟨vc,hold_leaf hH5,rfl,h7.sel [1,0] (by kernel_rfl)⟩
end Go.Proofs.YtkmccgombmogmaaGreat
namespace Go.Proofs.YtkmccgombmogmaaGreat
open Go.RowKit
set_option linter.unusedVariables false
set_option linter.unusedSimpArgs false
inductive MacS where
 | put (x:PutS)
 | get (x:GetS)
 | steal (v:Nat) (x:StealS)
def MacS.st:MacS→Nat
 | .put x=>x.st
 | .get x=>x.st
 | .steal _ x=>x.st
def MacS.step (c:Cfg) (p:Nat) (M:MacS) (m:MemM) : MacS×MemM :=
 match M with
 | .put x=>(.put (putStep c p x m).1,(putStep c p x m).2)
 | .get x=>(.get (getStep c p x m).1,(getStep c p x m).2)
 | .steal v x=>(.steal v (stealStep c p v x m).1,(stealStep c p v x m).2)
def MacS.hands:MacS→List Int
 | .put x=>x.hs
 | .get x=>if x.has then [x.sn] else []
 | .steal _ x=>x.hands
def MacS.got:MacS→Int
 | .put _=>-1
 | .get x=>if x.has then x.sn else -1
 | .steal _ x=>if x.got.2 then x.got.1 else -1
def MacS.over:MacS→List Int
 | .put x=>if x.st=0 then x.hs else []
 | .get _=>[]
 | .steal _ x=>x.left
structure OwnS where
 kd:Int
 cv:Int
 cg:Int
 mac:Option MacS
 dq:DqS
 gn:Bool
 rs:List Int
structure RaceS where
 m:MemM
 ow:List OwnS
 pts:Int
 bad:Bool
def RaceS.own (x:RaceS) (p:Nat) (o:OwnS) : RaceS:=⟨x.m,x.ow.set p o,x.pts,x.bad⟩
def RaceS.holds (x:RaceS) (is:Bool) : RaceS:=⟨x.m,x.ow,IntKind.i64.wrap (x.pts+1),x.bad || !is⟩
def OwnS.deq (o:OwnS) (d:DqS) : OwnS:=⟨o.kd,o.cv,o.cg,o.mac,d,o.gn,o.rs⟩
def dqGet (x:DqS) : DqS:=if szW x.w=0 then x else ⟨gnW x.w 1,x.sl⟩
def dqSteal (x:DqS) : DqS:=⟨if szW x.w=0 then x.w else gnW x.w (oldN (szW x.w)),x.sl⟩
def dqOld (c:Cfg) (x:DqS) : List Int:=(dqAll c x).take (oldN (szW x.w)).toNat
def racePoint (c:Cfg) (x:RaceS) (p:Nat) (o:OwnS) (M:MacS) : RaceS :=
 match M with
 | .put u=>if u.st=0 then (x.own p (o.deq (dqPut c o.dq o.cg).1)).holds (decide ((dqPut c o.dq o.cg).2=u.hs)) else x
 | .get u=>if u.st=0 then (x.own p (o.deq (dqGet o.dq))).holds (decide ((dqAll c o.dq).headD 0=(if u.has then u.sn else 0)) && (decide (szW o.dq.w ≠ 0) == u.has)) else x
 | .steal v u =>
  if o.gn=false∧(u.st=0∨0 < u.many) then
   match x.ow[v]? with
   | some ov=>((x.own v (ov.deq (dqSteal ov.dq))).own p ⟨o.kd,o.cv,o.cg,o.mac,o.dq,true,u.hands.drop 1⟩).holds (decide (dqOld c ov.dq=u.hands))
   | none=>x
  else if u.st=0 then
   (x.own p (o.deq (dqLay c o.dq (o.rs.take (dqN c o.dq o.rs))))).holds (decide (o.rs.drop (dqN c o.dq o.rs)=u.left))
  else x
def ringL (c:Cfg) (m:MemM) (p:Nat) : List Int:=(placesW (ld m (c.word p))).map (fun i=>IntKind.i64.wrap (ld m (c.slot p i)))
def sameAt (c:Cfg) (x:RaceS) (q:Nat) : Bool:=match x.ow[q]? with | some oq=>decide (ringL c x.m q=dqAll c oq.dq) | none=>true
def raceLook (c:Cfg) (x:RaceS) : RaceS:=⟨x.m,x.ow,x.pts,x.bad || !((List.range c.n).all (sameAt c x))⟩
structure OutS where
 kd:Int
 got:Int
 over:List Int
def OwnS.now (o:OwnS) (M:Option MacS) : OwnS:=⟨o.kd,o.cv,o.cg,M,o.dq,o.gn,o.rs⟩
def raceMid (c:Cfg) (x:RaceS) (p:Nat) (o:OwnS) (M:MacS) : RaceS :=
 raceLook c (racePoint c (RaceS.own ⟨(M.step c p x.m).2,x.ow,x.pts,x.bad⟩ p (o.now (some (M.step c p x.m).1))) p (o.now (some (M.step c p x.m).1)) (M.step c p x.m).1)
def raceStep (c:Cfg) (x:RaceS) (p:Nat) (o:OwnS) (M:MacS) : RaceS×Option OutS :=
 if (M.step c p x.m).1.st=0 then
  (match (raceMid c x p o M).ow[p]? with
   | some o2=>(raceMid c x p o M).own p (o2.now none)
   | none=>raceMid c x p o M,some ⟨o.kd,(M.step c p x.m).1.got,(M.step c p x.m).1.over⟩)
 else (raceMid c x p o M,none)
def MacOk (c:Cfg) (p:Nat) : MacS→Prop
 | .put x=>PutOk c x
 | .get x=>GetOk x
 | .steal v x=>StealOk x∧v < c.n∧v ≠ p
end Go.Proofs.YtkmccgombmogmaaGreat
namespace Go.Proofs.YtkmccgombmogmaaGreat
open Go.RowKit
set_option linter.unusedVariables false
set_option linter.unusedSimpArgs false
theorem off_lt (c:Cfg) {p q:Nat} (h:p < q) : c.off p+(6+c.q)≤c.off q:=by
 unfold Cfg.off
 have:(p+1) * (6+c.q)≤q * (6+c.q):=Nat.mul_le_mul_right _ h
 rw [Nat.succ_mul] at this
 omega
theorem ring_apart (c:Cfg) {p q:Nat} (h:p ≠ q) : c.off p+(6+c.q)≤c.off q∨c.off q+(6+c.q)≤c.off p:=by
 rcases Nat.lt_or_gt_of_ne h with h | h
 ·exact .inl (off_lt c h)
 ·exact .inr (off_lt c h)
theorem word_slot (c:Cfg) (p q:Nat) (i:Int) : c.word p ≠ c.slot q i:=by
 have:=c.slotI_lt i
 unfold Cfg.word Cfg.slot
 by_cases h:p=q
 ·subst h; omega
 ·rcases ring_apart c h with h | h <;> omega
theorem word_word (c:Cfg) {p q:Nat} (h:p ≠ q) : c.word p ≠ c.word q:=by
 unfold Cfg.word
 rcases ring_apart c h with h | h <;> omega
theorem slot_slot (c:Cfg) {p q:Nat} (h:p ≠ q) (i j:Int) : c.slot p i ≠ c.slot q j:=by
 have:=c.slotI_lt i
 have:=c.slotI_lt j
 unfold Cfg.slot
 rcases ring_apart c h with h | h <;> omega
theorem slot_same (c:Cfg) (p:Nat) (i j:Int) : c.slot p i=c.slot p j↔c.slotI i=c.slotI j:=by
 unfold Cfg.slot
 omega
theorem ld_put {m:MemM} {a:Nat} (ha:a < m.cells.length) (v:Int) (b:Nat) : ld (m.put a v) b=if b=a then v else ld m b:=by
 unfold ld MemM.put
 simp only [List.getD_eq_getElem?_getD]
 by_cases e:b=a
 ·subst e
  rw [if_pos rfl,List.getElem?_set_self ha]
  rfl
 ·rw [if_neg e,List.getElem?_set_ne (Ne.symm e)]
theorem slotI_ne (c:Cfg) {i j:Int} (h1:i < j) (h2:j < i+(c.q:Int)) : c.slotI i ≠ c.slotI j:=by
 have hq:=c.qb
 intro e
 unfold Cfg.slotI at e
 have a1:=Int.emod_nonneg i (b:=(c.q:Int)) (by omega)
 have a2:=Int.emod_nonneg j (b:=(c.q:Int)) (by omega)
 have e2:j % (c.q:Int)=i % (c.q:Int):=by omega
 have e3:(j - i) % (c.q:Int)=0:=Int.emod_eq_emod_iff_emod_sub_eq_zero.1 e2
 rw [Int.emod_eq_of_lt (by omega) (by omega)] at e3
 omega
theorem Cfg.q6 (c:Cfg) : c.q=2∨c.q=4∨c.q=8∨c.q=16∨c.q=32∨c.q=64:=by
 have:=(right_parts c.h).2.1
 omega
theorem slotI_mod (c:Cfg) (i:Int) : c.slotI (i % 4294967296)=c.slotI i:=by
 unfold Cfg.slotI
 rw [Int.emod_emod_of_dvd]
 rcases c.q6 with h | h | h | h | h | h <;> rw [h] <;> decide
theorem slot_mod (c:Cfg) (p:Nat) (i:Int) : c.slot p (i % 4294967296)=c.slot p i:=by
 unfold Cfg.slot
 rw [slotI_mod]
structure WOk (c:Cfg) (B w:Int) : Prop where
 u:U64 w
 hd:hdW w≤B
 sz:szW w≤(c.q:Int)
theorem WOk.tl {c:Cfg} {B w:Int} (h:WOk c B w) (hB:B≤2147483648) : tlW w=hdW w+szW w∧0≤hdW w∧0≤szW w:=by
 have h1:=hdW_bd h.u
 have h2:=tlW_bd w
 have h3:=h.hd
 have h4:=h.sz
 have h5:=c.qb
 have h6:szW w=(tlW w - hdW w) % 4294967296:=rfl
 omega
theorem WOk.mono {c:Cfg} {B B' w:Int} (h:WOk c B w) (hB:B≤B') : WOk c B' w:=⟨h.u,Int.le_trans h.hd hB,h.sz⟩
theorem word_eq {x y:Int} (h1:hdW x=hdW y) (h2:tlW x=tlW y) : x=y:=by
 unfold hdW tlW at *
 omega
theorem gn_hd {x d:Int} (h:U64 x) : hdW (gnW x d)=(hdW x+d) % 4294967296:=by
 have:=tlW_bd x
 unfold gnW packW
 unfold hdW at *
 omega
theorem gn_tl (x d:Int) : tlW (gnW x d)=tlW x:=by
 have:=tlW_bd x
 unfold gnW packW
 unfold tlW at *
 omega
section
variable {c:Cfg} {B w d:Int}
theorem WOk.gain (h:WOk c B w) (hB:B≤1073741824) (h1:0≤d) (h2:d≤szW w) : WOk c (B+d) (gnW w d)∧hdW (gnW w d)=hdW w+d∧szW (gnW w d)=szW w - d∧tlW (gnW w d)=tlW w:=by
 obtain ⟨t1,t2,t3⟩:=h.tl (by omega)
 have h3:=h.hd
 have h4:=h.sz
 have h5:=c.qb
 have e1:hdW (gnW w d)=hdW w+d:=by rw [gn_hd h.u]; omega
 have e2:szW (gnW w d)=szW w - d:=by
  show (tlW (gnW w d) - hdW (gnW w d)) % 4294967296=_
  rw [gn_tl,e1]
  omega
 exact ⟨⟨gnW_u h.u d,by omega,by omega⟩,e1,e2,gn_tl _ _⟩
theorem WOk.move (h:WOk c B w) (hB:B≤1073741824) (h1:0≤szW w+d) (h2:szW w+d≤(c.q:Int)) : WOk c B (mvW w d)∧hdW (mvW w d)=hdW w∧szW (mvW w d)=szW w+d∧tlW (mvW w d)=tlW w+d:=by
 obtain ⟨t1,t2,t3⟩:=h.tl (by omega)
 have h3:=h.hd
 have h4:=h.sz
 have h5:=c.qb
 have e1:hdW (mvW w d)=hdW w:=mv_hd h.u
 have e0:tlW (mvW w d)=tlW w+d:=by rw [mv_tl h.u]; omega
 have e2:szW (mvW w d)=szW w+d:=by
  show (tlW (mvW w d) - hdW (mvW w d)) % 4294967296=_
  rw [e0,e1]
  omega
 exact ⟨⟨mvW_u h.u d,by omega,by omega⟩,e1,e2,e0⟩
end
theorem oldN_b3 {n:Int} (h:0≤n) : 0≤oldN n∧oldN n≤n∧(1≤n→1≤oldN n):=by
 unfold oldN
 omega
abbrev wd (c:Cfg) (m:MemM) (q:Nat) : Int:=ld m (c.word q)
abbrev sl (c:Cfg) (m:MemM) (q:Nat) (i:Int) : Int:=ld m (c.slot q i)
inductive RingTo (c:Cfg) (own:Prop) (q:Nat) (m m':MemM) : Prop where
 | none (s:∀ i,sl c m' q i=sl c m q i) (w:wd c m' q=wd c m q)
 | gain (s:∀ i,sl c m' q i=sl c m q i) (d:Int) (h1:1≤d) (h2:d≤szW (wd c m q)) (w:wd c m' q=gnW (wd c m q) d)
 | grow (o:own) (s:∀ i,sl c m' q i=sl c m q i) (d:Int) (h1:0≤d) (h2:szW (wd c m q)+d≤(c.q:Int)) (w:wd c m' q=mvW (wd c m q) d)
 | drop (o:own) (s:∀ i,sl c m' q i=sl c m q i) (h2:szW (wd c m q)=(c.q:Int)) (w:wd c m' q=mvW (wd c m q) (-((c.q / 2:Nat) : Int)))
 | store (o:own) (w:wd c m' q=wd c m q) (j g:Int) (h1:tlW (wd c m q)≤j) (h2:j < hdW (wd c m q)+(c.q:Int)) (hg:Gn g) (s:∀ i,sl c m' q i=if c.slotI i=c.slotI j then g else sl c m q i)
section
variable {c:Cfg} {own:Prop} {q:Nat} {m m':MemM} {B:Int}
theorem half_bd (h8:c.q=2∨c.q=4∨c.q=8) {n:Int} (h0:0≤n) (h:n≤(c.q:Int)) : oldN n≤(c.q:Int) - ((c.q / 2:Nat) : Int):=by
 unfold oldN
 omega
theorem RingTo.word (h:RingTo c own q m m') (hw:WOk c B (wd c m q)) (hB:B≤1073741824) : WOk c (B+8) (wd c m' q)∨8 < c.q:=by
 have hq:=c.qb
 obtain ⟨t1,t2,t3⟩:=hw.tl (by omega)
 have hz:=hw.sz
 rcases Nat.lt_or_ge 8 c.q with h8 | h8
 ·exact .inr h8
 refine .inl ?_
 cases h with
 | none s w=>rw [w]; exact hw.mono (by omega)
 | gain s d h1 h2 w=>rw [w]; exact (hw.gain hB (by omega) h2).1.mono (by omega)
 | grow o s d h1 h2 w=>rw [w]; exact (hw.move hB (by omega) h2).1.mono (by omega)
 | drop o s h2 w=>rw [w]; exact (hw.move hB (by omega) (by omega)).1.mono (by omega)
 | store o w j g h1 h2 hg s=>rw [w]; exact hw.mono (by omega)
theorem RingTo.gn (h:RingTo c own q m m') (hs:∀ i,Gn (sl c m q i)) (i:Int) : Gn (sl c m' q i):=by
 cases h with
 | none s w=>rw [s]; exact hs i
 | gain s d h1 h2 w=>rw [s]; exact hs i
 | grow o s d h1 h2 w=>rw [s]; exact hs i
 | drop o s h2 w=>rw [s]; exact hs i
 | store o w j g h1 h2 hg s =>
  rw [s]
  split
  ·exact hg
  ·exact hs i
structure Snap (c:Cfg) (B:Int) (m:MemM) (v:Nat) (w:Int) (bt:List Int) : Prop where
 ok:WOk c B w
 ne:1≤szW w
 le:hdW w≤hdW (wd c m v)
 many:(bt.length:Int)≤oldN (szW w)
 old:hdW w=hdW (wd c m v)→oldN (szW w)≤szW (wd c m v)
 bt:hdW w=hdW (wd c m v)→∀ (i:Nat) g,bt[i]? = some g→g=sl c m v (hdW w+(i:Int))
theorem Snap.keep {w:Int} {bt:List Int} (h:Snap c B m q w bt) (h8:c.q=2∨c.q=4∨c.q=8) (hr:RingTo c own q m m') (hw:WOk c B (wd c m q)) (hB:B≤1073741824) : Snap c (B+8) m' q w bt:=by
 have hq:=c.qb
 obtain ⟨t1,t2,t3⟩:=hw.tl (by omega)
 obtain ⟨u1,u2,u3⟩:=h.ok.tl (by omega)
 have hz:=hw.sz
 have hle:=h.le
 have hne:=h.ne
 have hold:=half_bd h8 (by omega) h.ok.sz
 cases hr with
 | none s w=>exact ⟨h.ok.mono (by omega),h.ne,by rw [w]; exact h.le,h.many,by rw [w]; exact h.old,by rw [w]; intro e i g hi; rw [s]; exact h.bt e i g hi⟩
 | gain s d h1 h2 w =>
  obtain ⟨_,e1,_,_⟩:=hw.gain hB (by omega) h2
  exact ⟨h.ok.mono (by omega),h.ne,by rw [w,e1]; omega,h.many,by rw [w,e1]; omega,by rw [w,e1]; omega⟩
 | grow o s d h1 h2 w =>
  obtain ⟨_,e1,e2,_⟩:=hw.move hB (by omega) h2
  exact ⟨h.ok.mono (by omega),h.ne,by rw [w,e1]; omega,h.many,by rw [w,e1,e2]; intro e; have:=h.old e; omega,by rw [w,e1]; intro e i g hi; rw [s]; exact h.bt e i g hi⟩
 | drop o s h2 w =>
  obtain ⟨_,e1,e2,_⟩:=hw.move (d:=-((c.q / 2:Nat) : Int)) hB (by omega) (by omega)
  exact ⟨h.ok.mono (by omega),h.ne,by rw [w,e1]; omega,h.many,by rw [w,e1,e2]; intro e; omega,by rw [w,e1]; intro e i g hi; rw [s]; exact h.bt e i g hi⟩
 | store o w j g h1 h2 hg s =>
  refine ⟨h.ok.mono (by omega),h.ne,by rw [w]; exact h.le,h.many,by rw [w]; exact h.old,?_⟩
  rw [w]
  intro e i g' hi
  have hlt:=(List.getElem?_eq_some_iff.1 hi).1
  have hm:=h.many
  have ho:=h.old e
  rw [s,if_neg (slotI_ne c (by omega) (by omega))]
  exact h.bt e i g' hi
structure Seen (c:Cfg) (B:Int) (m:MemM) (p:Nat) (w:Int) : Prop where
 ok:WOk c B w
 le:hdW w≤hdW (wd c m p)
 tl:tlW w=tlW (wd c m p)
theorem RingTo.else (h:RingTo c own q m m') (hn:¬ own) (hw:WOk c B (wd c m q)) (hB:B≤1073741824) : (∀ i,sl c m' q i=sl c m q i)∧hdW (wd c m q)≤hdW (wd c m' q)∧tlW (wd c m' q)=tlW (wd c m q):=by
 cases h with
 | none s w=>exact ⟨s,by rw [w]; exact Int.le_refl _,by rw [w]⟩
 | gain s d h1 h2 w =>
  obtain ⟨_,e1,_,e2⟩:=hw.gain hB (by omega) h2
  exact ⟨s,by rw [w,e1]; omega,by rw [w,e2]⟩
 | grow o _ _ _ _ _=>exact absurd o hn
 | drop o _ _ _=>exact absurd o hn
 | store o _ _ _ _ _ _ _=>exact absurd o hn
theorem Seen.keep {w:Int} (h:Seen c B m q w) (hr:RingTo c own q m m') (hn:¬ own) (hw:WOk c B (wd c m q)) (hB:B≤1073741824) : Seen c (B+8) m' q w:=by
 obtain ⟨k1,k2,k3⟩:=hr.else hn hw hB
 exact ⟨h.ok.mono (by omega),Int.le_trans h.le k2,h.tl.trans k3.symm⟩
end
end Go.Proofs.YtkmccgombmogmaaGreat
namespace Go.Proofs.YtkmccgombmogmaaGreat
open Go.RowKit
set_option linter.unusedVariables false
set_option linter.unusedSimpArgs false
def win (f:Int→Int) (h:Int) (n:Nat) : List Int:=(List.range n).map (fun i:Nat=>f (h+(i:Int)))
theorem win_len (f:Int→Int) (h:Int) (n:Nat) : (win f h n).length=n:=by simp [win]
theorem win_congr {f g:Int→Int} {h:Int} {n:Nat} (e:∀ i:Int,h≤i→i < h+(n:Int)→f i=g i) : win f h n=win g h n:=by
 apply List.map_congr_left
 intro i hi
 rw [List.mem_range] at hi
 exact e _ (by omega) (by omega)
theorem win_add (f:Int→Int) (h:Int) (n k:Nat) : win f h (n+k)=win f h n++win f (h+(n:Int)) k:=by
 unfold win
 rw [List.range_add,List.map_append,List.map_map]
 congr 1
 apply List.map_congr_left
 intro i _
 show f (h+((n+i:Nat) : Int))=f (h+(n:Int)+(i:Int))
 congr 1
 omega
theorem win_drop (f:Int→Int) (h:Int) {n k:Nat} (hk:k≤n) : (win f h n).drop k=win f (h+(k:Int)) (n - k):=by
 obtain ⟨j,rfl⟩ : ∃ j,n=k+j:=⟨n - k,by omega⟩
 rw [win_add,show k+j - k=j by omega]
 exact List.drop_left' (win_len f h k)
theorem win_take (f:Int→Int) (h:Int) {n k:Nat} (hk:k≤n) : (win f h n).take k=win f h k:=by
 obtain ⟨j,rfl⟩ : ∃ j,n=k+j:=⟨n - k,by omega⟩
 rw [win_add,List.take_left' (win_len f h k)]
theorem win_list {f:Int→Int} {h:Int} {l:List Int} (e:∀ (i:Nat) g,l[i]? = some g→f (h+(i:Int))=g) : win f h l.length=l:=by
 apply List.ext_getElem (by simp [win])
 intro i h1 h2
 have:=e i l[i] (List.getElem?_eq_getElem h2)
 simpa [win] using this
def rl (c:Cfg) (m:MemM) (q:Nat) : List Int:=win (sl c m q) (hdW (wd c m q)) (szW (wd c m q)).toNat
theorem dqAll_win (c:Cfg) (d:DqS) : dqAll c d=win (fun i=>d.sl.getD (c.slotI i) 0) (hdW d.w) (szW d.w).toNat:=by
 unfold dqAll win dqAt
 apply List.map_congr_left
 intro i _
 show d.sl.getD (c.slotI ((hdW d.w+(i:Int)) % 4294967296)) 0=_
 rw [slotI_mod]
theorem szW_nn (x:Int) : 0≤szW x∧szW x < 4294967296:=by
 unfold szW
 omega
theorem ringL_rl {c:Cfg} {m:MemM} {q:Nat} (hs:∀ i,Gn (sl c m q i)) (hz:szW (wd c m q)≤65536) : ringL c m q=rl c m q:=by
 unfold ringL placesW rl win
 rw [if_neg (by show ¬ 65536 < szW (wd c m q); omega),List.map_map]
 apply List.map_congr_left
 intro i _
 show IntKind.i64.wrap (ld m (c.slot q ((hdW (ld m (c.word q))+(i:Int)) % 4294967296)))=_
 rw [slot_mod,gn_wrap (hs _)]
section
variable {c:Cfg} {d:DqS} {B:Int}
theorem dq_gain (hx:DqOk c d) (hw:WOk c B d.w) (hB:B≤1073741824) {k:Nat} (hk:(k:Int)≤szW d.w) : DqOk c ⟨gnW d.w (k:Int),d.sl⟩∧dqAll c ⟨gnW d.w (k:Int),d.sl⟩=(dqAll c d).drop k:=by
 obtain ⟨h1,e1,e2,e3⟩:=hw.gain (d:=(k:Int)) hB (by omega) hk
 refine ⟨⟨h1.u,hx.sl,h1.sz⟩,?_⟩
 rw [dqAll_win,dqAll_win,win_drop _ _ (by omega)]
 show win (fun i=>d.sl.getD (c.slotI i) 0) (hdW (gnW d.w (k:Int))) (szW (gnW d.w (k:Int))).toNat=_
 rw [e1,e2]
 congr 1
 omega
theorem dq_back (hx:DqOk c d) (hw:WOk c B d.w) (hB:B≤1073741824) {k:Nat} (hk:(k:Int)≤szW d.w) : DqOk c ⟨mvW d.w (-(k:Int)),d.sl⟩∧dqAll c ⟨mvW d.w (-(k:Int)),d.sl⟩=(dqAll c d).take ((szW d.w).toNat - k):=by
 have hz:=hw.sz
 obtain ⟨h1,e1,e2,e3⟩:=hw.move (d:=-(k:Int)) hB (by omega) (by omega)
 refine ⟨⟨h1.u,hx.sl,h1.sz⟩,?_⟩
 rw [dqAll_win,dqAll_win,win_take _ _ (by omega)]
 show win (fun i=>d.sl.getD (c.slotI i) 0) (hdW (mvW d.w (-(k:Int)))) (szW (mvW d.w (-(k:Int)))).toNat=_
 rw [e1,e2]
 congr 1
 omega
theorem dq_grow (hx:DqOk c d) (hw:WOk c B d.w) (hB:B≤1073741824) (hz:szW d.w < (c.q:Int)) (g:Int) : DqOk c (dqGrow c d g)∧WOk c B (dqGrow c d g).w∧dqAll c (dqGrow c d g)=dqAll c d++[g]:=by
 obtain ⟨t1,t2,t3⟩:=hw.tl (by omega)
 obtain ⟨h1,e1,e2,e3⟩:=hw.move (d:=1) hB (by omega) (by omega)
 refine ⟨(dqGrow_ok hx hz g).1,h1,?_⟩
 rw [dqAll_win,dqAll_win]
 show win (fun i=>(d.sl.set (c.slotI (tlW d.w)) g).getD (c.slotI i) 0) (hdW (mvW d.w 1)) (szW (mvW d.w 1)).toNat=_
 rw [e1,e2,show (szW d.w+1).toNat=(szW d.w).toNat+1 by omega,win_add]
 have hl:=c.slotI_lt (tlW d.w)
 have hsl:=hx.sl
 congr 1
 ·apply win_congr
  intro i i1 i2
  have:=slotI_ne c (i:=i) (j:=tlW d.w) (by omega) (by omega)
  simp only [List.getD_eq_getElem?_getD]
  rw [List.getElem?_set_ne (Ne.symm this)]
 ·have e5:hdW d.w+(((szW d.w).toNat:Nat) : Int)=tlW d.w:=by omega
  rw [e5]
  simp only [win,List.range_succ,List.range_zero,List.nil_append,List.map_cons,List.map_nil,List.getD_eq_getElem?_getD]
  simp [hsl,hl]
theorem dq_lay (hx:DqOk c d) (hw:WOk c B d.w) (hB:B≤1073741824) (l:List Int) (hz:szW d.w+(l.length:Int)≤(c.q:Int)) : DqOk c (dqLay c d l)∧hdW (dqLay c d l).w=hdW d.w∧tlW (dqLay c d l).w=tlW d.w+(l.length:Int)∧dqAll c (dqLay c d l)=dqAll c d++l:=by
 induction l generalizing d with
 | nil=>exact ⟨hx,rfl,by simp [dqLay],by simp [dqLay]⟩
 | cons g l ih =>
  simp only [List.length_cons] at hz
  have hnn:=szW_nn d.w
  obtain ⟨k1,k2,k3⟩:=dq_grow hx hw hB (by omega) g
  obtain ⟨h1,e1,e2,e3⟩:=hw.move (d:=1) hB (by omega) (by omega)
  obtain ⟨j1,j2,j3,j4⟩:=ih k1 k2 (by show szW (mvW d.w 1)+_≤_; omega)
  refine ⟨j1,?_,?_,?_⟩
  ·show hdW (dqLay c (dqGrow c d g) l).w=_
   rw [j2]
   exact e1
  ·show tlW (dqLay c (dqGrow c d g) l).w=_
   rw [j3]
   show tlW (mvW d.w 1)+_=_
   simp only [List.length_cons]
   omega
  ·show dqAll c (dqLay c (dqGrow c d g) l)=_
   rw [j4,k3]
   simp
end
section
variable {c:Cfg} {m m':MemM} {q:Nat} {B:Int}
theorem rl_same (h:∀ i:Int,hdW (wd c m q)≤i→i < hdW (wd c m q)+((szW (wd c m q)).toNat:Int)→sl c m' q i=sl c m q i) (w:wd c m' q=wd c m q) : rl c m' q=rl c m q:=by
 unfold rl
 rw [w]
 exact win_congr h
theorem rl_gain (hw:WOk c B (wd c m q)) (hB:B≤1073741824) (s:∀ i,sl c m' q i=sl c m q i) {k:Nat} (hk:(k:Int)≤szW (wd c m q)) (w:wd c m' q=gnW (wd c m q) (k:Int)) : rl c m' q=(rl c m q).drop k:=by
 obtain ⟨h1,e1,e2,e3⟩:=hw.gain (d:=(k:Int)) hB (by omega) hk
 unfold rl
 rw [win_drop _ _ (by omega),w,e1,e2,show sl c m' q=sl c m q from funext s]
 congr 1
 omega
theorem rl_back (hw:WOk c B (wd c m q)) (hB:B≤1073741824) (s:∀ i,sl c m' q i=sl c m q i) {k:Nat} (hk:(k:Int)≤szW (wd c m q)) (w:wd c m' q=mvW (wd c m q) (-(k:Int))) : rl c m' q=(rl c m q).take ((szW (wd c m q)).toNat - k):=by
 have hz:=hw.sz
 obtain ⟨h1,e1,e2,e3⟩:=hw.move (d:=-(k:Int)) hB (by omega) (by omega)
 unfold rl
 rw [win_take _ _ (by omega),w,e1,e2,show sl c m' q=sl c m q from funext s]
 congr 1
 omega
theorem rl_grow (hw:WOk c B (wd c m q)) (hB:B≤1073741824) (s:∀ i,sl c m' q i=sl c m q i) {l:List Int} (hk:szW (wd c m q)+(l.length:Int)≤(c.q:Int)) (w:wd c m' q=mvW (wd c m q) (l.length:Int)) (hl:∀ (i:Nat) g,l[i]? = some g→sl c m q (tlW (wd c m q)+(i:Int))=g) : rl c m' q=rl c m q++l:=by
 obtain ⟨t1,t2,t3⟩:=hw.tl (by omega)
 obtain ⟨h1,e1,e2,e3⟩:=hw.move (d:=(l.length:Int)) hB (by omega) hk
 unfold rl
 rw [w,e1,e2,show sl c m' q=sl c m q from funext s,show (szW (wd c m q)+(l.length:Int)).toNat=(szW (wd c m q)).toNat+l.length by omega,win_add]
 congr 1
 rw [show hdW (wd c m q)+(((szW (wd c m q)).toNat:Nat) : Int)=tlW (wd c m q) by omega]
 exact win_list hl
end
structure DqR (c:Cfg) (m:MemM) (q:Nat) (d:DqS) : Prop where
 ok:DqOk c d
 w:d.w=wd c m q
 l:dqAll c d=rl c m q
section
variable {c:Cfg} {m m':MemM} {q:Nat} {B:Int} {d:DqS}
theorem DqR.still (h:DqR c m q d) (hl:rl c m' q=rl c m q) (w:wd c m' q=wd c m q) : DqR c m' q d:=⟨h.ok,h.w.trans w.symm,h.l.trans hl.symm⟩
theorem DqR.gain (h:DqR c m q d) (hw:WOk c B (wd c m q)) (hB:B≤1073741824) (s:∀ i,sl c m' q i=sl c m q i) {k:Nat} (hk:(k:Int)≤szW (wd c m q)) (w:wd c m' q=gnW (wd c m q) (k:Int)) : DqR c m' q ⟨gnW d.w (k:Int),d.sl⟩:=by
 have hw':WOk c B d.w:=by rw [h.w]; exact hw
 obtain ⟨k1,k2⟩:=dq_gain h.ok hw' hB (by rw [h.w]; exact hk)
 exact ⟨k1,by rw [w,← h.w],by rw [k2,h.l,rl_gain hw hB s hk w]⟩
theorem DqR.back (h:DqR c m q d) (hw:WOk c B (wd c m q)) (hB:B≤1073741824) (s:∀ i,sl c m' q i=sl c m q i) {k:Nat} (hk:(k:Int)≤szW (wd c m q)) (w:wd c m' q=mvW (wd c m q) (-(k:Int))) : DqR c m' q ⟨mvW d.w (-(k:Int)),d.sl⟩:=by
 have hw':WOk c B d.w:=by rw [h.w]; exact hw
 obtain ⟨k1,k2⟩:=dq_back h.ok hw' hB (by rw [h.w]; exact hk)
 exact ⟨k1,by rw [w,← h.w],by rw [k2,h.l,h.w,rl_back hw hB s hk w]⟩
theorem DqR.lay (h:DqR c m q d) (hw:WOk c B (wd c m q)) (hB:B≤1073741824) (s:∀ i,sl c m' q i=sl c m q i) {l:List Int} (hk:szW (wd c m q)+(l.length:Int)≤(c.q:Int)) (w:wd c m' q=mvW (wd c m q) (l.length:Int)) (hl:∀ (i:Nat) g,l[i]? = some g→sl c m q (tlW (wd c m q)+(i:Int))=g) : DqR c m' q (dqLay c d l):=by
 have hw':WOk c B d.w:=by rw [h.w]; exact hw
 obtain ⟨h1,e1,e2,e3⟩:=hw.move (d:=(l.length:Int)) hB (by have:=szW_nn (wd c m q); omega) hk
 obtain ⟨k1,k2,k3,k4⟩:=dq_lay h.ok hw' hB l (by rw [h.w]; exact hk)
 refine ⟨k1,?_,by rw [k4,h.l,rl_grow hw hB s hk w hl]⟩
 rw [w]
 exact word_eq (by rw [k2,e1,h.w]) (by rw [k3,e3,h.w])
end
end Go.Proofs.YtkmccgombmogmaaGreat
namespace Go.Proofs.YtkmccgombmogmaaGreat
open Go.RowKit
set_option linter.unusedVariables false
set_option linter.unusedSimpArgs false
section
variable {c:Cfg} {m:MemM} {p:Nat}
theorem wd_putw (hm:MemOk c m) (hp:p < c.n) (v:Int) (q:Nat) : wd c (m.put (c.word p) v) q=if q=p then v else wd c m q:=by
 show ld _ _=_
 rw [ld_put (hm.lt_word hp)]
 by_cases e:q=p
 ·rw [if_pos e,if_pos (by rw [e])]
 ·rw [if_neg e,if_neg (word_word c e)]
theorem sl_putw (hm:MemOk c m) (hp:p < c.n) (v:Int) (q:Nat) (i:Int) : sl c (m.put (c.word p) v) q i=sl c m q i:=by
 show ld _ _=_
 rw [ld_put (hm.lt_word hp),if_neg (Ne.symm (word_slot c p q i))]
theorem wd_puts (hm:MemOk c m) (hp:p < c.n) (j v:Int) (q:Nat) : wd c (m.put (c.slot p j) v) q=wd c m q:=by
 show ld _ _=_
 rw [ld_put (hm.lt_slot hp j),if_neg (word_slot c q p j)]
theorem sl_puts (hm:MemOk c m) (hp:p < c.n) (j v:Int) (q:Nat) (i:Int) : sl c (m.put (c.slot p j) v) q i=if q=p∧c.slotI i=c.slotI j then v else sl c m q i:=by
 show ld _ _=_
 rw [ld_put (hm.lt_slot hp j)]
 by_cases e:q=p
 ·subst e
  by_cases e2:c.slotI i=c.slotI j
  ·rw [if_pos ((slot_same c q i j).2 e2),if_pos ⟨rfl,e2⟩]
  ·rw [if_neg (fun h=>e2 ((slot_same c q i j).1 h)),if_neg (fun h=>e2 h.2)]
 ·rw [if_neg (slot_slot c e i j),if_neg (fun h=>e h.1)]
end
structure Quiet (c:Cfg) (p:Nat) (m m':MemM) : Prop where
 mem:MemOk c m'
 ring:∀ q,q < c.n→RingTo c (p=q) q m m'
 w:∀ q,q < c.n→wd c m' q=wd c m q
 l:∀ q,q < c.n→rl c m' q=rl c m q
structure Rings (c:Cfg) (B:Int) (m:MemM) : Prop where
 mem:MemOk c m
 sl:SlotsOk c m
 w:∀ q,q < c.n→WOk c B (wd c m q)
 h8:c.q=2∨c.q=4∨c.q=8
 hB:B≤1073741824
section
variable {c:Cfg} {m:MemM} {p:Nat} {B:Int}
theorem Rings.tick (h:Rings c B m) : Quiet c p m m.tick:=⟨h.mem.tick,fun q _=>.none (fun _=>rfl) rfl,fun q _=>rfl,fun q _=>rfl⟩
theorem Rings.store (h:Rings c B m) (hp:p < c.n) {j g:Int} (hg:Gn g) (h1:tlW (wd c m p)≤j) (h2:j < hdW (wd c m p)+(c.q:Int)) : Quiet c p m (m.put (c.slot p j) g):=by
 have hw:=fun q hq=>(h.w q hq).tl (by have:=h.hB; omega)
 refine ⟨h.mem.put _ (gn_u hg),fun q hq=>?_,fun q hq=>wd_puts h.mem hp j g q,fun q hq=>?_⟩
 ·by_cases e:p=q
  ·subst e
   exact .store rfl (wd_puts h.mem hp j g p) j g h1 h2 hg (fun i=>by rw [sl_puts h.mem hp]; simp)
  ·exact .none (fun i=>by rw [sl_puts h.mem hp,if_neg (fun h=>e h.1.symm)]) (wd_puts h.mem hp j g q)
 ·refine rl_same (fun i i1 i2=>?_) (wd_puts h.mem hp j g q)
  rw [sl_puts h.mem hp]
  by_cases e:q=p
  ·subst e
   obtain ⟨t1,t2,t3⟩:=hw q hq
   rw [if_neg (fun h=>slotI_ne c (by omega) (by omega) h.2)]
  ·rw [if_neg (fun h=>e h.1)]
theorem Rings.next (h:Rings c B m) {own:Nat→Prop} {m':MemM} (hm:MemOk c m') (hr:∀ q,q < c.n→RingTo c (own q) q m m') (hB:B+8≤1073741824) : Rings c (B+8) m' :=
 ⟨hm,fun q hq i=>(hr q hq).gn (h.sl q hq) i,fun q hq=>((hr q hq).word (h.w q hq) h.hB).resolve_right (by have:=h.h8; omega),h.h8,hB⟩
end
structure PutI (c:Cfg) (B:Int) (m:MemM) (p:Nat) (u:PutS) : Prop where
 ok:PutOk c u
 gg:Gn u.gg
 hs:u.hs=[u.gg]
 s23:u.st=2∨u.st=3→Seen c B m p u.w∧szW u.w < (c.q:Int)
 s3:u.st=3→sl c m p (tlW u.w)=u.gg
 s45:u.st=4∨u.st=5→WOk c B u.w∧szW u.w=(c.q:Int)∧∀ (i:Nat) g,u.ts[i]? = some g→g=sl c m p (tlW u.w - ((c.q / 2:Nat) : Int)+(i:Int))
 s5:u.st=5→u.ts.length=c.q / 2
section
variable {c:Cfg} {B:Int} {m m':MemM} {p:Nat} {own:Prop}
theorem PutI.keep {u:PutS} (h:PutI c B m p u) (hr:RingTo c own p m m') (hn:¬ own) (hw:WOk c B (wd c m p)) (hB:B≤1073741824) : PutI c (B+8) m' p u:=by
 obtain ⟨k1,k2,k3⟩:=hr.else hn hw hB
 exact ⟨h.ok,h.gg,h.hs,fun e=>⟨(h.s23 e).1.keep hr hn hw hB,(h.s23 e).2⟩,fun e=>by rw [k1]; exact h.s3 e,fun e=>⟨(h.s45 e).1.mono (by omega),(h.s45 e).2.1,fun i g hi=>by rw [k1]; exact (h.s45 e).2.2 i g hi⟩,h.s5⟩
theorem tkI_eq (c:Cfg) (p:Nat) (w:Int) (n:Nat) : c.slot p (tkI c w n)=c.slot p (tlW w - ((c.q / 2:Nat) : Int)+(n:Int)):=by
 unfold tkI
 exact slot_mod c p _
theorem dqPut_R (hR:Rings c B m) {d:DqS} (hp:p < c.n) (hd:DqR c m p d) (g:Int) : (szW (wd c m p) < (c.q:Int)→(∀ i,sl c m' p i=sl c m p i)→wd c m' p=mvW (wd c m p) 1→sl c m p (tlW (wd c m p))=g→DqR c m' p (dqPut c d g).1∧(dqPut c d g).2=[]∧rl c m' p=rl c m p++[g]) ∧
  (szW (wd c m p)=(c.q:Int)→(∀ i,sl c m' p i=sl c m p i)→wd c m' p=mvW (wd c m p) (-((c.q / 2:Nat) : Int))→DqR c m' p (dqPut c d g).1∧(dqPut c d g).2=(rl c m p).drop (c.q / 2)++[g]∧rl c m' p=(rl c m p).take (c.q / 2)):=by
 have hw:=hR.w p hp
 have h8:=hR.h8
 constructor
 ·intro hz hs hw' hg
  unfold dqPut
  rw [if_pos (by rw [hd.w]; exact hz)]
  have k:=hd.lay hw hR.hB hs (l:=[g]) (by simp; omega) hw' (fun i g' hi=>by
   match i with
   | 0=>cases hi; simpa using hg
   | i+1=>cases hi)
  exact ⟨k,rfl,by rw [← k.l,← hd.l]; exact (dq_grow hd.ok (B:=B) (by rw [hd.w]; exact hw) hR.hB (by rw [hd.w]; exact hz) g).2.2⟩
 ·intro hz hs hw'
  unfold dqPut
  rw [if_neg (by rw [hd.w]; omega)]
  have k:=hd.back hw hR.hB hs (k:=c.q / 2) (by omega) hw'
  have k2:=rl_back hw hR.hB hs (k:=c.q / 2) (by omega) hw'
  refine ⟨k,by rw [← hd.l],?_⟩
  rw [k2,hz]
  congr 1
  omega
theorem put_does (hR:Rings c B m) (hp:p < c.n) {u:PutS} (h:PutI c B m p u) (h0:u.st ≠ 0) :
  MemOk c (putStep c p u m).2∧(∀ q,q < c.n→RingTo c (p=q) q m (putStep c p u m).2)∧(∀ q,q < c.n→q ≠ p→wd c (putStep c p u m).2 q=wd c m q∧rl c (putStep c p u m).2 q=rl c m q)∧(putStep c p u m).1.gg=u.gg ∧
  ((putStep c p u m).1.st ≠ 0→PutI c (B+8) (putStep c p u m).2 p (putStep c p u m).1∧Quiet c p m (putStep c p u m).2) ∧
  ((putStep c p u m).1.st=0→∀ d,DqR c m p d→DqR c (putStep c p u m).2 p (dqPut c d u.gg).1∧(dqPut c d u.gg).2=(putStep c p u m).1.hs∧(rl c (putStep c p u m).2 p++(putStep c p u m).1.hs).Perm (rl c m p++[u.gg])):=by
 have hok:=(putStep_ok hp h.ok hR.mem).1
 have hw:=hR.w p hp
 have hB:=hR.hB
 have h8:=hR.h8
 obtain ⟨t1,t2,t3⟩:=hw.tl (by omega)
 have hz:=hw.sz
 have qt:∀ {m':MemM},Quiet c p m m'→MemOk c m'∧(∀ q,q < c.n→RingTo c (p=q) q m m')∧(∀ q,q < c.n→q ≠ p→wd c m' q=wd c m q∧rl c m' q=rl c m q):=fun k=>⟨k.mem,k.ring,fun q hq _=>⟨k.w q hq,k.l q hq⟩⟩
 have hgg:=h.gg
 have hhs:=h.hs
 have s23:=h.s23
 have s3:=h.s3
 have s45:=h.s45
 have s5:=h.s5
 have hts:=h.ok.ts
 have ht4:=h.ok.t4
 have huw:=h.ok.w
 obtain ⟨st,gg,w,ts,hs⟩:=u
 dsimp only at hgg hhs s23 s3 s45 s5 hts ht4 huw h0
 subst hhs
 match st,h.ok.st with
 | 0,_=>exact absurd rfl h0
 | 1,_ =>
  have e:putStep c p ⟨1,gg,w,ts,[gg]⟩ m=(⟨if (c.q:Int)≤szW (ld m (c.word p)) then 4 else 2,gg,ld m (c.word p),[],[gg]⟩,m.tick):=rfl
  rw [e] at hok ⊢
  obtain ⟨a1,a2,a3⟩:=qt (hR.tick (p:=p))
  refine ⟨a1,a2,a3,rfl,fun _=>⟨⟨hok,hgg,rfl,?_,?_,?_,?_⟩,hR.tick⟩,?_⟩
  ·intro he
   have hlt:¬ (c.q:Int)≤szW (wd c m p):=fun hh=>by
    dsimp only at he
    rw [if_pos hh] at he
    omega
   exact ⟨⟨hw.mono (by omega),Int.le_refl _,rfl⟩,by show szW (wd c m p) < _; omega⟩
  ·intro he
   dsimp only at he
   split at he <;> cases he
  ·intro he
   have hle:(c.q:Int)≤szW (wd c m p):=Classical.byContradiction fun hh=>by
    dsimp only at he
    rw [if_neg hh] at he
    omega
   exact ⟨hw.mono (by omega),by show szW (wd c m p)=_; omega,fun i g hi=>by cases hi⟩
  ·intro he
   dsimp only at he
   split at he <;> cases he
  ·intro he
   dsimp only at he
   split at he <;> cases he
 | 2,_ =>
  obtain ⟨k1,k2⟩:=s23 (.inl rfl)
  obtain ⟨u1,u2,u3⟩:=k1.ok.tl (by omega)
  have e:putStep c p ⟨2,gg,w,ts,[gg]⟩ m=(⟨3,gg,w,ts,[gg]⟩,m.put (c.slot p (tlW w)) gg):=rfl
  rw [e] at hok ⊢
  have kl:=k1.le
  have kt:=k1.tl
  have Qt:=hR.store hp hgg (j:=tlW w) (by omega) (by omega)
  obtain ⟨a1,a2,a3⟩:=qt Qt
  refine ⟨a1,a2,a3,rfl,fun _=>⟨⟨hok,hgg,rfl,fun _=>⟨⟨k1.ok.mono (by omega),by show _≤hdW (wd c _ p); rw [Qt.w p hp]; exact kl,by show _=tlW (wd c _ p); rw [Qt.w p hp]; exact kt⟩,k2⟩,fun _=>?_,fun he=>(by rcases he with he | he <;> cases he),fun he=>(by cases he)⟩,Qt⟩,fun he=>(by cases he)⟩
  show sl c (m.put (c.slot p (tlW w)) gg) p (tlW w)=gg
  rw [sl_puts hR.mem hp,if_pos ⟨rfl,rfl⟩]
 | 3,_ =>
  obtain ⟨k1,k2⟩:=s23 (.inr rfl)
  have k3:=s3 rfl
  by_cases hc:ld m (c.word p)=w
  ·have e:putStep c p ⟨3,gg,w,ts,[gg]⟩ m=(⟨0,gg,w,ts,[]⟩,m.put (c.word p) (mvW w 1)):=by simp only [putStep,if_pos hc]
   rw [e] at hok ⊢
   have hwe:wd c m p=w:=hc
   have hw':wd c (m.put (c.word p) (mvW w 1)) p=mvW (wd c m p) 1:=by rw [wd_putw hR.mem hp,if_pos rfl,hwe]
   have hs':∀ q i,sl c (m.put (c.word p) (mvW w 1)) q i=sl c m q i:=fun q i=>sl_putw hR.mem hp _ q i
   have ho:∀ q,q ≠ p→wd c (m.put (c.word p) (mvW w 1)) q=wd c m q:=fun q hq=>by rw [wd_putw hR.mem hp,if_neg hq]
   refine ⟨hR.mem.put _ (mvW_u huw 1),fun q hq=>?_,fun q hq hne=>⟨ho q hne,rl_same (fun i _ _=>hs' q i) (ho q hne)⟩,rfl,fun he=>absurd rfl he,fun _ d hd=>?_⟩
   ·by_cases eq:p=q
    ·subst eq
     exact .grow rfl (hs' p) 1 (by omega) (by rw [hwe]; omega) hw'
    ·exact .none (hs' q) (ho q (Ne.symm eq))
   ·obtain ⟨j1,j2,j3⟩:=(dqPut_R hR hp hd gg).1 (by rw [hwe]; exact k2) (hs' p) hw' (by rw [hwe]; exact k3)
    refine ⟨j1,j2,?_⟩
    rw [j3,List.append_nil]
  ·have e:putStep c p ⟨3,gg,w,ts,[gg]⟩ m=(⟨1,gg,w,ts,[gg]⟩,m.tick):=by simp only [putStep,if_neg hc]
   rw [e] at hok ⊢
   obtain ⟨a1,a2,a3⟩:=qt (hR.tick (p:=p))
   exact ⟨a1,a2,a3,rfl,fun _=>⟨⟨hok,hgg,rfl,fun he=>(by rcases he with he | he <;> cases he),fun he=>(by cases he),fun he=>(by rcases he with he | he <;> cases he),fun he=>(by cases he)⟩,hR.tick⟩,fun he=>(by cases he)⟩
 | 4,_ =>
  obtain ⟨k1,k2,k3⟩:=s45 (.inl rfl)
  have k4:=ht4 rfl
  obtain ⟨st',hst'⟩ : ∃ st',(if ts.length+1=c.q / 2 then 5 else 4)=st':=⟨_,rfl⟩
  have hG:=gn_wrap (hR.sl p hp (tlW w - ((c.q / 2:Nat) : Int)+(ts.length:Int)))
  have e:putStep c p ⟨4,gg,w,ts,[gg]⟩ m=(⟨st',gg,w,ts++[sl c m p (tlW w - ((c.q / 2:Nat) : Int)+(ts.length:Int))],[gg]⟩,m.tick):=by
   simp only [putStep,hst',tkI_eq]
   rw [hG]
  rw [e] at hok ⊢
  obtain ⟨a1,a2,a3⟩:=qt (hR.tick (p:=p))
  refine ⟨a1,a2,a3,rfl,fun _=>⟨⟨hok,hgg,rfl,fun he=>?_,fun he=>?_,fun _=>⟨k1.mono (by omega),k2,fun i g hi=>?_⟩,fun he=>?_⟩,hR.tick⟩,fun he=>?_⟩
  ·dsimp only at he
   split at hst' <;> omega
  ·dsimp only at he
   split at hst' <;> omega
  ·show g=sl c m p _
   dsimp only at hi ⊢
   by_cases hlt:i < ts.length
   ·rw [List.getElem?_append_left hlt] at hi
    exact k3 i g hi
   ·rw [List.getElem?_append_right (by omega)] at hi
    have hi0:i - ts.length=0:=by
     rcases Nat.eq_zero_or_pos (i - ts.length) with h | h
     ·exact h
     ·rw [List.getElem?_eq_none (by simp; omega)] at hi
      cases hi
    rw [hi0] at hi
    cases hi
    rw [show i=ts.length by omega]
  ·dsimp only at he ⊢
   rw [List.length_append]
   simp only [List.length_cons,List.length_nil]
   split at hst' <;> omega
  ·dsimp only at he
   split at hst' <;> omega
 | 5,_ =>
  obtain ⟨k1,k2,k3⟩:=s45 (.inr rfl)
  have k5:=s5 rfl
  by_cases hc:ld m (c.word p)=w
  ·have e:putStep c p ⟨5,gg,w,ts,[gg]⟩ m=(⟨0,gg,w,ts,ts++[gg]⟩,m.put (c.word p) (mvW w (-((c.q / 2:Nat) : Int)))):=by simp only [putStep,if_pos hc]
   rw [e] at hok ⊢
   have hwe:wd c m p=w:=hc
   have hw':wd c (m.put (c.word p) (mvW w (-((c.q / 2:Nat) : Int)))) p=mvW (wd c m p) (-((c.q / 2:Nat) : Int)):=by rw [wd_putw hR.mem hp,if_pos rfl,hwe]
   have hs':∀ q i,sl c (m.put (c.word p) (mvW w (-((c.q / 2:Nat) : Int)))) q i=sl c m q i:=fun q i=>sl_putw hR.mem hp _ q i
   have ho:∀ q,q ≠ p→wd c (m.put (c.word p) (mvW w (-((c.q / 2:Nat) : Int)))) q=wd c m q:=fun q hq=>by rw [wd_putw hR.mem hp,if_neg hq]
   refine ⟨hR.mem.put _ (mvW_u huw _),fun q hq=>?_,fun q hq hne=>⟨ho q hne,rl_same (fun i _ _=>hs' q i) (ho q hne)⟩,rfl,fun he=>absurd rfl he,fun _ d hd=>?_⟩
   ·by_cases eq:p=q
    ·subst eq
     exact .drop rfl (hs' p) (by rw [hwe]; omega) hw'
    ·exact .none (hs' q) (ho q (Ne.symm eq))
   ·obtain ⟨j1,j2,j3⟩:=(dqPut_R hR hp hd gg).2 (by rw [hwe]; exact k2) (hs' p) hw'
    have hts2:(rl c m p).drop (c.q / 2)=ts:=by
     unfold rl
     rw [win_drop _ _ (by rw [hwe]; omega)]
     have e1:(szW (wd c m p)).toNat - c.q / 2=ts.length:=by rw [hwe,k2,k5]; omega
     rw [e1]
     refine win_list (fun i g hi=>?_)
     rw [k3 i g hi]
     congr 2
     rw [← hwe]
     rw [← hwe] at k2
     omega
    rw [hts2] at j2
    refine ⟨j1,j2,?_⟩
    dsimp only
    rw [j3,← List.append_assoc,← hts2,List.take_append_drop]
  ·have e:putStep c p ⟨5,gg,w,ts,[gg]⟩ m=(⟨1,gg,w,ts,[gg]⟩,m.tick):=by simp only [putStep,if_neg hc]
   rw [e] at hok ⊢
   obtain ⟨a1,a2,a3⟩:=qt (hR.tick (p:=p))
   exact ⟨a1,a2,a3,rfl,fun _=>⟨⟨hok,hgg,rfl,fun he=>(by rcases he with he | he <;> cases he),fun he=>(by cases he),fun he=>(by rcases he with he | he <;> cases he),fun he=>(by cases he)⟩,hR.tick⟩,fun he=>(by cases he)⟩
end
structure GetI (c:Cfg) (B:Int) (m:MemM) (p:Nat) (u:GetS) : Prop where
 ok:GetOk u
 s23:u.st=2∨u.st=3→WOk c B u.w∧1≤szW u.w
 s3:u.st=3→u.sn=sl c m p (hdW u.w)
section
variable {c:Cfg} {B:Int} {m m':MemM} {p:Nat} {own:Prop}
theorem GetI.keep {u:GetS} (h:GetI c B m p u) (hr:RingTo c own p m m') (hn:¬ own) (hw:WOk c B (wd c m p)) (hB:B≤1073741824) : GetI c (B+8) m' p u:=by
 obtain ⟨k1,k2,k3⟩:=hr.else hn hw hB
 exact ⟨h.ok,fun e=>⟨(h.s23 e).1.mono (by omega),(h.s23 e).2⟩,fun e=>by rw [k1]; exact h.s3 e⟩
theorem get_does (hR:Rings c B m) (hp:p < c.n) {u:GetS} (h:GetI c B m p u) (h0:u.st ≠ 0) :
  MemOk c (getStep c p u m).2∧(∀ q,q < c.n→RingTo c (p=q) q m (getStep c p u m).2)∧(∀ q,q < c.n→q ≠ p→wd c (getStep c p u m).2 q=wd c m q∧rl c (getStep c p u m).2 q=rl c m q) ∧
  ((getStep c p u m).1.st ≠ 0→GetI c (B+8) (getStep c p u m).2 p (getStep c p u m).1∧Quiet c p m (getStep c p u m).2) ∧
  ((getStep c p u m).1.st=0→∀ d,DqR c m p d→DqR c (getStep c p u m).2 p (dqGet d)∧(dqAll c d).headD 0=(if (getStep c p u m).1.has then (getStep c p u m).1.sn else 0)∧decide (szW d.w ≠ 0)=(getStep c p u m).1.has∧(if (getStep c p u m).1.has then [(getStep c p u m).1.sn] else [])++rl c (getStep c p u m).2 p=rl c m p):=by
 have hok:=(getStep_ok hp h.ok hR.mem).1
 have hw:=hR.w p hp
 have hB:=hR.hB
 have h8:=hR.h8
 obtain ⟨t1,t2,t3⟩:=hw.tl (by omega)
 have hz:=hw.sz
 have qt:∀ {m':MemM},Quiet c p m m'→MemOk c m'∧(∀ q,q < c.n→RingTo c (p=q) q m m')∧(∀ q,q < c.n→q ≠ p→wd c m' q=wd c m q∧rl c m' q=rl c m q):=fun k=>⟨k.mem,k.ring,fun q hq _=>⟨k.w q hq,k.l q hq⟩⟩
 have hhas:=h.ok.has h0
 have s23:=h.s23
 have s3:=h.s3
 have huw:=h.ok.w
 obtain ⟨st,w,sn,has⟩:=u
 dsimp only at hhas s23 s3 huw h0
 subst hhas
 match st,h.ok.st with
 | 0,_=>exact absurd rfl h0
 | 1,_ =>
  obtain ⟨a1,a2,a3⟩:=qt (hR.tick (p:=p))
  by_cases hc:szW (ld m (c.word p))=0∨(c.q:Int) < szW (ld m (c.word p))
  ·have e:getStep c p ⟨1,w,sn,false⟩ m=(⟨0,ld m (c.word p),sn,false⟩,m.tick):=by simp only [getStep,if_pos hc]
   rw [e] at hok ⊢
   have hz0:szW (wd c m p)=0:=by
    rcases hc with h | h
    ·exact h
    ·exact absurd h (by have:=hz; show ¬ _ < szW (wd c m p); omega)
   refine ⟨a1,a2,a3,fun he=>absurd rfl he,fun _ d hd=>?_⟩
   have hdz:szW d.w=0:=by rw [hd.w]; exact hz0
   have hl:dqAll c d=[]:=by simp [dqAll,hdz]
   refine ⟨?_,by rw [hl]; rfl,by simp [hdz],rfl⟩
   unfold dqGet
   rw [if_pos hdz]
   exact hd.still rfl rfl
  ·have e:getStep c p ⟨1,w,sn,false⟩ m=(⟨2,ld m (c.word p),sn,false⟩,m.tick):=by simp only [getStep,if_neg hc]
   rw [e] at hok ⊢
   refine ⟨a1,a2,a3,fun _=>⟨⟨hok,fun _=>⟨hw.mono (by omega),?_⟩,fun he=>(by cases he)⟩,hR.tick⟩,fun he=>(by cases he)⟩
   rw [not_or] at hc
   have:=hc.1
   show 1≤szW (wd c m p)
   have:szW (wd c m p) ≠ 0:=hc.1
   omega
 | 2,_ =>
  obtain ⟨a1,a2,a3⟩:=qt (hR.tick (p:=p))
  have e:getStep c p ⟨2,w,sn,false⟩ m=(⟨3,w,sl c m p (hdW w),false⟩,m.tick):=by
   simp only [getStep]
   rw [gn_wrap (hR.sl p hp _)]
  rw [e] at hok ⊢
  obtain ⟨k1,k2⟩:=s23 (.inl rfl)
  exact ⟨a1,a2,a3,fun _=>⟨⟨hok,fun _=>⟨k1.mono (by omega),k2⟩,fun _=>rfl⟩,hR.tick⟩,fun he=>(by cases he)⟩
 | 3,_ =>
  obtain ⟨k1,k2⟩:=s23 (.inr rfl)
  have k3:=s3 rfl
  by_cases hc:ld m (c.word p)=w
  ·have e:getStep c p ⟨3,w,sn,false⟩ m=(⟨0,w,sn,true⟩,m.put (c.word p) (gnW w 1)):=by simp only [getStep,if_pos hc]
   rw [e] at hok ⊢
   have hwe:wd c m p=w:=hc
   have hw':wd c (m.put (c.word p) (gnW w 1)) p=gnW (wd c m p) ((1:Nat) : Int):=by rw [wd_putw hR.mem hp,if_pos rfl,hwe]; rfl
   have hs':∀ q i,sl c (m.put (c.word p) (gnW w 1)) q i=sl c m q i:=fun q i=>sl_putw hR.mem hp _ q i
   have ho:∀ q,q ≠ p→wd c (m.put (c.word p) (gnW w 1)) q=wd c m q:=fun q hq=>by rw [wd_putw hR.mem hp,if_neg hq]
   refine ⟨hR.mem.put _ (gnW_u huw 1),fun q hq=>?_,fun q hq hne=>⟨ho q hne,rl_same (fun i _ _=>hs' q i) (ho q hne)⟩,fun he=>absurd rfl he,fun _ d hd=>?_⟩
   ·by_cases eq:p=q
    ·subst eq
     exact .gain (hs' p) 1 (by omega) (by rw [hwe]; exact k2) hw'
    ·exact .none (hs' q) (ho q (Ne.symm eq))
   ·have hdz:¬ szW d.w=0:=by rw [hd.w,hwe]; omega
    have hle:((1:Nat) : Int)≤szW (wd c m p):=by rw [hwe]; omega
    have hg:=rl_gain hw hB (hs' p) hle hw'
    have hh:rl c m p=sn::(rl c m p).drop 1:=by
     unfold rl
     rw [hwe]
     obtain ⟨k,hk⟩ : ∃ k,(szW w).toNat=1+k:=⟨(szW w).toNat - 1,by omega⟩
     rw [hk,win_add]
     simp [win,k3]
    refine ⟨?_,?_,by simp [hdz],?_⟩
    ·unfold dqGet
     rw [if_neg hdz]
     exact hd.gain hw hB (hs' p) hle hw'
    ·rw [hd.l,hh]
     rfl
    ·rw [hg]
     exact hh.symm
  ·have e:getStep c p ⟨3,w,sn,false⟩ m=(⟨1,w,sn,false⟩,m.tick):=by simp only [getStep,if_neg hc]
   rw [e] at hok ⊢
   obtain ⟨a1,a2,a3⟩:=qt (hR.tick (p:=p))
   exact ⟨a1,a2,a3,fun _=>⟨⟨hok,fun he=>(by rcases he with he | he <;> cases he),fun he=>(by cases he)⟩,hR.tick⟩,fun he=>(by cases he)⟩
end
end Go.Proofs.YtkmccgombmogmaaGreat
