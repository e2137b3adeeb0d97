/- Part of a proof: see the last text. -/
import Derived.Test.YtkmccgombmogmaaGreatZk15
import Derived.Test.YtkmccgombmogmaaGreatZk23
namespace Go.Proofs.YtkmccgombmogmaaGreat
open Go.RowKit
set_option linter.unusedVariables false
set_option linter.unusedSimpArgs false
set_option maxRecDepth 8000
section
variable {ctx:Ev.Ctx} {w:World} {r:List Ev.Asr} {b:RB} {c:Cfg} {x:RaceS} {p:Int}
theorem thereN (n:Nat) (hp:¬ (0≤p∧p < (c.n:Int))) (h:Ev.Hold ctx (raceA b c x::r) w) :
  CallsIn Fence.wide n Tryz.prog 32 #[.pointer (some ⟨b.br,0,none⟩),.int .i64 p] w fun e w'=>e=.returned (.bool false)∧w'=w:=by
 obtain ⟨es,h1⟩:=a_open h
 have:=there_in n (race_at h1) p
 rwa [decide_eq_false hp] at this
theorem busyN (n:Nat) (hp:¬ (0≤p∧p < (c.n:Int))) (h:Ev.Hold ctx (raceA b c x::r) w) :
  CallsIn Fence.wide n Tryz.prog 12 #[.pointer (some ⟨b.br,0,none⟩),.int .i64 p] w fun e w'=>e=.returned (.bool false)∧w'=w:=by
 refine callsIn_of_wp Tryz.func12 rfl trivial ?_ rfl
 simp only [Tryz.ntmps12,List.size_toArray,List.length_cons,List.length_nil,Nat.reduceAdd,Nat.reduceSub,Array.replicate_succ,Array.replicate_zero,List.push_toArray,List.append_toArray,List.nil_append,List.cons_append]
 have hb:=thereN (n - 1) hp h
 gi_wp2
 refine ⟨trivial,fun h=>by simp [Fence.wide] at h,hb.mono ?_⟩
 rintro e w' ⟨rfl,hw'⟩
 replace hw':=hw'.symm
 subst hw'
 gi_wp2
 exact bodyPost_ret (results_tmp rfl _ _ _) rfl ⟨rfl,rfl⟩
theorem ringN (n:Nat) (hp:¬ (0≤p∧p < (c.n:Int))) (h:Ev.Hold ctx (raceA b c x::r) w) :
  CallsIn Fence.wide n Tryz.prog 15 #[.pointer (some ⟨b.br,0,none⟩),.int .i64 p] w fun e w'=>e=.returned (.slice none 0 0)∧w'=w:=by
 refine callsIn_of_wp Tryz.func15 rfl trivial ?_ rfl
 simp only [Tryz.ntmps15,List.size_toArray,List.length_cons,List.length_nil,Nat.reduceAdd,Nat.reduceSub,Array.replicate_succ,Array.replicate_zero,List.push_toArray,List.append_toArray,List.nil_append,List.cons_append]
 have hb:=thereN (n - 1) hp h
 gi_wp2
 refine ⟨trivial,fun h=>by simp [Fence.wide] at h,hb.mono ?_⟩
 rintro e w' ⟨rfl,hw'⟩
 replace hw':=hw'.symm
 subst hw'
 gi_wp2
 exact bodyPost_ret (results_tmp rfl _ _ _) rfl ⟨rfl,rfl⟩
theorem dequeN (n:Nat) (hp:¬ (0≤p∧p < (c.n:Int))) (h:Ev.Hold ctx (raceA b c x::r) w) :
  CallsIn Fence.wide n Tryz.prog 18 #[.pointer (some ⟨b.br,0,none⟩),.int .i64 p] w fun e w'=>e=.returned (.slice none 0 0)∧w'=w:=by
 refine callsIn_of_wp Tryz.func18 rfl trivial ?_ rfl
 simp only [Tryz.ntmps18,List.size_toArray,List.length_cons,List.length_nil,Nat.reduceAdd,Nat.reduceSub,Array.replicate_succ,Array.replicate_zero,List.push_toArray,List.append_toArray,List.nil_append,List.cons_append]
 have hb:=thereN (n - 1) hp h
 gi_wp2
 refine ⟨trivial,fun h=>by simp [Fence.wide] at h,hb.mono ?_⟩
 rintro e w' ⟨rfl,hw'⟩
 replace hw':=hw'.symm
 subst hw'
 gi_wp2
 exact bodyPost_ret (results_tmp rfl _ _ _) rfl ⟨rfl,rfl⟩
theorem handsN (n:Nat) (hp:¬ (0≤p∧p < (c.n:Int))) (h:Ev.Hold ctx (raceA b c x::r) w) :
  CallsIn Fence.wide n Tryz.prog 19 #[.pointer (some ⟨b.br,0,none⟩),.int .i64 p] w fun e w'=>e=.returned (.slice none 0 0)∧w'=w:=by
 refine callsIn_of_wp Tryz.func19 rfl trivial ?_ rfl
 simp only [Tryz.ntmps19,List.size_toArray,List.length_cons,List.length_nil,Nat.reduceAdd,Nat.reduceSub,Array.replicate_succ,Array.replicate_zero,List.push_toArray,List.append_toArray,List.nil_append,List.cons_append]
 have hb:=busyN (n - 1) hp h
 gi_wp2
 refine ⟨trivial,fun h=>by simp [Fence.wide] at h,hb.mono ?_⟩
 rintro e w' ⟨rfl,hw'⟩
 replace hw':=hw'.symm
 subst hw'
 gi_wp2
 exact bodyPost_ret (results_tmp rfl _ _ _) rfl ⟨rfl,rfl⟩
theorem points_in (n:Nat) (h:Ev.Hold ctx (raceA b c x::r) w) :
  CallsIn Fence.wide n Tryz.prog 28 #[.pointer (some ⟨b.br,0,none⟩)] w fun e w'=>e=.returned (.int .i64 x.pts)∧w'=w:=by
 refine callsIn_of_wp Tryz.func28 rfl trivial ?_ rfl
 simp only [Tryz.ntmps28,List.size_toArray,List.length_cons,List.length_nil,Nat.reduceAdd,Nat.reduceSub,Array.replicate_succ,Array.replicate_zero,List.push_toArray,List.append_toArray,List.nil_append,List.cons_append]
 obtain ⟨es,h1⟩:=a_open h
 have e8:w.cell? ⟨b.br,8,none⟩=some (.int .i64 x.pts):=cell_of (race_at h1) 8 _ rfl
 gi_wp2
 exact bodyPost_ret (results_tmp rfl _ _ _) rfl ⟨rfl,rfl⟩
theorem stepN (n:Nat) (hp:¬ (0≤p∧p < (c.n:Int))) (h:Ev.Hold ctx (raceA b c x::r) w) :
  CallsIn Fence.wide n Tryz.prog 13 #[.pointer (some ⟨b.br,0,none⟩),.int .i64 p] w fun e w'=>e=.returned (.tuple #[.agg #[.int .i64 0,.int .i64 0,.slice none 0 0],.bool false])∧Ev.Hold ctx (raceA b c x::r) w':=by
 refine callsIn_of_wp Tryz.func13 rfl trivial ?_ rfl
 simp only [Tryz.ntmps13,List.size_toArray,List.length_cons,List.length_nil,Nat.reduceAdd,Nat.reduceSub,Array.replicate_succ,Array.replicate_zero,List.push_toArray,List.append_toArray,List.nil_append,List.cons_append]
 obtain ⟨W1,hW1⟩ : ∃ W1,w.alloc (.cells #[.int .i64 0,.int .i64 0,.slice none 0 0] 37)=W1:=⟨_,rfl⟩
 have h1:Ev.Hold ctx (Ev.blkA w.heap.size [.int .i64 0,.int .i64 0,.slice none 0 0] 37 :: raceA b c x::r) W1:=by rw [← hW1]; exact hold_new _ _ h
 have hb:=busyN (n - 1) hp (hold_swap h1)
 have bt:=hold_blk h1
 have t0:W1.cell? ⟨w.heap.size,0,none⟩=some (.int .i64 0):=cell_of bt 0 _ rfl
 have t1:W1.cell? ⟨w.heap.size,1,none⟩=some (.int .i64 0):=cell_of bt 1 _ rfl
 have t2:W1.cell? ⟨w.heap.size,2,none⟩=some (.slice none 0 0):=cell_of bt 2 _ rfl
 have f0:W1.frozen? ⟨w.heap.size,0,none⟩=false:=froz_of bt 0
 have f1:W1.frozen? ⟨w.heap.size,1,none⟩=false:=froz_of bt 1
 have f2:W1.frozen? ⟨w.heap.size,2,none⟩=false:=froz_of bt 2
 have h9:=hold_set 2 (.slice none 0 0) (hold_set 1 (.int .i64 0) (hold_set 0 (.int .i64 0) h1))
 gi_wp2
 refine ⟨trivial,fun h=>by simp [Fence.wide] at h,hb.mono ?_⟩
 rintro e w' ⟨rfl,hw'⟩
 replace hw':=hw'.symm
 subst hw'
 gi_wp2
 exact post_cellT rfl rfl rfl (loadOut _ _ _ _ _ (hold_blk h9)) ⟨rfl,hold_drop (r:=[_]) h9⟩
theorem beginN (n:Nat) (hp:¬ (0≤p∧p < (c.n:Int))) (kd cv cg:Int) (h:Ev.Hold ctx (raceA b c x::r) w) :
  CallsIn Fence.wide n Tryz.prog 11 #[.pointer (some ⟨b.br,0,none⟩),.int .i64 p,.agg #[.int .i64 kd,.int .i64 cv,.int .i64 cg]] w fun e w'=>e=.returned (.int .i64 2)∧Ev.Hold ctx (raceA b c x::r) w':=by
 refine callsIn_of_wp Tryz.func11 rfl trivial ?_ rfl
 simp only [Tryz.ntmps11,List.size_toArray,List.length_cons,List.length_nil,Nat.reduceAdd,Nat.reduceSub,Array.replicate_succ,Array.replicate_zero,List.push_toArray,List.append_toArray,List.nil_append,List.cons_append]
 obtain ⟨W1,hW1⟩ : ∃ W1,w.alloc (.cells #[.int .i64 kd,.int .i64 cv,.int .i64 cg] 26)=W1:=⟨_,rfl⟩
 have h1:Ev.Hold ctx (Ev.blkA w.heap.size [.int .i64 kd,.int .i64 cv,.int .i64 cg] 26 :: raceA b c x::r) W1:=by rw [← hW1]; exact hold_new _ _ h
 have hb:=thereN (n - 1) hp (hold_swap h1)
 gi_wp2
 refine ⟨trivial,fun h=>by simp [Fence.wide] at h,hb.mono ?_⟩
 rintro e w' ⟨rfl,hw'⟩
 replace hw':=hw'.symm
 subst hw'
 gi_wp2
 exact bodyPost_ret (results_tmp rfl _ _ _) rfl ⟨rfl,hold_drop (r:=[_]) h1⟩
theorem newNo (n:Nat) {d:Cf} (hd:d.ok=false) (h:Ev.Hold ctx r w) :
  CallsIn Fence.wide n Tryz.prog 10 #[d.v] w fun e w'=>e=.returned (.tuple #[.pointer none,.int .i64 2])∧Ev.Hold ctx r w':=by
 refine callsIn_of_wp Tryz.func10 rfl trivial ?_ rfl
 simp only [Tryz.ntmps10,List.size_toArray,List.length_cons,List.length_nil,Nat.reduceAdd,Nat.reduceSub,Array.replicate_succ,Array.replicate_zero,List.push_toArray,List.append_toArray,List.nil_append,List.cons_append]
 obtain ⟨W1,hW1⟩ : ∃ W1,w.alloc (.cells #[.int .i64 d.n,.int .i64 d.q,.int .i64 d.g,.int .i64 d.m,.int .i64 d.t,.int .i64 d.s] 23)=W1:=⟨_,rfl⟩
 have h1:Ev.Hold ctx (Ev.blkA w.heap.size [.int .i64 d.n,.int .i64 d.q,.int .i64 d.g,.int .i64 d.m,.int .i64 d.t,.int .i64 d.s] 23 :: r) W1:=by rw [← hW1]; exact hold_new _ _ h
 have bt:=hold_blk h1
 have t0:W1.cell? ⟨w.heap.size,0,none⟩=some (.int .i64 d.n):=cell_of bt 0 _ rfl
 have t1:W1.cell? ⟨w.heap.size,1,none⟩=some (.int .i64 d.q):=cell_of bt 1 _ rfl
 have t2:W1.cell? ⟨w.heap.size,2,none⟩=some (.int .i64 d.g):=cell_of bt 2 _ rfl
 have t3:W1.cell? ⟨w.heap.size,3,none⟩=some (.int .i64 d.m):=cell_of bt 3 _ rfl
 have t4:W1.cell? ⟨w.heap.size,4,none⟩=some (.int .i64 d.t):=cell_of bt 4 _ rfl
 have t5:W1.cell? ⟨w.heap.size,5,none⟩=some (.int .i64 d.s):=cell_of bt 5 _ rfl
 have hb:CallsIn Fence.wide (n - 1) Tryz.prog 21 #[.agg #[.int .i64 d.n,.int .i64 d.q,.int .i64 d.g,.int .i64 d.m,.int .i64 d.t,.int .i64 d.s]] W1 (fun e w'=>e=.returned (.bool false)∧Below W1.heap.size W1 w'):=callsIn_wide.2 (Cf.wrong hd W1)
 gi_wp2
 refine ⟨trivial,fun h=>by simp [Fence.wide] at h,hb.mono ?_⟩
 rintro e w' ⟨rfl,hw'⟩
 gi_wp2
 exact bodyPost_ret (results_two rfl _) rfl ⟨rfl,hold_drop (r:=[_]) (hold_keep h1 hw')⟩
end
end Go.Proofs.YtkmccgombmogmaaGreat
namespace Go.Proofs.YtkmccgombmogmaaGreat
open Go.RowKit
open Go.Ev (iz uz iN)
set_option linter.unusedVariables false
set_option linter.unusedSimpArgs false
set_option maxRecDepth 8000
section
variable {ctx:Ev.Ctx} {w:World} {r:List Ev.Asr}
theorem isA_over {a:Option Addr} {n k i:Nat} {ys:List Int} (h:Ev.Hold ctx (isA (.slice a n k) ys::r) w) (hn:ys.length=n) (hi:i < n) :
  ∃ b off,a=some ⟨b,off,none⟩∧(∃ y:Int,w.cell? ⟨b,off+i,none⟩=some (.int .i64 y))∧w.frozen? ⟨b,off+i,none⟩=false∧∃ zs:List Int,zs.length=n∧Ev.Hold ctx (isA (.slice a n k) zs::r) (w.setCell ⟨b,off+i,none⟩ (.int .i64 (-77))):=by
 subst hn
 obtain ⟨b,off,rfl,hc⟩:=slr_cell (hold_slr h) hi
 refine ⟨b,off,rfl,⟨_,hc⟩,?_,ys.set i (-77),by simp,?_⟩
 ·obtain ⟨f,hf⟩:=h.first
  obtain ⟨_,⟨h0,_⟩ | ⟨b',off',c',arr,e,_,hb,_⟩⟩:=hf
  ·omega
  ·cases e
   exact froz_of hb _
 ·have h2:=hold_setS (i:=i) (.int .i64 (-77)) (by omega) h
  have e1:(ints ys).set i (.int .i64 (-77))=ints (ys.set i (-77)):=by unfold ints; rw [List.map_set]
  rw [e1] at h2
  have e2:isA (.slice (some ⟨b,off,none⟩) ys.length k) (ys.set i (-77))=Ev.slA 3 1 (.slice (some ⟨b,off,none⟩) ys.length k) ys.length (ints (ys.set i (-77))):=by unfold isA; rw [List.length_set]
  rw [e2]
  exact h2
set_option maxHeartbeats 2000000 in
theorem same_in (m:Nat) {a:Option Addr} {N k:Nat} {v:Value} {xs:List Int} (hN:xs.length=N) (hx:N≤1000000) (kd got:Int) (h:Ev.Hold ctx (isA (.slice a N k) xs::isA v xs::r) w) :
  CallsIn Fence.wide m Tryz.prog 26 #[.agg #[.int .i64 kd,.int .i64 got,.slice a N k],.agg #[.int .i64 kd,.int .i64 got,v]] w fun e w'=>e=.returned (.bool true)∧Ev.Hold ctx (isA v xs::r) w':=by
 refine callsIn_of_wp Tryz.func26 rfl trivial ?_ rfl
 simp only [Tryz.ntmps26,List.size_toArray,List.length_cons,List.length_nil,Nat.reduceAdd,Nat.reduceSub,Array.replicate_succ,Array.replicate_zero,List.push_toArray,List.append_toArray,List.nil_append,List.cons_append]
 obtain ⟨a2,k2,rfl⟩ : ∃ a k,v=.slice a N k:=by rw [← hN]; exact slr_val (hold_slr (hold_drop (r:=[_]) h))
 obtain ⟨b1,hb1⟩ : ∃ b1,w.heap.size=b1:=⟨_,rfl⟩
 have g1:=hold_new [.int .i64 kd,.int .i64 got,.slice a N k] 37 h
 obtain ⟨W1,hW1⟩ : ∃ W1,w.alloc (.cells #[.int .i64 kd,.int .i64 got,.slice a N k] 37)=W1:=⟨_,rfl⟩
 rw [hb1,show w.alloc (.cells ([.int .i64 kd,.int .i64 got,.slice a N k] : List Value).toArray 37)=W1 from hW1] at g1
 obtain ⟨b2,hb2⟩ : ∃ b2,W1.heap.size=b2:=⟨_,rfl⟩
 have g2:=hold_new [.int .i64 kd,.int .i64 got,.slice a2 N k2] 62 g1
 obtain ⟨W2,hW2⟩ : ∃ W2,W1.alloc (.cells #[.int .i64 kd,.int .i64 got,.slice a2 N k2] 62)=W2:=⟨_,rfl⟩
 rw [hb2,show W1.alloc (.cells ([.int .i64 kd,.int .i64 got,.slice a2 N k2] : List Value).toArray 62)=W2 from hW2] at g2
 have x0:W2.cell? ⟨b1,0,none⟩=some (.int .i64 kd):=cell_of (hold_blk (hold_up [_] g2)) 0 _ rfl
 have x1:W2.cell? ⟨b1,1,none⟩=some (.int .i64 got):=cell_of (hold_blk (hold_up [_] g2)) 1 _ rfl
 have x2:W2.cell? ⟨b1,2,none⟩=some (.slice a N k):=cell_of (hold_blk (hold_up [_] g2)) 2 _ rfl
 have y0:W2.cell? ⟨b2,0,none⟩=some (.int .i64 kd):=cell_of (hold_blk g2) 0 _ rfl
 have y1:W2.cell? ⟨b2,1,none⟩=some (.int .i64 got):=cell_of (hold_blk g2) 1 _ rfl
 have y2:W2.cell? ⟨b2,2,none⟩=some (.slice a2 N k2):=cell_of (hold_blk g2) 2 _ rfl
 have hs:=asame (xs:=xs) (m - 1) (by omega) (hold_up [_,_,_] (hold_up [_,_,_] g2))
 gi_wp2
 refine ⟨trivial,fun h=>by simp [Fence.wide] at h,hs.mono ?_⟩
 rintro e w4 ⟨rfl,g4⟩
 have g5:Ev.Hold ctx (isA (.slice a N k) xs::Ev.blkA b1 [.int .i64 kd,.int .i64 got,.slice a N k] 37 :: isA (.slice a2 N k2) xs::Ev.blkA b2 [.int .i64 kd,.int .i64 got,.slice a2 N k2] 62 :: r) w4:=hold_swap (hold_up [_,_,_] g4)
 clear hs x0 x1 x2 y0 y1 y2 g1 g2 hW1 hW2 hb1 hb2 g4
 gi_wp2
 gi_loopw [6] (fun q wr=>∃ (i:Nat) (ys:List Int),q=.int .i64 (i:Int)∧i≤N∧ys.length=N∧Ev.Hold ctx (isA (.slice a N k) ys::Ev.blkA b1 [.int .i64 kd,.int .i64 got,.slice a N k] 37 :: isA (.slice a2 N k2) xs::Ev.blkA b2 [.int .i64 kd,.int .i64 got,.slice a2 N k2] 62 :: r) wr) (fun q _=>N - (intOf q).toNat)
 case atStart=>exact ⟨0,xs,rfl,Nat.zero_le _,hN,g5⟩
 case round =>
  obtain ⟨i,ys,rfl,hi,hl,hH⟩:=hrel
  have x2:wr.cell? ⟨b1,2,none⟩=some (.slice a N k):=cell_of (hold_blk (hold_up [_] hH)) 2 _ rfl
  by_cases hlt:i < N
  ·have hI:(i:Int) < (N:Int):=by omega
   obtain ⟨b,off,rfl,⟨y,hc⟩,hf,zs,hz,g7⟩:=isA_over hH hl hlt
   gi_wp2
   exact ⟨⟨i+1,zs,rfl,by omega,hz,g7⟩,by simp [intOf]; omega⟩
  ·obtain rfl:i=N:=by omega
   have hI:¬ ((i:Nat) : Int) < (i:Int):=by omega
   have g8:=hold_drop (r:=[_,_]) hH
   gi_wp2
   exact bodyPost_ret (results_tmp rfl _ _ _) rfl ⟨rfl,hold_drop (r:=[_]) (hold_swap g8)⟩
end
end Go.Proofs.YtkmccgombmogmaaGreat
namespace Go.Proofs.YtkmccgombmogmaaGreat
open Go.RowKit
open Go.Ev (iz uz iN)
set_option linter.unusedVariables false
set_option linter.unusedSimpArgs false
set_option maxRecDepth 8000
section
variable {ctx:Ev.Ctx} {w:World} {r:List Ev.Asr} {b:RB} {c:Cfg} {x:RaceS} {rs:Nat→OwR} {o:OwnS} {lv rv:Value} {B:Int}
theorem OwR.at53 {p:Nat} {M:Option MacS} {R:OwR} (h:R.Ok c p M) : (R.cs c)[53]? = some R.dv:=by
 have e:R.cs c=([iz R.kd,iz R.cv,iz R.cg]++(R.P++(R.G++(R.S++[iN c.q]))))++[R.dv]:=by simp [OwR.cs]
 rw [e,List.getElem?_append_right (by simp [h.P,h.G,h.S])]
 simp [h.P,h.G,h.S]
def q3 (A:Nat→Option Addr) (K:Nat→Nat) (U:Nat→Value) (L Y:Nat→List Int) (j:Nat) : List Ev.Asr:=[isA (.slice (A j) (L j).length (K j)) (Y j),isA (U j) (L j)]
def q3L (A:Nat→Option Addr) (K:Nat→Nat) (U:Nat→Value) (L Y:Nat→List Int) : List Ev.Asr:=(List.range 3).flatMap (q3 A K U L Y)
def f3 {α:Type} (a b c:α) : Nat→α:=fun j=>match j with | 0=>a | 1=>b | _=>c
theorem q3_same {A:Nat→Option Addr} {K:Nat→Nat} {U:Nat→Value} {L Y Y':Nat→List Int} {i:Nat} (h:∀ j,j ≠ i→Y' j=Y j) : ((List.range 3).erase i).flatMap (q3 A K U L Y')=((List.range 3).erase i).flatMap (q3 A K U L Y):=by
 rw [List.flatMap_def,List.flatMap_def]
 congr 1
 apply List.map_congr_left
 intro q hq
 unfold q3
 rw [h q ((List.Nodup.mem_erase_iff List.nodup_range).1 hq).1]
theorem q3_out {A:Nat→Option Addr} {K:Nat→Nat} {U:Nat→Value} {L Y:Nat→List Int} {i:Nat} (hi:i < 3) (h:Ev.Hold ctx ((List.range 3).flatMap (q3 A K U L Y)++r) w) : Ev.Hold ctx (isA (.slice (A i) (L i).length (K i)) (Y i)::isA (U i) (L i)::(((List.range 3).erase i).flatMap (q3 A K U L Y)++r)) w:=by
 have:=(fam_split (q3 A K U L Y) hi).append_right r
 rw [List.append_assoc] at this
 exact hold_perm this h
theorem q3_in {A:Nat→Option Addr} {K:Nat→Nat} {U:Nat→Value} {L Y:Nat→List Int} {i:Nat} (hi:i < 3) {zs:List Int} (h:Ev.Hold ctx (isA (.slice (A i) (L i).length (K i)) zs::isA (U i) (L i)::(((List.range 3).erase i).flatMap (q3 A K U L Y)++r)) w) : Ev.Hold ctx ((List.range 3).flatMap (q3 A K U L (fun j=>if j=i then zs else Y j))++r) w:=by
 have:=(fam_split (q3 A K U L (fun j=>if j=i then zs else Y j)) hi).append_right r
 rw [List.append_assoc,q3_same (Y:=Y) (fun j hj=>if_neg hj)] at this
 refine hold_perm this.symm ?_
 show Ev.Hold ctx ([isA (.slice (A i) (L i).length (K i)) (if i=i then zs else Y i),isA (U i) (L i)]++_) w
 rw [if_pos rfl]
 exact h
theorem q3_out2 {A:Nat→Option Addr} {K:Nat→Nat} {U:Nat→Value} {L Y:Nat→List Int} {i:Nat} {y z:Ev.Asr} (hi:i < 3) (h:Ev.Hold ctx (q3L A K U L Y++(y::z::r)) w) : Ev.Hold ctx (isA (.slice (A i) (L i).length (K i)) (Y i)::isA (U i) (L i)::y::z::(((List.range 3).erase i).flatMap (q3 A K U L Y)++r)) w :=
 hold_perm ((List.perm_append_comm_assoc _ [y,z] r).append_left [_,_]) (q3_out hi h)
theorem q3_in2 {A:Nat→Option Addr} {K:Nat→Nat} {U:Nat→Value} {L Y:Nat→List Int} {i:Nat} {y z:Ev.Asr} (hi:i < 3) {zs:List Int} (h:Ev.Hold ctx (isA (.slice (A i) (L i).length (K i)) zs::isA (U i) (L i)::y::z::(((List.range 3).erase i).flatMap (q3 A K U L Y)++r)) w) : Ev.Hold ctx (q3L A K U L (fun j=>if j=i then zs else Y j)++(y::z::r)) w :=
 q3_in hi (hold_perm ((List.perm_append_comm_assoc [y,z] _ r).append_left [_,_]) h)
theorem hands_small {p:Nat} {m:MemM} (h:OwnI c B m p o) : (handsO o).length≤1000000:=by
 unfold handsO
 cases hM:o.mac with
 | none=>simp
 | some M =>
  obtain ⟨_,h2,_⟩:=h.mac M hM
  cases M with
  | put u =>
   show u.hs.length≤_
   rw [PutI.hs h2]
   simp
  | get u =>
   show (if u.has then [u.sn] else []).length≤_
   split <;> simp
  | steal v u =>
   have:=(hands_le h2.2.2.ok).1
   show u.hands.length≤_
   omega
set_option maxHeartbeats 4000000 in
theorem is_in (m:Nat) (p:Int) (hI:RaceI c B x) (hq:c.q≤8) (hR:RefOk c x rs) (h:Ev.Hold ctx (raceA b c x::(refL c x rs lv rv++r)) w) :
  CallsIn Fence.wide m Tryz.prog 27 #[.pointer (some ⟨b.br,0,none⟩),.agg (rV c rv x.m.ops lv x.pts).toArray,.int .i64 p] w fun e w'=>e=.returned (.bool true)∧Ev.Hold ctx (raceA b c x::(refL c x rs lv rv++r)) w':=by
 refine callsIn_of_wp Tryz.func27 rfl trivial ?_ rfl
 simp only [Tryz.ntmps27,List.size_toArray,List.length_cons,List.length_nil,Nat.reduceAdd,Nat.reduceSub,Array.replicate_succ,Array.replicate_zero,List.push_toArray,List.append_toArray,List.nil_append,List.cons_append]
 have hnb:=c.nb
 have hl:=hI.len
 obtain ⟨⟨ra,rk,hrv⟩,la,lk,hlv⟩:=ref_shape (hold_drop (r:=[_]) h)
 subst hrv
 subst hlv
 obtain ⟨RV,hRV⟩ : ∃ RV,rV c (.slice ra x.m.cells.length rk) x.m.ops (.slice la c.n lk) x.pts=RV:=⟨_,rfl⟩
 have hRV2:Unit→rV c (.slice ra x.m.cells.length rk) x.m.ops (.slice la c.n lk) x.pts=RV:=fun _=>hRV
 rw [hRV]
 obtain ⟨b4,hb4⟩ : ∃ b4,w.heap.size=b4:=⟨_,rfl⟩
 have g1:=hold_new RV 56 h
 rw [hb4] at g1
 obtain ⟨W1,hW1⟩ : ∃ W1,w.alloc (.cells RV.toArray 56)=W1:=⟨_,rfl⟩
 rw [hW1] at g1
 have hcs:∀ (r':List Ev.Asr) (w':World),Ev.Hold ctx (Ev.blkA b4 RV 56 :: r') w'→w'.cell? ⟨b4,0,none⟩=some (.int .i64 (c.n:Int))∧w'.cell? ⟨b4,1,none⟩=some (.int .i64 (c.q:Int))∧w'.cell? ⟨b4,2,none⟩=some (.int .i64 c.g)∧w'.cell? ⟨b4,3,none⟩=some (.int .i64 c.m)∧w'.cell? ⟨b4,4,none⟩=some (.int .i64 c.t)∧w'.cell? ⟨b4,5,none⟩=some (.int .i64 c.s)∧w'.cell? ⟨b4,6,none⟩=some (.slice ra x.m.cells.length rk)∧w'.cell? ⟨b4,7,none⟩=some (.int .u64 x.m.ops)∧w'.cell? ⟨b4,8,none⟩=some (.slice la c.n lk)∧w'.cell? ⟨b4,9,none⟩=some (.int .i64 x.pts):=by
  intro r' w' hh
  have hb:=hold_blk hh
  rw [← hRV2 ()] at hb
  exact ⟨cell_of hb 0 _ rfl,cell_of hb 1 _ rfl,cell_of hb 2 _ rfl,cell_of hb 3 _ rfl,cell_of hb 4 _ rfl,cell_of hb 5 _ rfl,cell_of hb 6 _ rfl,cell_of hb 7 _ rfl,cell_of hb 8 _ rfl,cell_of hb 9 _ rfl⟩
 clear hRV
 by_cases hp:0≤p∧p < (c.n:Int)
 case' pos =>
  obtain ⟨p,rfl⟩ : ∃ k:Nat,p=(k:Int):=⟨p.toNat,by omega⟩
  have hpn:p < c.n:=by omega
  have hpx:p < x.ow.length:=by omega
  obtain ⟨o,ho⟩ : ∃ o,x.ow[p]? = some o:=⟨_,List.getElem?_eq_getElem hpx⟩
  have hO:=hI.ow p o ho
  have hOk:=hR p o ho
  have hM:∀ M,o.mac=some M→MacOk c p M:=fun M hM=>macI_ok (hO.mac M hM).2.1
  have hd:=hO.dq.ok
  obtain ⟨L0,hL0⟩ : ∃ L,ringL c x.m p=L:=⟨_,rfl⟩
  obtain ⟨L1,hL1⟩ : ∃ L,handsO o=L:=⟨_,rfl⟩
  obtain ⟨L2,hL2⟩ : ∃ L,dqAll c o.dq=L:=⟨_,rfl⟩
  have f1:=aring (m - 1) hpn hI.R.mem (hold_swap g1)
  rw [hL0] at f1
  gi_wp2
  refine ⟨trivial,fun h=>by simp [Fence.wide] at h,f1.mono ?_⟩
  clear f1
  rintro e w2 ⟨a0,k0,rfl,g2⟩
  have f1:=ahands (m - 1) hpn ho hI.R.mem hM (hold_swap g2)
  rw [hL1] at f1
  gi_wp2
  refine ⟨trivial,fun h=>by simp [Fence.wide] at h,f1.mono ?_⟩
  clear f1
  rintro e w3 ⟨a1,k1,rfl,g3⟩
  have f1:=adeque (m - 1) hq hpn ho hd (hold_swap g3)
  rw [hL2] at f1
  gi_wp2
  refine ⟨trivial,fun h=>by simp [Fence.wide] at h,f1.mono ?_⟩
  clear f1
  rintro e w4 ⟨a2,k2,rfl,g4⟩
  obtain ⟨bl,hbl⟩ : ∃ bl,w4.heap.size=bl:=⟨_,rfl⟩
  have g5:=hold_new [.slice a0 L0.length k0,.slice a1 L1.length k1,.slice a2 L2.length k2] 35 g4
  rw [hbl] at g5
  obtain ⟨W5,hW5⟩ : ∃ W5,w4.alloc (.cells #[.slice a0 L0.length k0,.slice a1 L1.length k1,.slice a2 L2.length k2] 35)=W5:=⟨_,rfl⟩
  rw [show w4.alloc (.cells ([.slice a0 L0.length k0,.slice a1 L1.length k1,.slice a2 L2.length k2] : List Value).toArray 35)=W5 from hW5] at g5
  have gB:=hold_keep (hold_up [_,_,_,_,_] g5) ((Below.refl _ W5).drew)
  have gD:=hold_perm (List.perm_append_comm_assoc [_,_,_,_,_,_] (refL c x rs (.slice la c.n lk) (.slice ra x.m.cells.length rk)) r) gB
  clear g1 g2 g3 g4 g5 h
  gi_wp2
  refine wpIn_wide.2 ?_
  go_region_held3 (fun w'=>w'.cell? ⟨b4,0,none⟩=some (.int .i64 (c.n:Int))∧w'.cell? ⟨b4,1,none⟩=some (.int .i64 (c.q:Int))∧w'.cell? ⟨b4,2,none⟩=some (.int .i64 c.g)∧w'.cell? ⟨b4,3,none⟩=some (.int .i64 c.m)∧w'.cell? ⟨b4,4,none⟩=some (.int .i64 c.t)∧w'.cell? ⟨b4,5,none⟩=some (.int .i64 c.s)∧w'.cell? ⟨b4,6,none⟩=some (.slice ra x.m.cells.length rk)∧w'.cell? ⟨b4,7,none⟩=some (.int .u64 x.m.ops)∧w'.cell? ⟨b4,8,none⟩=some (.slice la c.n lk)∧w'.cell? ⟨b4,9,none⟩=some (.int .i64 x.pts)) ((first | exact hcs _ _ gB | exact hcs _ _ gE | exact hcs _ _ gF | exact hcs _ _ (hold_keep gF ((Below.refl _ _).alloc (Nat.le_refl _) _)) | fail)) ((first
   | (go_at_call 59; have hcon:=callsIn_wide.1 (ring12 (la:=la) (lk:=lk) (pts:=x.pts) 0 hpn hI.R.mem (hI.R.w p hpn).sz (hold_swap gD)); unfold rV at hcon; rw [hL0] at hcon; (with_reducible refine hcon.mono ?_); clear hcon; rintro e w6 ⟨u0,rfl,g6⟩; obtain ⟨s0,t0,rfl⟩:=slr_val (hold_slr g6); have gE:=hold_up (_::_::_::_) g6)
   | (go_at_call 60; have hcon:=callsIn_wide.1 (hands12 0 hl ho hR (fun u hu=>(hO.mac _ hu).2.1.ok.has (hO.mac _ hu).1) (fun v u hu=>(hO.mac _ hu).2.1.2.2.ok) (hold_dn (refL c x rs (.slice la c.n lk) (.slice ra x.m.cells.length rk)) (hold_perm ((List.Perm.swap _ _ _).cons _) g6))); unfold rV at hcon; rw [hL1,hL2] at hcon; (with_reducible refine hcon.mono ?_); clear hcon; rintro e w7 ⟨u1,L',rfl,g7,hbk⟩; obtain ⟨s1,t1,rfl⟩:=slr_val (hold_slr g7); have gF:=hold_up [_,_,_,_] (hold_perm ((List.perm_append_comm_assoc L' [_,_,_,_,_,_,_] r).append_left [_,_,_]) g7))))
  obtain ⟨bw,hbw⟩ : ∃ bw,w7.heap.size=bw:=⟨_,rfl⟩
  have g8:=hold_new [.slice s0 L0.length t0,.slice s1 L1.length t1,.slice none 0 0] 35 gF
  rw [hbw] at g8
  obtain ⟨W8,hW8⟩ : ∃ W8,w7.alloc (.cells #[.slice s0 L0.length t0,.slice s1 L1.length t1,.slice none 0 0] 35)=W8:=⟨_,rfl⟩
  rw [show w7.alloc (.cells ([.slice s0 L0.length t0,.slice s1 L1.length t1,.slice none 0 0] : List Value).toArray 35)=W8 from hW8] at g8
  obtain ⟨pre,post,e1,e2,hpre⟩:=ows_split hpn (hR.len hl)
  have fl:∀ (r':List Ev.Asr) (w':World),Ev.Hold ctx (lA c (.slice la c.n lk) rs::r') w'→∃ ba off,la=some ⟨ba,off,none⟩∧w'.cell? ⟨ba,off+p * 54,none⟩=some (.int .i64 (rs p).kd)∧w'.cell? ⟨ba,off+p * 54+53,none⟩=some (rs p).dv:=by
   intro r' w' hh
   obtain ⟨ba,off,k',hv,hc,_⟩:=sl_some hh (by omega) (by decide)
   refine ⟨ba,off,by cases hv; rfl,?_,?_⟩
   ·have h1:=at_mid (pre:=pre) (post:=post) (OwR.at0 c (rs p))
    rw [hpre,Nat.add_zero] at h1
    rw [hc _ (by omega),e2,h1]
   ·have h1:=at_mid (pre:=pre) (post:=post) (OwR.at53 hOk)
    rw [hpre] at h1
    rw [Nat.add_assoc,hc _ (by omega),e2,h1]
  obtain ⟨s2,t2,hdv⟩:=slr_val (hold_slr (hold_up [_,_,_,_] g8))
  obtain ⟨ba,off,rfl,_,cd⟩:=fl _ _ (hold_up [_,_,_] g8)
  rw [hdv] at cd
  obtain ⟨kd,hkd⟩ : ∃ kd,(rs p).kd=kd:=⟨_,rfl⟩
  have c8:=(hcs _ _ (hold_up [_] g8)).2.2.2.2.2.2.2.2.1
  have x2:W8.cell? ⟨bw,2,none⟩=some (.slice none 0 0):=cell_of (hold_blk g8) 2 _ rfl
  have y2:W8.frozen? ⟨bw,2,none⟩=false:=froz_of (hold_blk g8) 2
  have hp0:(p:Int) ≥ 0:=by omega
  have g9:=hold_set 2 (.slice s2 L2.length t2) g8
  obtain ⟨W9,hW9⟩ : ∃ W9,W8.setCell ⟨bw,2,none⟩ (.slice s2 L2.length t2)=W9:=⟨_,rfl⟩
  rw [hW9] at g9
  obtain ⟨_,_,hE,ck,_⟩:=fl _ _ (hold_up [_,_,_] g9)
  cases hE
  rw [hkd] at ck
  have c8':=(hcs _ _ (hold_up [_] g9)).2.2.2.2.2.2.2.2.1
  have hkz:decide (kd > 0)=o.mac.isSome:=by
   have:=hOk.mac
   rw [hkd.symm]
   cases hM:o.mac with
   | none=>rw [hM] at this; rw [show (rs p).kd=0 from this]; rfl
   | some M =>
    rw [hM] at this
    cases M with
    | put u=>rw [this.1]; rfl
    | get u=>rw [this.1]; rfl
    | steal v u=>rw [this.1]; rfl
  rw [hdv] at g9
  gi_upto_region 7 with fail
  simp only [hbw]
  obtain ⟨pts,hpts⟩ : ∃ pts,x.pts=pts:=⟨_,rfl⟩
  have cP:∀ (r':List Ev.Asr) (w':World),Ev.Hold ctx (Ev.blkA b4 RV 56 :: r') w'→w'.cell? ⟨b4,9,none⟩=some (.int .i64 pts):=fun r' w' hh=>by rw [← hpts]; exact (hcs r' w' hh).2.2.2.2.2.2.2.2.2
  have hBu:∀ (n:Nat) (R:List Ev.Asr) (w:World),Ev.Hold ctx (raceA b c x::R) w→CallsIn Fence.wide n Tryz.prog 12 #[.pointer (some ⟨b.br,0,none⟩),.int .i64 (p:Int)] w fun e w'=>e=.returned (.bool o.mac.isSome)∧w'=w:=fun n R w hh=>abusy n hpn ho hh
  obtain ⟨bz,hbz⟩ : ∃ bz,o.mac.isSome=bz:=⟨_,rfl⟩
  rw [hbz] at hBu ⊢
  obtain ⟨S,hS⟩ : ∃ S,lA c (.slice (some ⟨ba,off,none⟩) c.n lk) rs::(L'++r)=S:=⟨_,rfl⟩
  obtain ⟨A,hA⟩ : ∃ A:Nat→Option Addr,A=f3 a0 a1 a2:=⟨_,rfl⟩
  obtain ⟨K,hK⟩ : ∃ K:Nat→Nat,K=f3 k0 k1 k2:=⟨_,rfl⟩
  obtain ⟨A',hA'⟩ : ∃ A':Nat→Option Addr,A'=f3 s0 s1 s2:=⟨_,rfl⟩
  obtain ⟨K',hK'⟩ : ∃ K':Nat→Nat,K'=f3 t0 t1 t2:=⟨_,rfl⟩
  obtain ⟨Ls,hLs⟩ : ∃ Ls:Nat→List Int,Ls=f3 L0 L1 L2:=⟨_,rfl⟩
  have gT:Ev.Hold ctx (q3L A K (fun j=>.slice (A' j) (Ls j).length (K' j)) Ls Ls++(Ev.blkA bl [.slice (A 0) (Ls 0).length (K 0),.slice (A 1) (Ls 1).length (K 1),.slice (A 2) (Ls 2).length (K 2)] 35 :: Ev.blkA bw [.slice (A' 0) (Ls 0).length (K' 0),.slice (A' 1) (Ls 1).length (K' 1),.slice (A' 2) (Ls 2).length (K' 2)] 35 :: Ev.blkA b4 RV 56 :: raceA b c x::S)) W9:=by
   rw [hA,hK,hA',hK',hLs,← hS]
   exact (hold_up [_,_,_,_,_,_,_,_,_,_] (hold_up [_,_,_,_,_,_,_,_,_] (hold_up [_,_,_,_,_,_,_,_,_] (hold_up [_,_,_,_,_,_,_] (hold_up [_,_,_,_,_,_,_,_] (hold_up [_,_,_,_,_,_] (hold_up [_,_,_,_,_,_,_] (hold_up [_,_,_] (hold_up [_,_,_] (hold_up [_,_,_,_,_,_,_,_] (hold_up [_,_,_] g9)))))))))))
  have hBk:∀ (Y:Nat→List Int) (w2:World),Ev.Hold ctx (q3L A K (fun j=>.slice (A' j) (Ls j).length (K' j)) Ls Y++(Ev.blkA bl [.slice (A 0) (Ls 0).length (K 0),.slice (A 1) (Ls 1).length (K 1),.slice (A 2) (Ls 2).length (K 2)] 35 :: Ev.blkA bw [.slice (A' 0) (Ls 0).length (K' 0),.slice (A' 1) (Ls 1).length (K' 1),.slice (A' 2) (Ls 2).length (K' 2)] 35 :: Ev.blkA b4 RV 56 :: raceA b c x::S)) w2→Ev.Hold ctx (raceA b c x::(refL c x rs (.slice (some ⟨ba,off,none⟩) c.n lk) (.slice ra x.m.cells.length rk)++r)) w2:=by
   intro Y w2 h2
   rw [hA,hK,hA',hK',hLs,← hS] at h2
   refine hold_up _ (hbk (raceA b c x::r) w2 (hold_perm ((List.perm_middle (a:=raceA b c x) (l₁:=L') (l₂:=r)).symm.append_left [_,_,_]) ?_))
   rw [hdv]
   exact hold_drop (r:=[_,_,_,_,_,_,_]) (hold_up [_,_,_,_,_,_,_,_,_,_] (hold_up [_,_,_,_,_,_,_,_,_,_] (hold_up [_,_,_,_,_,_,_,_,_,_] (hold_up [_,_,_,_,_,_,_,_,_,_] (hold_up [_,_,_,_,_,_,_,_,_,_] (hold_up [_,_,_,_,_,_,_,_,_,_] (hold_up [_,_,_,_,_,_,_,_,_,_] (hold_up [_,_,_,_,_,_] (hold_up [_,_,_,_,_,_,_,_,_,_] (hold_up [_,_,_,_,_,_] (hold_up [_,_,_,_,_,_,_,_,_] h2)))))))))))
  have hLl:∀ j,j < 3→(Ls j).length≤1000000:=by
   intro j hj
   rw [hLs]
   match j,hj with
   | 0,_ =>
    show L0.length≤_
    rw [← hL0]
    unfold ringL
    rw [List.length_map]
    exact Nat.le_trans places_bd.1 (by decide)
   | 1,_ =>
    show L1.length≤_
    rw [← hL1]
    exact hands_small hO
   | 2,_ =>
    show L2.length≤_
    rw [← hL2]
    have h1:=dqAll_len hd
    rw [hO.dq.w] at h1
    have h2:=(hI.R.w p hpn).sz
    omega
  clear hS hA hK hA' hK' hLs hbz hbk g9 g8 gF g7 g6 gE gD gB cd ck c8 c8' fl hcs hkz hbw hbl hW5 hW8 hW9 hkd hdv x2 y2 hp0 hRV2 hL0 hL1 hL2 hOk hO hM hd ho
 case' neg =>
  have f1:=ringN (m - 1) hp (hold_swap g1)
  gi_wp2
  refine ⟨trivial,fun h=>by simp [Fence.wide] at h,f1.mono ?_⟩
  clear f1
  rintro e w2 ⟨rfl,hw⟩
  replace hw:=hw.symm
  subst hw
  have f1:=handsN (m - 1) hp (hold_swap g1)
  gi_wp2
  refine ⟨trivial,fun h=>by simp [Fence.wide] at h,f1.mono ?_⟩
  clear f1
  rintro e w2 ⟨rfl,hw⟩
  replace hw:=hw.symm
  subst hw
  have f1:=dequeN (m - 1) hp (hold_swap g1)
  gi_wp2
  refine ⟨trivial,fun h=>by simp [Fence.wide] at h,f1.mono ?_⟩
  clear f1
  rintro e w2 ⟨rfl,hw⟩
  replace hw:=hw.symm
  subst hw
  obtain ⟨bl,hbl⟩ : ∃ bl,W1.heap.size=bl:=⟨_,rfl⟩
  have g5:=hold_new [.slice none 0 0,.slice none 0 0,.slice none 0 0] 35 g1
  rw [hbl] at g5
  obtain ⟨W5,hW5⟩ : ∃ W5,W1.alloc (.cells #[.slice none 0 0,.slice none 0 0,.slice none 0 0] 35)=W5:=⟨_,rfl⟩
  rw [show W1.alloc (.cells ([.slice none 0 0,.slice none 0 0,.slice none 0 0] : List Value).toArray 35)=W5 from hW5] at g5
  have gB:=hold_keep (hold_up [_] g5) ((Below.refl _ W5).drew)
  clear g1 g5 h
  gi_wp2
  refine wpIn_wide.2 ?_
  go_region_held3 (fun w'=>w'.cell? ⟨b4,0,none⟩=some (.int .i64 (c.n:Int))∧w'.cell? ⟨b4,1,none⟩=some (.int .i64 (c.q:Int))∧w'.cell? ⟨b4,2,none⟩=some (.int .i64 c.g)∧w'.cell? ⟨b4,3,none⟩=some (.int .i64 c.m)∧w'.cell? ⟨b4,4,none⟩=some (.int .i64 c.t)∧w'.cell? ⟨b4,5,none⟩=some (.int .i64 c.s)∧w'.cell? ⟨b4,6,none⟩=some (.slice ra x.m.cells.length rk)∧w'.cell? ⟨b4,7,none⟩=some (.int .u64 x.m.ops)∧w'.cell? ⟨b4,8,none⟩=some (.slice la c.n lk)∧w'.cell? ⟨b4,9,none⟩=some (.int .i64 x.pts)) ((first | exact hcs _ _ gB | exact hcs _ _ gE | exact hcs _ _ gF | exact hcs _ _ (hold_keep gF ((Below.refl _ _).alloc (Nat.le_refl _) _)) | fail)) ((first
   | (go_at_call 59; have hcon:=callsIn_wide.1 (ringX (c:=c) (la:=la) (lk:=lk) (ra:=ra) (rn:=x.m.cells.length) (rk:=rk) (ops:=x.m.ops) (pts:=x.pts) 0 hp gB); unfold rV at hcon; (with_reducible refine hcon.mono ?_); clear hcon; rintro e w6 ⟨rfl,gE⟩)
   | (go_at_call 60; have hcon:=callsIn_wide.1 (handsX (c:=c) (la:=la) (lk:=lk) (ra:=ra) (rn:=x.m.cells.length) (rk:=rk) (ops:=x.m.ops) (pts:=x.pts) 0 hp gE); unfold rV at hcon; (with_reducible refine hcon.mono ?_); clear hcon; rintro e w7 ⟨rfl,gF⟩)))
  obtain ⟨bw,hbw⟩ : ∃ bw,w7.heap.size=bw:=⟨_,rfl⟩
  have g8:=hold_new [.slice none 0 0,.slice none 0 0,.slice none 0 0] 35 gF
  rw [hbw] at g8
  obtain ⟨W8,hW8⟩ : ∃ W8,w7.alloc (.cells #[.slice none 0 0,.slice none 0 0,.slice none 0 0] 35)=W8:=⟨_,rfl⟩
  rw [show w7.alloc (.cells ([.slice none 0 0,.slice none 0 0,.slice none 0 0] : List Value).toArray 35)=W8 from hW8] at g8
  have c8:=(hcs _ _ (hold_up [_] g8)).2.2.2.2.2.2.2.2.1
  obtain ⟨pts,hpts⟩ : ∃ pts,x.pts=pts:=⟨_,rfl⟩
  have cP:∀ (r':List Ev.Asr) (w':World),Ev.Hold ctx (Ev.blkA b4 RV 56 :: r') w'→w'.cell? ⟨b4,9,none⟩=some (.int .i64 pts):=fun r' w' hh=>by rw [← hpts]; exact (hcs r' w' hh).2.2.2.2.2.2.2.2.2
  have hBu:∀ (n:Nat) (R:List Ev.Asr) (w:World),Ev.Hold ctx (raceA b c x::R) w→CallsIn Fence.wide n Tryz.prog 12 #[.pointer (some ⟨b.br,0,none⟩),.int .i64 p] w fun e w'=>e=.returned (.bool false)∧w'=w:=fun n R w hh=>busyN n hp hh
  obtain ⟨S,hS⟩ : ∃ S,refL c x rs (.slice la c.n lk) (.slice ra x.m.cells.length rk)++r=S:=⟨_,rfl⟩
  obtain ⟨A,hA⟩ : ∃ A:Nat→Option Addr,A=fun _=>none:=⟨_,rfl⟩
  obtain ⟨K,hK⟩ : ∃ K:Nat→Nat,K=fun _=>0:=⟨_,rfl⟩
  obtain ⟨A',hA'⟩ : ∃ A':Nat→Option Addr,A'=fun _=>none:=⟨_,rfl⟩
  obtain ⟨K',hK'⟩ : ∃ K':Nat→Nat,K'=fun _=>0:=⟨_,rfl⟩
  obtain ⟨Ls,hLs⟩ : ∃ Ls:Nat→List Int,Ls=fun _=>[]:=⟨_,rfl⟩
  have gT:Ev.Hold ctx (q3L A K (fun j=>.slice (A' j) (Ls j).length (K' j)) Ls Ls++(Ev.blkA bl [.slice (A 0) (Ls 0).length (K 0),.slice (A 1) (Ls 1).length (K 1),.slice (A 2) (Ls 2).length (K 2)] 35 :: Ev.blkA bw [.slice (A' 0) (Ls 0).length (K' 0),.slice (A' 1) (Ls 1).length (K' 1),.slice (A' 2) (Ls 2).length (K' 2)] 35 :: Ev.blkA b4 RV 56 :: raceA b c x::S)) W8:=by
   rw [hA,hK,hA',hK',hLs,← hS]
   exact (((((((hold_up [_,_,_] (hold_up [_,_] (hold_up [_,_] (hold_up [_,_,_] g8)))).nilSl (e := 3) (sz:=1)).nilSl (e := 3) (sz:=1)).nilSl (e := 3) (sz:=1)).nilSl (e := 3) (sz:=1)).nilSl (e := 3) (sz:=1)).nilSl (e := 3) (sz:=1))
  have hBk:∀ (Y:Nat→List Int) (w2:World),Ev.Hold ctx (q3L A K (fun j=>.slice (A' j) (Ls j).length (K' j)) Ls Y++(Ev.blkA bl [.slice (A 0) (Ls 0).length (K 0),.slice (A 1) (Ls 1).length (K 1),.slice (A 2) (Ls 2).length (K 2)] 35 :: Ev.blkA bw [.slice (A' 0) (Ls 0).length (K' 0),.slice (A' 1) (Ls 1).length (K' 1),.slice (A' 2) (Ls 2).length (K' 2)] 35 :: Ev.blkA b4 RV 56 :: raceA b c x::S)) w2→Ev.Hold ctx (raceA b c x::(refL c x rs (.slice la c.n lk) (.slice ra x.m.cells.length rk)++r)) w2:=by
   intro Y w2 h2
   rw [← hS] at h2
   exact hold_drop (r:=[_,_,_]) (hold_drop h2)
  have hLl:∀ j,j < 3→(Ls j).length≤1000000:=by
   intro j _
   rw [hLs]
   exact Nat.zero_le _
  by_cases h0:p ≥ 0
  all_goals
   have hpn:p ≥ 0→¬ p < (c.n:Int):=fun h1 h2=>hp ⟨h1,h2⟩
   (try replace hpn:=hpn h0)
   gi_upto_region 7 with fail
   try simp only [hbw]
   clear hS hA hK hA' hK' hLs g8 gF gE gB c8 hcs hbw hbl hW5 hW8 hRV2
 all_goals
  gi_wp2
  gi_loopw [10,11] (fun qv q2 wr=>∃ (i:Nat) (Y:Nat→List Int),qv=.int .i64 (i:Int)∧i≤3∧(∀ j,(Y j).length=(Ls j).length)∧Aside (∀ j,i≤j→Y j=Ls j)∧Ev.Hold ctx (q3L A K (fun j=>.slice (A' j) (Ls j).length (K' j)) Ls Y++(Ev.blkA bl [.slice (A 0) (Ls 0).length (K 0),.slice (A 1) (Ls 1).length (K 1),.slice (A 2) (Ls 2).length (K 2)] 35 :: Ev.blkA bw [.slice (A' 0) (Ls 0).length (K' 0),.slice (A' 1) (Ls 1).length (K' 1),.slice (A' 2) (Ls 2).length (K' 2)] 35 :: Ev.blkA b4 RV 56 :: raceA b c x::S)) wr) (fun qv _ _=>3 - (intOf qv).toNat)
  case atStart=>exact ⟨0,Ls,rfl,by omega,fun _=>rfl,(show ∀ j,0≤j→Ls j=Ls j from fun _ _=>rfl),gT⟩
  case round =>
   obtain ⟨i,Y,rfl,hi,hYl,hYe,hH⟩:=hrel
   by_cases hlt:i < 3
   ·have hI3:(i:Int) < 3:=by omega
    have hcB:∀ (r':List Ev.Asr) (w':World),Ev.Hold ctx (Ev.blkA bl [.slice (A 0) (Ls 0).length (K 0),.slice (A 1) (Ls 1).length (K 1),.slice (A 2) (Ls 2).length (K 2)] 35 :: Ev.blkA bw [.slice (A' 0) (Ls 0).length (K' 0),.slice (A' 1) (Ls 1).length (K' 1),.slice (A' 2) (Ls 2).length (K' 2)] 35 :: r') w'→w'.cell? ⟨bl,i,none⟩=some (.slice (A i) (Ls i).length (K i))∧w'.cell? ⟨bw,i,none⟩=some (.slice (A' i) (Ls i).length (K' i)):=fun r' w' hh =>
     match i,hlt with
     | 0,_=>⟨cell_of (hold_blk hh) 0 _ rfl,cell_of (hold_blk (hold_drop (r:=[_]) hh)) 0 _ rfl⟩
     | 1,_=>⟨cell_of (hold_blk hh) 1 _ rfl,cell_of (hold_blk (hold_drop (r:=[_]) hh)) 1 _ rfl⟩
     | 2,_=>⟨cell_of (hold_blk hh) 2 _ rfl,cell_of (hold_blk (hold_drop (r:=[_]) hh)) 2 _ rfl⟩
    have hX:=q3_out2 hlt (hold_keep hH ((Below.refl _ wr).drew))
    rw [hYe.out i (Nat.le_refl _)] at hX
    gi_wp2
    refine wpIn_wide.2 ?_
    go_region_held3 (fun w'=>w'.cell? ⟨bl,i,none⟩=some (.slice (A i) (Ls i).length (K i))∧w'.cell? ⟨bw,i,none⟩=some (.slice (A' i) (Ls i).length (K' i))) ((first | exact hcB _ _ (hold_drop (r:=[_,_]) hX) | exact hcB _ _ (hold_drop (r:=[_,_]) hZ) | fail)) ((first
     | (go_at_call 17; have hcon:=callsIn_wide.1 (asame 0 (hLl i hlt) hX); (with_reducible refine hcon.mono ?_); clear hcon; rintro e w3 ⟨rfl,hZ⟩)))
    gi_wp2
    gi_loopw [11] (fun qv wq=>∃ (k:Nat) (ys:List Int),qv=.int .i64 (k:Int)∧k≤(Ls i).length∧ys.length=(Ls i).length∧Ev.Hold ctx (isA (.slice (A i) (Ls i).length (K i)) ys::isA (.slice (A' i) (Ls i).length (K' i)) (Ls i)::Ev.blkA bl [.slice (A 0) (Ls 0).length (K 0),.slice (A 1) (Ls 1).length (K 1),.slice (A 2) (Ls 2).length (K 2)] 35 :: Ev.blkA bw [.slice (A' 0) (Ls 0).length (K' 0),.slice (A' 1) (Ls 1).length (K' 1),.slice (A' 2) (Ls 2).length (K' 2)] 35 :: (((List.range 3).erase i).flatMap (q3 A K (fun j=>.slice (A' j) (Ls j).length (K' j)) Ls Y)++(Ev.blkA b4 RV 56 :: raceA b c x::S))) wq) (fun qv _=>(Ls i).length - (intOf qv).toNat)
    case atStart=>exact ⟨0,Ls i,rfl,Nat.zero_le _,rfl,hZ⟩
    case round =>
     obtain ⟨k,ys,rfl,hk,hyl,hG⟩:=hrel
     obtain ⟨d0,_⟩:=hcB _ _ (hold_drop (r:=[_,_]) hG)
     have hLi:=hLl i hlt
     by_cases hkl:k < (Ls i).length
     ·have hkI:(k:Int) < ((Ls i).length:Int):=by omega
      obtain ⟨bq,oq,haq,⟨y,hcy⟩,hfy,zs,hzl,g7⟩:=isA_over hG hyl hkl
      rw [haq] at d0
      gi_wp2
      exact ⟨⟨k+1,zs,rfl,by omega,hzl,g7⟩,by simp [intOf]; omega⟩
     ·have hkI:¬ (k:Int) < ((Ls i).length:Int):=by omega
      have g7:=q3_in2 (A:=A) (K:=K) (U:=fun j=>.slice (A' j) (Ls j).length (K' j)) (L:=Ls) (Y:=Y) hlt hG
      gi_wp2
      first | refine ⟨⟨i+1,by omega,by omega,_,fun j=>?_,?_,g7⟩,by simp [intOf]; omega⟩ | refine ⟨⟨i+1,_,rfl,by omega,fun j=>?_,?_,g7⟩,by simp [intOf]; omega⟩
      ·show (if j=i then ys else Y j).length=_
       split
       ·next e=>rw [e,hyl]
       ·exact hYl j
      ·show ∀ j,i+1≤j→(if j=i then ys else Y j)=Ls j
       intro j hj
       rw [if_neg (by omega)]
       exact hYe.out j (by omega)
   ·obtain rfl:i=3:=by omega
    have hX:=hold_keep hH ((Below.refl _ wr).drew)
    have hXb:=hold_drop (r:=[_,_]) (hold_drop hX)
    have hXr:=hold_up [_] hXb
    gi_wp2
    refine wpIn_wide.2 ?_
    go_region_held3 (fun w'=>w'.cell? ⟨b4,9,none⟩=some (.int .i64 pts)) ((first | exact cP _ _ hXb | fail)) ((first
     | (go_at_call 12; have hcon:=callsIn_wide.1 (hBu 0 _ _ hXr); (with_reducible refine hcon.mono ?_); clear hcon; rintro e w3 ⟨rfl,rfl⟩)
     | (go_at_call 28; have hcon:=callsIn_wide.1 (points_in 0 hXr); rw [hpts] at hcon; (with_reducible refine hcon.mono ?_); clear hcon; rintro e w3 ⟨rfl,rfl⟩)))
    gi_wp2
    exact bodyPost_ret (results_tmp rfl _ _ _) rfl ⟨rfl,hBk _ _ hX⟩
end
end Go.Proofs.YtkmccgombmogmaaGreat
namespace Go.Proofs.YtkmccgombmogmaaGreat
open Go.RowKit
open Go.Ev (iz uz iN)
set_option linter.unusedVariables false
set_option linter.unusedSimpArgs false
set_option maxRecDepth 8000
section
variable {ctx:Ev.Ctx} {w:World} {r:List Ev.Asr} {c:Cfg}
set_option maxHeartbeats 2000000 in
theorem new06 (m n:Nat) (hn:n≤65536) (h:Ev.Hold ctx r w) :
  CallsIn Fence.wide m Tryz.prog 46 #[.int .i64 (n:Int)] w fun e w'=>∃ v,e=.returned (.agg #[v,.int .u64 0])∧Ev.Hold ctx (cA v ⟨List.replicate n 0,0⟩::r) w':=by
 refine callsIn_of_wp Tryz.func46 rfl trivial ?_ rfl
 simp only [Tryz.ntmps46,List.size_toArray,List.length_cons,List.length_nil,Nat.reduceAdd,Nat.reduceSub,Array.replicate_succ,Array.replicate_zero,List.push_toArray,List.append_toArray,List.nil_append,List.cons_append]
 obtain ⟨b1,hb1⟩ : ∃ b1,w.heap.size=b1:=⟨_,rfl⟩
 have g1:=hold_new [.slice none 0 0,.int .u64 0] 53 h
 obtain ⟨W1,hW1⟩ : ∃ W1,w.alloc (.cells #[.slice none 0 0,.int .u64 0] 53)=W1:=⟨_,rfl⟩
 rw [hb1,show w.alloc (.cells ([.slice none 0 0,.int .u64 0] : List Value).toArray 53)=W1 from hW1] at g1
 obtain ⟨i0,hi,hz1,hz0,hz2⟩:=infU64
 obtain ⟨w2,r1,r2,r3⟩:=run_make_full (P:=Tryz.prog) W1 W1.heap.size 50 51 i0 (.int .u64 0) 1 Tryz.underlying50 hi hz0 hz1 .i64 .i64 n (by rw [hz2]; omega) (by unfold maxLen; omega) (Nat.le_refl _)
 have hB1:Below W1.heap.size W1 w2:=Ev.grown_below r3
 have hrow:(madeCells (Value.int .u64 0).cells (n * 1)).toList=u64s (List.replicate n 0):=by
  rw [Nat.mul_one]
  show (madeCells #[Value.int .u64 0] n).toList=_
  rw [toList_madeCells_one]
  simp [u64s]
 rw [hrow] at r2
 have g2:=own_mk g1 r2 hB1
 have hmin:min ((n:Nat) : Int) 65536=(n:Int):=by omega
 have hmax:max (0:Int) ((n:Nat) : Int)=(n:Int):=by omega
 obtain ⟨bs,hbs⟩ : ∃ bs,W1.heap.size=bs:=⟨_,rfl⟩
 rw [hbs] at r1 g2
 obtain ⟨w3,s1,g3⟩:=st_all (t := 53) (cs':=[.slice (some ⟨bs,0,none⟩) n n,.int .u64 0]) (hold_swap g2) rfl (by simp [Value.oneCell']) (by kernel_rfl)
 gi_wp2_with (refine wpListIn_store_run rfl _ _ _ rfl s1 rfl rfl ?_)
 refine post_cell rfl rfl rfl (lv_all g3 Tryz.underlying53 rfl (by kernel_rfl)) ⟨_,rfl,?_⟩
 show Ev.Hold ctx (Ev.slA 51 1 _ (List.replicate n (0:Int)).length _::r) _
 rw [List.length_replicate]
 exact hold_drop (r:=[_]) g3
set_option maxHeartbeats 2000000 in
theorem join0 (m:Nat) (h:Ev.Hold ctx r w) :
  CallsIn Fence.wide m Tryz.prog 77 #[.slice none 0 0,.slice none 0 0] w fun e w'=>e=.returned (.slice none 0 0)∧Ev.Hold ctx r w':=by
 refine callsIn_of_wp Tryz.func77 rfl trivial ?_ rfl
 simp only [Tryz.ntmps77,List.size_toArray,List.length_cons,List.length_nil,Nat.reduceAdd,Nat.reduceSub,Array.replicate_succ,Array.replicate_zero,List.push_toArray,List.append_toArray,List.nil_append,List.cons_append]
 gi_wp2
 exact bodyPost_ret (results_tmp rfl _ _ _) rfl ⟨rfl,h⟩
set_option maxHeartbeats 2000000 in
theorem new08 (m q:Nat) (hq:0 < q) (h:Ev.Hold ctx r w) :
  CallsIn Fence.wide m Tryz.prog 47 #[.int .i64 (q:Int),.slice none 0 0] w fun e w'=>e=.returned (.agg #[.int .i64 (q:Int),.slice none 0 0])∧Ev.Hold ctx r w':=by
 refine callsIn_of_wp Tryz.func47 rfl trivial ?_ rfl
 simp only [Tryz.ntmps47,List.size_toArray,List.length_cons,List.length_nil,Nat.reduceAdd,Nat.reduceSub,Array.replicate_succ,Array.replicate_zero,List.push_toArray,List.append_toArray,List.nil_append,List.cons_append]
 obtain ⟨b1,hb1⟩ : ∃ b1,w.heap.size=b1:=⟨_,rfl⟩
 have g1:=hold_new [.int .i64 0,.slice none 0 0] 103 h
 obtain ⟨W1,hW1⟩ : ∃ W1,w.alloc (.cells #[.int .i64 0,.slice none 0 0] 103)=W1:=⟨_,rfl⟩
 rw [hb1,show w.alloc (.cells ([.int .i64 0,.slice none 0 0] : List Value).toArray 103)=W1 from hW1] at g1
 have hmin:min (0:Int) ((q:Nat) : Int)=0:=by omega
 have hj:=join0 (m - 1) g1
 gi_wp2
 refine ⟨trivial,fun h=>by simp [Fence.wide] at h,hj.mono ?_⟩
 rintro e w2 ⟨rfl,g2⟩
 obtain ⟨w3,s1,g3⟩:=st_all (t := 103) (cs':=[.int .i64 (q:Int),.slice none 0 0]) g2 rfl (by simp [Value.oneCell']) (by kernel_rfl)
 gi_wp2_with (refine wpListIn_store_run rfl _ _ _ rfl s1 rfl rfl ?_)
 exact post_cell rfl rfl rfl (lv_all g3 Tryz.underlying103 rfl (by kernel_rfl)) ⟨rfl,hold_drop (r:=[_]) g3⟩
set_option maxHeartbeats 2000000 in
theorem conf_in (m:Nat) (h:Ev.Hold ctx r w) :
  CallsIn Fence.wide m Tryz.prog 23 #[c.v] w fun e w'=>e=.returned c.v∧Ev.Hold ctx r w':=by
 refine callsIn_of_wp Tryz.func23 rfl trivial ?_ rfl
 simp only [Tryz.ntmps23,List.size_toArray,List.length_cons,List.length_nil,Nat.reduceAdd,Nat.reduceSub,Array.replicate_succ,Array.replicate_zero,List.push_toArray,List.append_toArray,List.nil_append,List.cons_append]
 obtain ⟨b1,hb1⟩ : ∃ b1,w.heap.size=b1:=⟨_,rfl⟩
 have g1:=hold_new (cfL c) 23 h
 obtain ⟨W1,hW1⟩ : ∃ W1,w.alloc (.cells (cfL c).toArray 23)=W1:=⟨_,rfl⟩
 rw [hb1,hW1] at g1
 obtain ⟨b2,hb2⟩ : ∃ b2,W1.heap.size=b2:=⟨_,rfl⟩
 have g2:=hold_new [.int .i64 0,.int .i64 0,.int .i64 0,.int .i64 0,.int .i64 0,.int .i64 0] 49 g1
 obtain ⟨W2,hW2⟩ : ∃ W2,W1.alloc (.cells #[.int .i64 0,.int .i64 0,.int .i64 0,.int .i64 0,.int .i64 0,.int .i64 0] 49)=W2:=⟨_,rfl⟩
 rw [hb2,show W1.alloc (.cells ([.int .i64 0,.int .i64 0,.int .i64 0,.int .i64 0,.int .i64 0,.int .i64 0] : List Value).toArray 49)=W2 from hW2] at g2
 have hb:=hold_blk (hold_up [_] g2)
 have c0:W2.cell? ⟨b1,0,none⟩=some (.int .i64 (c.n:Int)):=cell_of hb 0 _ rfl
 have c1:W2.cell? ⟨b1,1,none⟩=some (.int .i64 (c.q:Int)):=cell_of hb 1 _ rfl
 have c2:W2.cell? ⟨b1,2,none⟩=some (.int .i64 c.g):=cell_of hb 2 _ rfl
 have c3:W2.cell? ⟨b1,3,none⟩=some (.int .i64 c.m):=cell_of hb 3 _ rfl
 have c4:W2.cell? ⟨b1,4,none⟩=some (.int .i64 c.t):=cell_of hb 4 _ rfl
 have c5:W2.cell? ⟨b1,5,none⟩=some (.int .i64 c.s):=cell_of hb 5 _ rfl
 obtain ⟨w3,s1,g3⟩:=st_all (t := 49) (cs':=cfL c) g2 rfl (by simp [Value.oneCell']) (by kernel_rfl)
 gi_wp2_with (refine wpListIn_store_run rfl _ _ _ rfl s1 rfl rfl ?_)
 exact post_cell rfl rfl rfl (lv_all g3 Tryz.underlying49 rfl (by kernel_rfl)) ⟨rfl,hold_drop (r:=[_,_]) g3⟩
end
end Go.Proofs.YtkmccgombmogmaaGreat
