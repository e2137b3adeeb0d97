/- Part of a proof: see the last text. -/
import Derived.RangeFuncNested
import Derived.RangeFuncBound
import Derived.RangeFuncCalls
import Derived.RangeFuncLeaves
import Derived.RangeFuncBox
import Derived.Maps.AppendAt
import Derived.Shelf.Abstract
import Derived.Shelf.RegionOpen
import Derived.TacticsInMore
import Derived.LoopNIn
import Derived.LoopIn
import Derived.Sort.CutIn
import Derived.Test.YtkmccgombmogmaaGreatZp5
import Derived.Test.YtkmccgombmogmaaGreatZp1
import Derived.WalkKit
import Derived.WalkSpells
import Derived.OwnWalkIn
import Derived.Test.YtkmccgombmogmaaGreatZp4
namespace Go.Proofs.YtkmccgombmogmaaGreat
open Go.RowKit
set_option linter.unusedVariables false
set_option linter.unusedSimpArgs false
set_option maxRecDepth 8000
attribute [local go_sem] Oper.semAt_some
theorem dlen_at (m:Nat) {b:Nat} {x:Int} (hx:U64 x) {w:World} (e0:w.cell? ⟨b,0,none⟩=some (.int .u64 x)) :
  CallsIn Fence.wide m Tryz.prog 94 #[.pointer (some ⟨b,0,none⟩)] w fun e w'=>e=.returned (.int .i64 (szW x))∧w'=w:=by
 have hbd:=szW_bd x
 have hw:IntKind.i64.wrap (szW x)=szW x:=wrap_ok (by omega) (by omega)
 have hel:CallsIn Fence.wide (m - 1) Tryz.prog 112 #[.pointer (some ⟨b,0,none⟩)] w fun e w'=>e=.returned (.int .i64 (szW x))∧w'=w:=by
  refine callsIn_of_wp Tryz.func112 rfl trivial ?_ rfl
  simp only [Tryz.ntmps112,List.size_toArray,List.length_cons,List.length_nil,Nat.reduceAdd,Nat.reduceSub,Array.replicate_succ,Array.replicate_zero,List.push_toArray,List.append_toArray,List.nil_append,List.cons_append]
  gi_wp2
  refine ⟨trivial,fun h=>by simp [Fence.wide] at h,(callsIn_wide.2 (wLen x hx w)).mono ?_⟩
  rintro e w2 ⟨rfl,rfl⟩
  gi_wp2
  exact bodyPost_ret (results_tmp rfl _ _ _) rfl ⟨rfl,rfl⟩
 refine callsIn_of_wp Tryz.func94 rfl trivial ?_ rfl
 simp only [Tryz.ntmps94,List.size_toArray,List.length_cons,List.length_nil,Nat.reduceAdd,Nat.reduceSub,Array.replicate_succ,Array.replicate_zero,List.push_toArray,List.append_toArray,List.nil_append,List.cons_append]
 gi_wp2
 refine ⟨trivial,fun h=>by simp [Fence.wide] at h,hel.mono ?_⟩
 rintro e w2 ⟨rfl,rfl⟩
 gi_wp2
 exact bodyPost_ret (results_tmp rfl _ _ _) rfl ⟨rfl,rfl⟩
def dqI (c:Cfg) (x:Int) (sl:List Int) (i:Nat) : Int:=sl.getD (c.slotI ((hdW x+(i:Int)) % 4294967296)) 0
set_option maxHeartbeats 2000000 in
theorem fr_in (m l n₀ Bk Bd b:Nat) {c:Cfg} {x:Int} {sl:List Int} {bs off cc k:Nat} (hx:U64 x) (hz:szW x≤64) (hk:(k:Int)≤szW x) {w0:World} (J Jx:List Int→World→Prop)
  (hfa:∀ W,Below n₀ w0 W→W.cell? ⟨Bk,0,none⟩=some (.int .i64 (k:Int))∧W.cell? ⟨Bd,0,none⟩=some (.pointer (some ⟨b,0,none⟩))∧W.cell? ⟨b,0,none⟩=some (.int .u64 x)∧W.cell? ⟨b,1,none⟩=some (.slice (some ⟨bs,off,none⟩) c.q cc)∧∀ j,j < c.q→W.cell? ⟨bs,off+j,none⟩=some (.int .i64 (sl.getD j 0)))
  (hY:∀ m pre (y:Int) W1,J pre W1→pre.length < 100→YieldAt Fence.wide m Tryz.prog l #[.int .i64 y] W1 fun e W'=>(e=.returned (.bool true)∧J (pre++[y]) W'∧Below n₀ W1 W')∨(e=.returned (.bool false)∧Jx (pre++[y]) W'))
  (hJd:∀ s W,J s W→J s W.drew) (W:World) (hW:Below n₀ w0 W) (h0:J [] W) :
  CallsIn Fence.wide m Tryz.prog 105 #[.func (.yield l) #[] #[],.pointer (some ⟨Bk,0,none⟩),.pointer (some ⟨Bd,0,none⟩)] W fun e W' =>
   (∃ v,e=.returned v)∧(J ((List.range ((szW x).toNat - k)).map (fun i=>dqI c x sl (k+i))) W'∨∃ q,Jx q W'):=by
 refine callsIn_of_wp Tryz.func105 rfl trivial ?_ rfl
 simp only [Tryz.ntmps105,List.size_toArray,List.length_cons,List.length_nil,Nat.reduceAdd,Nat.reduceSub,Array.replicate_succ,Array.replicate_zero,List.push_toArray,List.append_toArray,List.nil_append,List.cons_append]
 have hq:=c.qb
 have hbd:=szW_bd x
 obtain ⟨n,hn⟩ : ∃ n:Nat,szW x=(n:Int):=⟨(szW x).toNat,by omega⟩
 rw [hn] at hz hk hbd ⊢
 rw [Int.toNat_natCast]
 obtain ⟨d0,_⟩:=hfa W hW
 gi_wp2
 gi_loopw [4] (fun q wr=>∃ i:Nat,q=.int .i64 (i:Int)∧k≤i∧i≤n∧J ((List.range (i - k)).map (fun j=>dqI c x sl (k+j))) wr∧Below n₀ w0 wr) (fun q _=>n - (intOf q).toNat)
 case atStart=>exact ⟨k,rfl,Nat.le_refl _,by omega,by rw [Nat.sub_self]; exact h0,hW⟩
 case round =>
  obtain ⟨i,rfl,hki,hin,hJ,hB⟩:=hrel
  obtain ⟨f0,f1,f2,f3,f4⟩:=hfa wr hB
  have hlen:=dlen_at (m - 1) hx f2
  rw [hn] at hlen
  gi_wp2
  refine ⟨trivial,fun h=>by simp [Fence.wide] at h,hlen.mono ?_⟩
  clear hlen
  rintro e w2 ⟨rfl,hw2⟩
  replace hw2:=hw2.symm
  subst hw2
  by_cases hlt:i < n
  ·have hlI:(i:Int) < (n:Int):=by omega
   gi_upto_region 3 with fail
   have hi32:IntKind.u32.wrap ((i:Nat) : Int)=(i:Int):=by rw [wrap32]; omega
   obtain ⟨v,hv⟩ : ∃ v,(hdW x+(i:Int)) % 4294967296=v:=⟨_,rfl⟩
   have hadd:IntKind.u32.wrap (hdW x+(i:Int))=v:=by rw [wrap32,hv]
   have hvb:0≤v∧v < 4294967296:=by omega
   obtain ⟨si,hsi⟩ : ∃ si,c.slotI v=si:=⟨_,rfl⟩
   have hsl:si < c.q:=by rw [← hsi]; exact c.slotI_lt v
   have hslI:((si:Nat) : Int) < ((c.q:Nat) : Int):=by omega
   have hel:sl.getD si 0=dqI c x sl i:=by unfold dqI; rw [hv,hsi]
   obtain ⟨y,hy0⟩ : ∃ y,dqI c x sl i=y:=⟨_,rfl⟩
   rw [hy0] at hel
   have hwl:=wslot_ok c hvb wr.drew
   rw [hsi] at hwl
   refine AnyS.region (S:=fun W=>Below n₀ w0 W) (T:=22) (by kernel_rfl) ?_
   have hS:Below n₀ w0 wr.drew:=hB.drew
   refine AnyS.take (i:=0) (v:=.func (.yield l) #[] #[]) [0,22] rfl (by kernel_rfl) (by kernel_rfl) (by kernel_rfl) (by kernel_rfl) (fun _ _ _ h=>h) (Or.inl ⟨by rfl,by (intro w hSw; obtain ⟨s0,s1,s2,s3,s4⟩:=hfa w hSw; have s5:=s4 si hsl; rw [hel] at s5; clear s4 hfa f4; go_simp)⟩) hS ?_
   try simp only [Act.put,List.getElem_toArray,List.getElem_cons_succ,List.getElem_cons_zero,List.setIfInBounds_toArray,List.set_cons_zero,List.set_cons_succ]
   refine AnyS.take (i:=1) (v:=.pointer (some ⟨b,0,none⟩)) [1,2,3,4,20,21,22] rfl (by kernel_rfl) (by kernel_rfl) (by kernel_rfl) (by kernel_rfl) (fun _ _ _ h=>h) (Or.inl ⟨by rfl,by (intro w hSw; obtain ⟨s0,s1,s2,s3,s4⟩:=hfa w hSw; have s5:=s4 si hsl; rw [hel] at s5; clear s4 hfa f4; go_simp)⟩) hS ?_
   try simp only [Act.put,List.getElem_toArray,List.getElem_cons_succ,List.getElem_cons_zero,List.setIfInBounds_toArray,List.set_cons_zero,List.set_cons_succ]
   refine AnyS.take (i:=2) (v:=.pointer (some ⟨b,0,none⟩)) [2,3,4,20,21,22] rfl (by kernel_rfl) (by kernel_rfl) (by kernel_rfl) (by kernel_rfl) (fun _ _ _ h=>h) (Or.inl ⟨by rfl,by (intro w hSw; obtain ⟨s0,s1,s2,s3,s4⟩:=hfa w hSw; have s5:=s4 si hsl; rw [hel] at s5; clear s4 hfa f4; go_simp)⟩) hS ?_
   try simp only [Act.put,List.getElem_toArray,List.getElem_cons_succ,List.getElem_cons_zero,List.setIfInBounds_toArray,List.set_cons_zero,List.set_cons_succ]
   refine AnyS.take (i:=3) (v:=.pointer (some ⟨b,1,none⟩)) [3,4,20,21,22] rfl (by kernel_rfl) (by kernel_rfl) (by kernel_rfl) (by kernel_rfl) (fun _ _ _ h=>h) (Or.inl ⟨by rfl,by (intro w hSw; obtain ⟨s0,s1,s2,s3,s4⟩:=hfa w hSw; have s5:=s4 si hsl; rw [hel] at s5; clear s4 hfa f4; go_simp)⟩) hS ?_
   try simp only [Act.put,List.getElem_toArray,List.getElem_cons_succ,List.getElem_cons_zero,List.setIfInBounds_toArray,List.set_cons_zero,List.set_cons_succ]
   refine AnyS.take (i:=4) (v:=.slice (some ⟨bs,off,none⟩) c.q cc) [4,20,21,22] rfl (by kernel_rfl) (by kernel_rfl) (by kernel_rfl) (by kernel_rfl) (fun _ _ _ h=>h) (Or.inl ⟨by rfl,by (intro w hSw; obtain ⟨s0,s1,s2,s3,s4⟩:=hfa w hSw; have s5:=s4 si hsl; rw [hel] at s5; clear s4 hfa f4; go_simp)⟩) hS ?_
   try simp only [Act.put,List.getElem_toArray,List.getElem_cons_succ,List.getElem_cons_zero,List.setIfInBounds_toArray,List.set_cons_zero,List.set_cons_succ]
   refine AnyS.take (i:=5) (v:=.pointer (some ⟨b,0,none⟩)) [5,6,7,8,9,10,13,19,20,21,22] rfl (by kernel_rfl) (by kernel_rfl) (by kernel_rfl) (by kernel_rfl) (fun _ _ _ h=>h) (Or.inl ⟨by rfl,by (intro w hSw; obtain ⟨s0,s1,s2,s3,s4⟩:=hfa w hSw; have s5:=s4 si hsl; rw [hel] at s5; clear s4 hfa f4; go_simp)⟩) hS ?_
   try simp only [Act.put,List.getElem_toArray,List.getElem_cons_succ,List.getElem_cons_zero,List.setIfInBounds_toArray,List.set_cons_zero,List.set_cons_succ]
   refine AnyS.take (i:=6) (v:=.pointer (some ⟨b,0,none⟩)) [6,7,8,9,10,13,19,20,21,22] rfl (by kernel_rfl) (by kernel_rfl) (by kernel_rfl) (by kernel_rfl) (fun _ _ _ h=>h) (Or.inl ⟨by rfl,by (intro w hSw; obtain ⟨s0,s1,s2,s3,s4⟩:=hfa w hSw; have s5:=s4 si hsl; rw [hel] at s5; clear s4 hfa f4; go_simp)⟩) hS ?_
   try simp only [Act.put,List.getElem_toArray,List.getElem_cons_succ,List.getElem_cons_zero,List.setIfInBounds_toArray,List.set_cons_zero,List.set_cons_succ]
   refine AnyS.take (i:=7) (v:=.pointer (some ⟨b,0,none⟩)) [7,8,9,10,13,19,20,21,22] rfl (by kernel_rfl) (by kernel_rfl) (by kernel_rfl) (by kernel_rfl) (fun _ _ _ h=>h) (Or.inl ⟨by rfl,by (intro w hSw; obtain ⟨s0,s1,s2,s3,s4⟩:=hfa w hSw; have s5:=s4 si hsl; rw [hel] at s5; clear s4 hfa f4; go_simp)⟩) hS ?_
   try simp only [Act.put,List.getElem_toArray,List.getElem_cons_succ,List.getElem_cons_zero,List.setIfInBounds_toArray,List.set_cons_zero,List.set_cons_succ]
   refine AnyS.take (i:=8) (v:=.pointer (some ⟨b,0,none⟩)) [8,9,10,13,19,20,21,22] rfl (by kernel_rfl) (by kernel_rfl) (by kernel_rfl) (by kernel_rfl) (fun _ _ _ h=>h) (Or.inl ⟨by rfl,by (intro w hSw; obtain ⟨s0,s1,s2,s3,s4⟩:=hfa w hSw; have s5:=s4 si hsl; rw [hel] at s5; clear s4 hfa f4; go_simp)⟩) hS ?_
   try simp only [Act.put,List.getElem_toArray,List.getElem_cons_succ,List.getElem_cons_zero,List.setIfInBounds_toArray,List.set_cons_zero,List.set_cons_succ]
   refine AnyS.take (i:=9) (v:=.int .u64 x) [9,10,13,19,20,21,22] rfl (by kernel_rfl) (by kernel_rfl) (by kernel_rfl) (by kernel_rfl) (fun _ _ _ h=>h) (Or.inl ⟨by rfl,by (intro w hSw; obtain ⟨s0,s1,s2,s3,s4⟩:=hfa w hSw; have s5:=s4 si hsl; rw [hel] at s5; clear s4 hfa f4; go_simp)⟩) hS ?_
   try simp only [Act.put,List.getElem_toArray,List.getElem_cons_succ,List.getElem_cons_zero,List.setIfInBounds_toArray,List.set_cons_zero,List.set_cons_succ]
   refine AnyS.take (i:=11) (v:=.int .i64 (i:Int)) [11,12,13,19,20,21,22] rfl (by kernel_rfl) (by kernel_rfl) (by kernel_rfl) (by kernel_rfl) (fun _ _ _ h=>h) (Or.inl ⟨by rfl,by (intro w hSw; obtain ⟨s0,s1,s2,s3,s4⟩:=hfa w hSw; have s5:=s4 si hsl; rw [hel] at s5; clear s4 hfa f4; go_simp)⟩) hS ?_
   try simp only [Act.put,List.getElem_toArray,List.getElem_cons_succ,List.getElem_cons_zero,List.setIfInBounds_toArray,List.set_cons_zero,List.set_cons_succ]
   refine AnyS.take (i:=12) (v:=.int .u32 (i:Int)) [12,13,19,20,21,22] rfl (by kernel_rfl) (by kernel_rfl) (by kernel_rfl) (by kernel_rfl) (fun _ _ _ h=>h) (Or.inl ⟨by rfl,by (intro w hSw; obtain ⟨s0,s1,s2,s3,s4⟩:=hfa w hSw; have s5:=s4 si hsl; rw [hel] at s5; clear s4 hfa f4; go_simp)⟩) hS ?_
   try simp only [Act.put,List.getElem_toArray,List.getElem_cons_succ,List.getElem_cons_zero,List.setIfInBounds_toArray,List.set_cons_zero,List.set_cons_succ]
   refine AnyS.take (i:=14) (v:=.pointer (some ⟨b,0,none⟩)) [14,15,16,17,18,19,20,21,22] rfl (by kernel_rfl) (by kernel_rfl) (by kernel_rfl) (by kernel_rfl) (fun _ _ _ h=>h) (Or.inl ⟨by rfl,by (intro w hSw; obtain ⟨s0,s1,s2,s3,s4⟩:=hfa w hSw; have s5:=s4 si hsl; rw [hel] at s5; clear s4 hfa f4; go_simp)⟩) hS ?_
   try simp only [Act.put,List.getElem_toArray,List.getElem_cons_succ,List.getElem_cons_zero,List.setIfInBounds_toArray,List.set_cons_zero,List.set_cons_succ]
   refine AnyS.take (i:=15) (v:=.pointer (some ⟨b,0,none⟩)) [15,16,17,18,19,20,21,22] rfl (by kernel_rfl) (by kernel_rfl) (by kernel_rfl) (by kernel_rfl) (fun _ _ _ h=>h) (Or.inl ⟨by rfl,by (intro w hSw; obtain ⟨s0,s1,s2,s3,s4⟩:=hfa w hSw; have s5:=s4 si hsl; rw [hel] at s5; clear s4 hfa f4; go_simp)⟩) hS ?_
   try simp only [Act.put,List.getElem_toArray,List.getElem_cons_succ,List.getElem_cons_zero,List.setIfInBounds_toArray,List.set_cons_zero,List.set_cons_succ]
   refine AnyS.take (i:=16) (v:=.pointer (some ⟨b,1,none⟩)) [16,17,18,19,20,21,22] rfl (by kernel_rfl) (by kernel_rfl) (by kernel_rfl) (by kernel_rfl) (fun _ _ _ h=>h) (Or.inl ⟨by rfl,by (intro w hSw; obtain ⟨s0,s1,s2,s3,s4⟩:=hfa w hSw; have s5:=s4 si hsl; rw [hel] at s5; clear s4 hfa f4; go_simp)⟩) hS ?_
   try simp only [Act.put,List.getElem_toArray,List.getElem_cons_succ,List.getElem_cons_zero,List.setIfInBounds_toArray,List.set_cons_zero,List.set_cons_succ]
   refine AnyS.take (i:=17) (v:=.slice (some ⟨bs,off,none⟩) c.q cc) [17,18,19,20,21,22] rfl (by kernel_rfl) (by kernel_rfl) (by kernel_rfl) (by kernel_rfl) (fun _ _ _ h=>h) (Or.inl ⟨by rfl,by (intro w hSw; obtain ⟨s0,s1,s2,s3,s4⟩:=hfa w hSw; have s5:=s4 si hsl; rw [hel] at s5; clear s4 hfa f4; go_simp)⟩) hS ?_
   try simp only [Act.put,List.getElem_toArray,List.getElem_cons_succ,List.getElem_cons_zero,List.setIfInBounds_toArray,List.set_cons_zero,List.set_cons_succ]
   refine AnyS.take (i:=18) (v:=.int .i64 (c.q:Int)) [18,19,20,21,22] rfl (by kernel_rfl) (by kernel_rfl) (by kernel_rfl) (by kernel_rfl) (fun _ _ _ h=>h) (Or.inl ⟨by rfl,by (intro w hSw; obtain ⟨s0,s1,s2,s3,s4⟩:=hfa w hSw; have s5:=s4 si hsl; rw [hel] at s5; clear s4 hfa f4; go_simp)⟩) hS ?_
   try simp only [Act.put,List.getElem_toArray,List.getElem_cons_succ,List.getElem_cons_zero,List.setIfInBounds_toArray,List.set_cons_zero,List.set_cons_succ]
   refine AnyS.one (i:=10) (by kernel_rfl) ?_
   refine wants_op rfl (by rfl) ?_
   gi_wp2
   refine ⟨trivial,fun h=>by simp [Fence.wide] at h,(callsIn_wide.2 (wHead x hx _)).mono ?_⟩
   rintro e w3 ⟨rfl,rfl⟩
   refine ⟨hS,?_⟩
   try simp only [Act.put,List.getElem_toArray,List.getElem_cons_succ,List.getElem_cons_zero,List.setIfInBounds_toArray,List.set_cons_zero,List.set_cons_succ]
   refine AnyS.take (i:=13) (v:=.int .u32 v) [13,19,20,21,22] rfl (by kernel_rfl) (by kernel_rfl) (by kernel_rfl) (by kernel_rfl) (fun _ _ _ h=>h) (Or.inl ⟨by rfl,by (intro w hSw; obtain ⟨s0,s1,s2,s3,s4⟩:=hfa w hSw; have s5:=s4 si hsl; rw [hel] at s5; clear s4 hfa f4; go_simp)⟩) hS ?_
   try simp only [Act.put,List.getElem_toArray,List.getElem_cons_succ,List.getElem_cons_zero,List.setIfInBounds_toArray,List.set_cons_zero,List.set_cons_succ]
   refine AnyS.one (i:=19) (by kernel_rfl) ?_
   refine wants_op rfl (by rfl) ?_
   gi_wp2
   refine ⟨trivial,fun h=>by simp [Fence.wide] at h,(callsIn_wide.2 hwl).mono ?_⟩
   rintro e w3 ⟨rfl,rfl⟩
   refine ⟨hS,?_⟩
   try simp only [Act.put,List.getElem_toArray,List.getElem_cons_succ,List.getElem_cons_zero,List.setIfInBounds_toArray,List.set_cons_zero,List.set_cons_succ]
   refine AnyS.take (i:=20) (v:=.pointer (some ⟨bs,off+si,none⟩)) [20,21,22] rfl (by kernel_rfl) (by kernel_rfl) (by kernel_rfl) (by kernel_rfl) (fun _ _ _ h=>h) (Or.inl ⟨by rfl,by (intro w hSw; obtain ⟨s0,s1,s2,s3,s4⟩:=hfa w hSw; have s5:=s4 si hsl; rw [hel] at s5; clear s4 hfa f4; go_simp)⟩) hS ?_
   try simp only [Act.put,List.getElem_toArray,List.getElem_cons_succ,List.getElem_cons_zero,List.setIfInBounds_toArray,List.set_cons_zero,List.set_cons_succ]
   refine AnyS.take (i:=21) (v:=.int .i64 y) [21,22] rfl (by kernel_rfl) (by kernel_rfl) (by kernel_rfl) (by kernel_rfl) (fun _ _ _ h=>h) (Or.inl ⟨by rfl,by (intro w hSw; obtain ⟨s0,s1,s2,s3,s4⟩:=hfa w hSw; have s5:=s4 si hsl; rw [hel] at s5; clear s4 hfa f4; go_simp)⟩) hS ?_
   try simp only [Act.put,List.getElem_toArray,List.getElem_cons_succ,List.getElem_cons_zero,List.setIfInBounds_toArray,List.set_cons_zero,List.set_cons_succ]
   refine AnyS.one (i:=22) (by kernel_rfl) ?_
   refine wants_op rfl (by rfl) ?_
   obtain ⟨fn,tmps,assign,body,hy,hR⟩:=hY (m - 1) _ y _ (hJd _ _ hJ) (by simp; omega)
   gi_wp2
   refine ⟨fun h=>by simp [Fence.wide] at h,hR.mono ?_⟩
   rintro e W3 (⟨rfl,hJ3,hk4⟩ | ⟨rfl,hJx3⟩)
   ·first | refine ⟨hS.trans hk4,?_⟩ | refine ⟨.inr (hS.trans hk4),?_⟩ | skip
    try simp only [Act.put,List.getElem_toArray,List.getElem_cons_succ,List.getElem_cons_zero,List.setIfInBounds_toArray,List.set_cons_zero,List.set_cons_succ]
    refine AnyS.one (i:=23) (by kernel_rfl) ?_
    refine wants_op rfl (by rfl) ?_
    gi_wp2
    first | refine ⟨hS.trans hk4,?_⟩ | refine ⟨.inr (hS.trans hk4),?_⟩ | skip
    try simp only [Act.put,List.getElem_toArray,List.getElem_cons_succ,List.getElem_cons_zero,List.setIfInBounds_toArray,List.set_cons_zero,List.set_cons_succ]
    refine AnyS.done (by kernel_rfl) ?_ _
    gi_wp2
    go_roundw
    case rel =>
     refine ⟨i+1,rfl,by omega,by omega,?_,hS.trans hk4⟩
     rw [show i+1 - k=(i - k)+1 by omega,List.range_succ,List.map_append,List.map_cons,List.map_nil,show k+(i - k)=i by omega,hy0]
     exact hJ3
    case measure=>simp [intOf]; omega
   ·first | refine ⟨.inl (by kernel_rfl),?_⟩ | skip
    try simp only [Act.put,List.getElem_toArray,List.getElem_cons_succ,List.getElem_cons_zero,List.setIfInBounds_toArray,List.set_cons_zero,List.set_cons_succ]
    refine AnyS.one (i:=23) (by kernel_rfl) ?_
    refine wants_op rfl (by rfl) ?_
    gi_wp2
    first | refine ⟨.inl (by kernel_rfl),?_⟩ | skip
    try simp only [Act.put,List.getElem_toArray,List.getElem_cons_succ,List.getElem_cons_zero,List.setIfInBounds_toArray,List.set_cons_zero,List.set_cons_succ]
    refine AnyS.done (by kernel_rfl) ?_ _
    gi_wp2
    exact bodyPost_ret (results_none rfl _ _ _) rfl ⟨⟨_,rfl⟩,.inr ⟨_,hJx3⟩⟩
  ·obtain rfl:i=n:=by omega
   have hlI:¬ ((i:Nat) : Int) < (i:Int):=by omega
   gi_wp2
   exact bodyPost_end (results_none rfl _ _ _) rfl ⟨⟨_,rfl⟩,.inl hJ⟩
end Go.Proofs.YtkmccgombmogmaaGreat
namespace Go.Proofs.YtkmccgombmogmaaGreat
open Go.RowKit
set_option linter.unusedVariables false
set_option linter.unusedSimpArgs false
set_option maxRecDepth 8000
attribute [local go_sem] Oper.semAt_some
theorem infI:(Tryz.prog.info? 3).map (fun i=>(i.zero,i.size,i.bytes))=some (some (.int .i64 0),1,8):=by kernel_rfl
theorem cell_one_at (w:World) (x:Value) (t:TypeId) : ∀ j u,[x][j]? = some u→(w.alloc (.cells #[x] t)).cell? ((⟨w.heap.size,0,none⟩ : Addr).add j)=some u:=by
 intro j u hj
 match j,hj with
 | 0,hj=>simp at hj; subst hj; simp [Addr.add]
theorem yield_wide {m m':Nat} {P:Program} {l:Nat} {args:Array Value} {W:World} {R:Ending→World→Prop} (h:YieldAt Fence.wide m P l args W R) : YieldAt Fence.wide m' P l args W R:=by
 obtain ⟨fn,tmps,assign,body,h1,h2⟩:=h
 exact ⟨fn,tmps,assign,body,h1,h2.1,fun c cs _=>h2.2 c cs (room_wide _)⟩
set_option maxHeartbeats 2000000 in
theorem aps_in (Bk Bd b:Nat) {c:Cfg} {x:Int} {sl:List Int} {bs off cc k:Nat} (hx:U64 x) (hz:szW x≤64) (hk:(k:Int)≤szW x) (w:World)
  (hfa:∀ W,Below w.heap.size w W→W.cell? ⟨Bk,0,none⟩=some (.int .i64 (k:Int))∧W.cell? ⟨Bd,0,none⟩=some (.pointer (some ⟨b,0,none⟩))∧W.cell? ⟨b,0,none⟩=some (.int .u64 x)∧W.cell? ⟨b,1,none⟩=some (.slice (some ⟨bs,off,none⟩) c.q cc)∧∀ j,j < c.q→W.cell? ⟨bs,off+j,none⟩=some (.int .i64 (sl.getD j 0))) :
  CallsIn Fence.wide 8 Tryz.prog 104 #[.slice none 0 0,.func (.func 105) #[] #[.pointer (some ⟨Bk,0,none⟩),.pointer (some ⟨Bd,0,none⟩)]] w fun e w' =>
   ∃ v,e=.returned v∧w'.ownsRow w.heap.size 3 1 v ((szW x).toNat - k) (ints ((List.range ((szW x).toNat - k)).map (fun i=>dqI c x sl (k+i))))∧Below w.heap.size w w':=by
 refine callsIn_of_wp_marks Tryz.func104 rfl trivial ?_ rfl
 simp only [Tryz.ntmps104,List.size_toArray,List.length_cons,List.length_nil,Nat.reduceAdd,Nat.reduceSub,Array.replicate_succ,Array.replicate_zero,List.push_toArray,List.append_toArray,List.nil_append,List.cons_append]
 obtain ⟨W0,hW0⟩ : ∃ W0,w.alloc (.cells #[.slice none 0 0] 35)=W0:=⟨_,rfl⟩
 have hsz:W0.heap.size=w.heap.size+1:=by rw [← hW0]; simp
 have hB0:Below w.heap.size w W0:=by rw [← hW0]; exact (Below.refl _ w).alloc (Nat.le_refl _) _
 have hlx:Boxed W0 w.heap.size 35 (.slice none 0 0):=by rw [← hW0]; exact Boxed.new w 35 (.slice none 0 0)
 gi_wp2
 have hseq:SeqStopsK Fence.wide 7 Tryz.prog 105 #[.pointer (some ⟨Bk,0,none⟩),.pointer (some ⟨Bd,0,none⟩)] (fun y:Int=>#[.int .i64 y]) (Below w.heap.size) (fun xs=>xs=(List.range ((szW x).toNat - k)).map (fun i=>dqI c x sl (k+i))) (fun _=>True) 100 W0:=by
  intro l J Jx W hW hJ hJx hY h0
  refine (fr_in 7 l w.heap.size Bk Bd b hx hz hk (w0:=w) J Jx hfa (fun m pre y W1 hJ1 hlen=>yield_wide (hY pre y W1 hJ1 hlen)) (fun s W hs=>hJ s W W.drew none hs ⟨rfl,rfl,rfl,Nat.le_refl _,fun _ _ _=>rfl⟩ (fun r e=>by cases e)) W (hB0.trans (hW.mono (by omega))) h0).mono ?_
  rintro e W' ⟨hv,h | ⟨q,h⟩⟩
  ·exact ⟨hv,.inl ⟨_,rfl,h⟩⟩
  ·exact ⟨hv,.inr ⟨q,trivial,h⟩⟩
 refine wpIn_rangeFunc_ownH rfl (by decide) (gf := 105) (lb:=#[.pointer (some ⟨Bk,0,none⟩),.pointer (some ⟨Bd,0,none⟩)]) rfl trivial (enters_of Tryz.func105 (by kernel_rfl) rfl)
  hseq belowK_t (belowK_b (w:=W0) (by omega)) (Below.refl _ _) (fun _=>rfl)
  (fun pre W=>(∃ v,Boxed W w.heap.size 35 v∧W.ownsRow w.heap.size 3 1 v pre.length (ints pre)∧True)∧Below w.heap.size w W∧w.heap.size+1≤W.heap.size)
  (fun _ _ _=>False) ?hI (fun _ _ _ _ _ hs _ _=>hs) ⟨⟨_,hlx,World.ownsRow_nil _ _ _ _,trivial⟩,hB0,by omega⟩
  (fun y a' W=>a' = { tmps:=#[.slice none 0 0,.func (.func 105) #[] #[.pointer (some ⟨Bk,0,none⟩),.pointer (some ⟨Bd,0,none⟩)],.pointer (some ⟨w.heap.size,0,none⟩),undef,.slice none 0 0,.int .i64 y,.func (.func 105) #[] #[.pointer (some ⟨Bk,0,none⟩),.pointer (some ⟨Bd,0,none⟩)],.int .i64 y,undef,undef,undef,undef,undef],defers:=[] }) ?hAx ?assign ?body ?done ?stop
 case hI =>
  rintro pre A B row ⟨p1,p3,p5⟩ hgr hrow
  refine ⟨holdsRow_own w.heap.size w.heap.size 35 3 1 (fun pre=>pre.length) (fun pre=>ints pre) (fun _ _=>True) pre A B row p1 hgr (fun r e=>(hrow r e).2),p3.grown hgr p3.size (fun k e=>?_),Nat.le_trans p5 hgr.size⟩
  have:=(hrow k e).1
  omega
 case hAx=>exact fun y a' _ A B row h _ _=>h
 case assign =>
  rintro l pre y W K hI hK
  gi_wp2
  exact hK _ _ (KeepsFrom.refl _ _) (Below.refl _ _) hI rfl
 case body =>
  rintro l pre y a' W hl hr ⟨⟨v,p1,p2,_⟩,p4,hsw⟩ rfl hlen
  have c2:=p1.cell
  obtain ⟨i0,hi,hz0,hz1,hz2⟩:=info_parts infI
  gi_wp2_with (gi_at_builtin; refine wpListIn_append_own _ rfl _ _ 35 rfl w.heap.size 3 i0 (.int .i64 0) 1 8 Tryz.underlying35 hi hz0 hz1 hz2 rfl (by decide) _ _ _ rfl (p2.alloc _) ⟨W.heap.size,0,none⟩ 1 1 [.int .i64 y] rfl rfl (cell_one_at _ _ _) (by simp [Value.oneCell']) (by unfold maxLen; omega) (by omega) (by simp; omega) ?_; intro v' w1 hown' hgrow _; obtain ⟨g',cap',rfl⟩:=ownsRow_succ hown'; obtain ⟨hv1,hv2,hr2,hk2,hb2⟩:=p1.appended (by decide) p2 (by omega:w.heap.size≤W.heap.size) (by omega) hown' hgrow; have d1:=hv1.cell; have d2:=hv1.frozen)
  refine ⟨hk2.from _,hb2,⟨_,hv2,?_,trivial⟩,p4.trans hb2,Nat.le_trans hsw hb2.size⟩
  rw [List.length_append,show ints (pre++[y])=ints pre++[.int .i64 y] by simp [ints]]
  exact hr2
 case done =>
  rintro D ys W hD rfl ⟨⟨v,p1,p2,_⟩,p4,hsw⟩ hK
  have c1:=p1.cell
  rw [List.length_map,List.length_range] at p2
  obtain ⟨a1,k1,c2,rfl⟩ : ∃ a k c,v=.slice a k c:=by
   rcases p2.2 with ⟨rfl,_⟩ | ⟨gg,cap,cur,rfl,_⟩
   ·exact ⟨_,_,_,rfl⟩
   ·exact ⟨_,_,_,rfl⟩
  gi_wp2
  have hgp:=grownBy_putObj' W D (.deferred none)
  refine ⟨by simp,.inl ⟨_,_,rfl,run_takeDeferred hK,?_⟩⟩
  refine ⟨_,results_tmp rfl _ _ _,?_⟩
  refine ⟨_,rfl,p2.kept hgp (.inr fun ej=>?_),p4.trans (belowK_b (w:=W0) (by omega) W D _ _ (by omega) hK rfl rfl)⟩
  rcases p2.2 with ⟨e0,_⟩ | ⟨gg,cap,cur,e0,_,hb,_⟩
  ·rw [e0] at ej
   simp [Value.ownBlock] at ej
  ·rw [e0] at ej
   have:gg=D:=by simpa [Value.ownBlock] using ej
   subst this
   rw [hb] at hK
   cases hK
 case stop =>
  rintro D c pre W hD _ h _
  exact h.elim
theorem coll_in (m Bk Bd b:Nat) {c:Cfg} {x:Int} {sl:List Int} {bs off cc k:Nat} (hx:U64 x) (hz:szW x≤64) (hk:(k:Int)≤szW x) (w:World)
  (hfa:∀ W,Below w.heap.size w W→W.cell? ⟨Bk,0,none⟩=some (.int .i64 (k:Int))∧W.cell? ⟨Bd,0,none⟩=some (.pointer (some ⟨b,0,none⟩))∧W.cell? ⟨b,0,none⟩=some (.int .u64 x)∧W.cell? ⟨b,1,none⟩=some (.slice (some ⟨bs,off,none⟩) c.q cc)∧∀ j,j < c.q→W.cell? ⟨bs,off+j,none⟩=some (.int .i64 (sl.getD j 0))) :
  CallsIn Fence.wide m Tryz.prog 75 #[.func (.func 105) #[] #[.pointer (some ⟨Bk,0,none⟩),.pointer (some ⟨Bd,0,none⟩)]] w fun e w' =>
   ∃ v,e=.returned v∧w'.ownsRow w.heap.size 3 1 v ((szW x).toNat - k) (ints ((List.range ((szW x).toNat - k)).map (fun i=>dqI c x sl (k+i))))∧Below w.heap.size w w':=by
 refine callsIn_of_wp Tryz.func75 rfl trivial ?_ rfl
 simp only [Tryz.ntmps75,List.size_toArray,List.length_cons,List.length_nil,Nat.reduceAdd,Nat.reduceSub,Array.replicate_succ,Array.replicate_zero,List.push_toArray,List.append_toArray,List.nil_append,List.cons_append]
 have ha:CallsIn Fence.wide (m - 1) Tryz.prog _ _ w _:=callsIn_wide.2 (callsIn_wide.1 (aps_in Bk Bd b hx hz hk w hfa))
 gi_wp2
 refine ⟨trivial,fun h=>by simp [Fence.wide] at h,ha.mono ?_⟩
 rintro e w' ⟨v,rfl,ho,hb⟩
 gi_wp2
 exact bodyPost_ret (results_tmp rfl _ _ _) rfl ⟨v,rfl,ho,hb⟩
theorem from_in (m:Nat) {c:Cfg} {b:Nat} {x:Int} {sl:List Int} {k:Nat} (hx:U64 x) (hz:szW x≤64) (hk:(k:Int)≤szW x) {sv:Value} {ctx:Ev.Ctx} {l:List Ev.Asr} {w:World} (h:Ev.Hold ctx (Ev.blkA b [.int .u64 x,sv] 141 :: Ev.slA 3 1 sv c.q (ints sl)::l) w) :
  ∃ W1 Bk Bd,Ev.Hold ctx (Ev.blkA b [.int .u64 x,sv] 141 :: Ev.slA 3 1 sv c.q (ints sl)::l) W1 ∧
   CallsIn Fence.wide m Tryz.prog 76 #[.pointer (some ⟨b,0,none⟩),.int .i64 (k:Int)] w (fun e w'=>e=.returned (.func (.func 105) #[] #[.pointer (some ⟨Bk,0,none⟩),.pointer (some ⟨Bd,0,none⟩)])∧w'=W1) ∧
   ∀ m,CallsIn Fence.wide m Tryz.prog 75 #[.func (.func 105) #[] #[.pointer (some ⟨Bk,0,none⟩),.pointer (some ⟨Bd,0,none⟩)]] W1 (fun e w'=>∃ v,e=.returned v∧Ev.Hold ctx (isA v ((List.range ((szW x).toNat - k)).map (fun i=>dqI c x sl (k+i)))::Ev.blkA b [.int .u64 x,sv] 141 :: Ev.slA 3 1 sv c.q (ints sl)::l) w'):=by
 have hq:=c.qb
 have g0:=hold_new [.pointer (some ⟨b,0,none⟩)] 74 h
 obtain ⟨W0,hW0⟩ : ∃ W0,w.alloc (.cells #[.pointer (some ⟨b,0,none⟩)] 74)=W0:=⟨_,rfl⟩
 rw [show w.alloc (.cells ([.pointer (some ⟨b,0,none⟩)] : List Value).toArray 74)=W0 from hW0] at g0
 have g1:=hold_new [.int .i64 (k:Int)] 3 g0
 obtain ⟨W1,hW1⟩ : ∃ W1,W0.alloc (.cells #[.int .i64 (k:Int)] 3)=W1:=⟨_,rfl⟩
 rw [show W0.alloc (.cells ([.int .i64 (k:Int)] : List Value).toArray 3)=W1 from hW1] at g1
 refine ⟨W1,W0.heap.size,w.heap.size,hold_drop (r:=[_,_]) g1,?_,fun m=>?_⟩
 ·refine callsIn_of_wp Tryz.func76 rfl trivial ?_ rfl
  simp only [Tryz.ntmps76,List.size_toArray,List.length_cons,List.length_nil,Nat.reduceAdd,Nat.reduceSub,Array.replicate_succ,Array.replicate_zero,List.push_toArray,List.append_toArray,List.nil_append,List.cons_append]
  gi_wp2
  exact bodyPost_ret (results_tmp rfl _ _ _) rfl ⟨rfl,rfl⟩
 ·obtain ⟨bs,off,cc,hv,_,hl⟩:=sl_some (hold_drop (r:=[_,_,_]) g1) (by omega) (by decide)
  subst hv
  refine (coll_in (c:=c) (sl:=sl) (bs:=bs) (off:=off) (cc:=cc) m W0.heap.size w.heap.size b hx hz hk W1 (fun W hb=>?_)).mono ?_
  ·have g2:=hold_keep g1 hb
   obtain ⟨b',o',c',hv,hc,_⟩:=sl_some (hold_drop (r:=[_,_,_]) g2) (by omega) (by decide)
   cases hv
   refine ⟨cell_of (hold_blk g2) 0 _ rfl,cell_of (hold_blk (hold_drop (r:=[_]) g2)) 0 _ rfl,cell_of (hold_blk (hold_drop (r:=[_,_]) g2)) 0 _ rfl,cell_of (hold_blk (hold_drop (r:=[_,_]) g2)) 1 _ rfl,fun j hj=>?_⟩
   have hjl:j < sl.length:=by simp [ints] at hl; omega
   rw [hc j (by omega)]
   simp [ints,List.getElem?_eq_getElem hjl,List.getD_eq_getElem?_getD]
  ·rintro e w' ⟨v,rfl,ho,hb⟩
   refine ⟨v,rfl,?_⟩
   have g3:=hold_own (hold_drop (r:=[_,_]) g1) ho hb
   unfold isA
   rw [List.length_map,List.length_range]
   exact g3
end Go.Proofs.YtkmccgombmogmaaGreat
namespace Go.Proofs.YtkmccgombmogmaaGreat
open Go.RowKit
set_option linter.unusedVariables false
set_option linter.unusedSimpArgs false
set_option maxRecDepth 8000
structure DqS where
 w:Int
 sl:List Int
def dqAt (c:Cfg) (x:DqS) (i:Nat) : Int:=x.sl.getD (c.slotI ((hdW x.w+(i:Int)) % 4294967296)) 0
def dqAll (c:Cfg) (x:DqS) : List Int:=(List.range (szW x.w).toNat).map (dqAt c x)
structure DqOk (c:Cfg) (x:DqS) : Prop where
 w:U64 x.w
 sl:x.sl.length=c.q
 sz:szW x.w≤(c.q:Int)
def dqV (b:Nat) (x:DqS) (sv:Value) : Ev.Asr:=Ev.blkA b [.int .u64 x.w,sv] 141
def dqA (c:Cfg) (b:Nat) (x:DqS) : Ev.Asr:=Ev.exA (fun sv:Value=>Ev.leafV sv=true) (fun sv=>Ev.grp [dqV b x sv,Ev.slA 3 1 sv c.q (ints x.sl)])
section
variable {w:World} {F:Nat→Prop} {c:Cfg} {b:Nat} {x:DqS} {ctx:Ev.Ctx} {l:List Ev.Asr}
theorem dq_open (h:Ev.Hold ctx (dqA c b x::l) w) : ∃ sv,Ev.leafV sv=true∧Ev.Hold ctx (dqV b x sv::Ev.slA 3 1 sv c.q (ints x.sl)::l) w:=by
 obtain ⟨sv,hl,hh⟩:=h.getX
 exact ⟨sv,hl,hh.open⟩
theorem dq_close {sv:Value} (hl:Ev.leafV sv=true) (h:Ev.Hold ctx (dqV b x sv::Ev.slA 3 1 sv c.q (ints x.sl)::l) w) : Ev.Hold ctx (dqA c b x::l) w :=
 Ev.Hold.putX sv hl (Ev.Hold.shut h)
theorem dq_all (hq:c.q≤8) (hx:DqOk c x) (h:Ev.Now [dqA c b x] F w) :
  Calls Tryz.prog 44 #[.pointer (some ⟨b,0,none⟩)] w fun e w'=>∃ v,Ev.leafV v=true∧e=.returned v∧Ev.Hold ⟨w,F⟩ [isA v (dqAll c x),dqA c b x] w':=by
 obtain ⟨sv,lsv,hh⟩:=dq_open (Ev.Hold.start h)
 have hs:=hx.sz
 have hb:=szW_bd x.w
 obtain ⟨W1,Bk,Bd,h1,hf,hcl⟩:=from_in 0 (k:=0) hx.w (by omega) (by omega) hh
 have el:(List.range ((szW x.w).toNat - 0)).map (fun i=>dqI c x.w x.sl (0+i))=dqAll c x:=by
  unfold dqAll
  rw [Nat.sub_zero]
  apply List.map_congr_left
  intro i _
  rw [Nat.zero_add]
  rfl
 rw [el] at hcl
 refine (callsIn_wide (n:=1)).1 ?_
 refine callsIn_of_wp Tryz.func44 rfl trivial ?_ rfl
 simp only [Tryz.ntmps44,List.size_toArray,List.length_cons,List.length_nil,Nat.reduceAdd,Nat.reduceSub,Array.replicate_succ,Array.replicate_zero,List.push_toArray,List.append_toArray,List.nil_append,List.cons_append]
 gi_wp2
 refine ⟨trivial,hf.mono ?_⟩
 rintro e w' ⟨rfl,rfl⟩
 gi_wp2
 refine ⟨trivial,(hcl 0).mono ?_⟩
 rintro e w2 ⟨v,rfl,h2⟩
 gi_wp2
 have h3:Ev.Hold ⟨w,F⟩ (isA v (dqAll c x)::dqA c b x::[]) w2:=hold_swap (dq_close lsv (hold_up [_,_] (hold_up [_,_] h2)))
 exact bodyPost_ret (results_tmp rfl _ _ _) rfl ⟨v,hold_leaf h3,rfl,h3⟩
end
end Go.Proofs.YtkmccgombmogmaaGreat
namespace Go.Proofs.YtkmccgombmogmaaGreat
open Go.RowKit
set_option linter.unusedVariables false
set_option linter.unusedSimpArgs false
set_option maxRecDepth 8000
theorem neg_in (m:Nat) (g:Int) (w:World) : CallsIn Fence.wide m Tryz.prog 176 #[.int .i64 g] w fun e w'=>e=.returned (.bool (decide (g < 0)))∧w'=w:=by
 refine callsIn_of_wp Tryz.func176 rfl trivial ?_ rfl
 simp only [Tryz.ntmps176,List.size_toArray,List.length_cons,List.length_nil,Nat.reduceAdd,Nat.reduceSub,Array.replicate_succ,Array.replicate_zero,List.push_toArray,List.append_toArray,List.nil_append,List.cons_append]
 gi_wp2
 exact bodyPost_ret (results_tmp rfl _ _ _) rfl ⟨rfl,rfl⟩
abbrev fnV (f:FuncId) : Value:=.func (.func f) #[] #[]
set_option maxHeartbeats 1000000 in
theorem idxf_in (m:Nat) (v:Value) (l:List Int) (w:World) (hl:Ev.SlR 1 v l.length (ints l) w) (hg:∀ g ∈ l,0≤g) (hn:l.length≤1000) : CallsIn Fence.wide m Tryz.prog 177 #[v,fnV 176] w fun e w'=>e=.returned (.int .i64 (-1))∧w'=w:=by
 refine callsIn_of_wp Tryz.func177 rfl trivial ?_ rfl
 simp only [Tryz.ntmps177,List.size_toArray,List.length_cons,List.length_nil,Nat.reduceAdd,Nat.reduceSub,Array.replicate_succ,Array.replicate_zero,List.push_toArray,List.append_toArray,List.nil_append,List.cons_append]
 obtain ⟨a0,c0,rfl⟩ : ∃ a c,v=.slice a l.length c:=by
  rcases hl.2 with ⟨e,a,c,rfl⟩ | ⟨b,off,c,rfl,_⟩
  ·exact ⟨a,c,by rw [e]⟩
  ·exact ⟨_,c,rfl⟩
 dsimp only [fnV]
 gi_wp2
 gi_loopw [8] (fun p wr=>∃ k:Nat,p=.int .i64 (k:Int)∧k≤l.length∧wr=w) (fun p _=>l.length - (intOf p).toNat)
 case atStart=>exact ⟨0,rfl,Nat.zero_le _,by first | rfl | trivial⟩
 case round =>
  obtain ⟨k,rfl,hk,hW⟩:=hrel
  replace hW:=hW.symm
  subst hW
  by_cases hlt:k < l.length
  ·have hlI:(k:Int) < (l.length:Int):=by omega
   rcases hl.2 with ⟨e,_⟩ | ⟨b,off,c,hv,_,hc⟩
   ·omega
   cases hv
   have hck:w.cell? ⟨b,off+k,none⟩=some (.int .i64 l[k]):=by
    rw [hc k (by omega)]
    simp [ints,hlt]
   have hgk:=hg _ (List.getElem_mem hlt)
   obtain ⟨x,hx⟩ : ∃ x,l[k]=x:=⟨_,rfl⟩
   rw [hx] at hck hgk
   clear hc
   gi_wp2
   refine ⟨trivial,fun h=>by simp [Fence.wide] at h,(neg_in (m - 1) x w).mono ?_⟩
   rintro e w2 ⟨rfl,rfl⟩
   have hd:decide (x < 0)=false:=by simpa using hgk
   rw [hd]
   gi_wp2
   exact ⟨⟨k+1,rfl,by omega,by first | rfl | trivial⟩,by simp [intOf]; omega⟩
  ·obtain rfl:k=l.length:=by omega
   have hlI:¬ ((l.length:Nat) : Int) < (l.length:Int):=by omega
   gi_wp2
   exact bodyPost_ret (results_tmp rfl _ _ _) rfl ⟨rfl,rfl⟩
theorem delf_in (m:Nat) (v:Value) (l:List Int) (w:World) (hl:Ev.SlR 1 v l.length (ints l) w) (hg:∀ g ∈ l,0≤g) (hn:l.length≤1000) : CallsIn Fence.wide m Tryz.prog 175 #[v,fnV 176] w fun e w'=>e=.returned v∧w'=w:=by
 refine callsIn_of_wp Tryz.func175 rfl trivial ?_ rfl
 simp only [Tryz.ntmps175,List.size_toArray,List.length_cons,List.length_nil,Nat.reduceAdd,Nat.reduceSub,Array.replicate_succ,Array.replicate_zero,List.push_toArray,List.append_toArray,List.nil_append,List.cons_append]
 gi_wp2
 refine ⟨trivial,fun h=>by simp [Fence.wide] at h,(idxf_in (m - 1) v l w hl hg hn).mono ?_⟩
 rintro e w2 ⟨rfl,rfl⟩
 gi_wp2
 exact bodyPost_ret (results_tmp rfl _ _ _) rfl ⟨rfl,rfl⟩
end Go.Proofs.YtkmccgombmogmaaGreat
namespace Go.Proofs.YtkmccgombmogmaaGreat
open Go.RowKit
set_option linter.unusedVariables false
set_option linter.unusedSimpArgs false
set_option maxRecDepth 8000
theorem own_two {l:List Ev.Asr} {e T:TypeId} {v':Value} {cs:List Value} {b n:Nat} {xs:List Value} {F:Nat→Prop} {w w':World} (h:Ev.Now l F w) (hb0:w'.heap[b]? = some (Obj.cells cs.toArray T (0,0))) (hbn:w.heap.size≤b) (ho:w'.ownsRow w.heap.size e 1 v' n xs) (hne:v'.ownBlock ≠ some b) (hb:Below w.heap.size w w') :
  Ev.Hold ⟨w,F⟩ (Ev.blkA b cs T::Ev.slA e 1 v' n xs::l) w':=by
 obtain ⟨hl,ho⟩:=ho
 have key:∃ Fn,Ev.SlV e 1 v' n xs Fn w'∧∀ j,Fn j→w.heap.size≤j∧j ≠ b:=by
  rcases ho with ⟨rfl,rfl⟩ | ⟨g,cap,cur,rfl,hg,hh,h1,h2,h3,h4⟩
  ·have:xs=[]:=List.eq_nil_of_length_eq_zero (by rw [hl])
   subst this
   exact ⟨fun _=>False,Ev.SlV.nil e 1 w',fun _ h=>h.elim⟩
  ·refine ⟨fun j=>j=g,⟨hl,.inr ⟨g,0,cap,cur,rfl,fun _=>Iff.rfl,hh,fun i hi=>?_,by rw [h3]; omega,h1⟩⟩,fun j hj=>by rw [hj]; exact ⟨hg,fun e=>hne (by rw [← e]; rfl)⟩⟩
   rw [← h4,Nat.zero_add,List.getElem?_take_of_lt hi]
   simp
 obtain ⟨Fn,k1,k2⟩:=key
 have hk:Ev.Now l F w':=Ev.now_keep h (fun j hj=>hb.block j (h.lt j hj)) hb.size
 have hc:=Ev.now_cons (a:=Ev.slA e 1 v' n xs) k1 hk (fun j hj=>Ev.SlV.lt k1 j hj) (fun j hj hf=>by
  have:=h.lt j hf
  have:=(k2 j hj).1
  omega)
 have hbl:b < w'.heap.size:=(Array.getElem?_eq_some_iff.1 hb0).1
 refine ⟨⟨_,Ev.now_cons (a:=Ev.blkA b cs T) (Fa:=fun j=>j=b) ⟨fun _=>Iff.rfl,hb0⟩ hc (fun j hj=>by rw [hj]; exact hbl) (fun j hj hf=>?_),⟨hb.os,hb.tape,hb.output,hb.size,fun j hj _=>hb.block j hj⟩,fun j hj=>?_⟩⟩
 ·rcases hf with hf | hf
  ·exact (k2 j hf).2 hj
  ·have:=h.lt j hf
   omega
 ·rcases hj with hj | hj | hj
  ·exact .inr (by rw [hj]; exact hbn)
  ·exact .inr (k2 j hj).1
  ·exact .inl hj
theorem own_off {w:World} {n:Nat} {e:TypeId} {sz k:Nat} {v:Value} {xs:List Value} (h:w.ownsRow n e sz v k xs) (a:Addr) (u:Value) (hn:v.ownBlock ≠ some a.block) : (w.setCell a u).ownsRow n e sz v k xs:=by
 obtain ⟨h1,h2 | ⟨g,cap,cur,rfl,b,r,q⟩⟩:=h
 ·exact ⟨h1,.inl h2⟩
 ·refine ⟨h1,.inr ⟨g,cap,cur,rfl,b,(Below.heap_setCell w a u g (fun e=>hn (by rw [← e]; rfl))).trans r,q⟩⟩
theorem clone_sl {v:Value} {l:List Int} {w:World} (hl:Ev.SlR 1 v l.length (ints l) w) (hn:l.length≤1000000) : Calls Tryz.prog 97 #[v] w fun e w'=>∃ v',e=.returned v'∧w'.ownsRow w.heap.size 3 1 v' l.length (ints l)∧Below w.heap.size w w':=by
 obtain ⟨h1,⟨e,a,c,rfl⟩ | ⟨b,off,c,rfl,_,hc⟩⟩:=hl
 ·have:l=[]:=List.eq_nil_of_length_eq_zero e
  subst this
  cases a with
  | none =>
   refine (clone_int_nil 0 c w).mono ?_
   rintro e w' ⟨rfl,rfl⟩
   exact ⟨_,rfl,World.ownsRow_nil _ _ _ _,Below.refl _ _⟩
  | some ad=>exact clone_int_at ad 0 c [] w rfl (by omega) (fun u h=>by cases h) (fun j u h=>by simp at h)
 ·exact clone_int_at ⟨b,off,none⟩ l.length c (ints l) w (by simp [ints]) hn Ev.one_ints (fun j u h=>by
   have hj:=(List.getElem?_eq_some_iff.1 h).1
   rw [show (⟨b,off,none⟩ : Addr).add j=⟨b,off+j,none⟩ from Ev.addMk b off j,hc j (by simp [ints] at hj; omega),h])
theorem slr_own {w:World} {n k:Nat} {v:Value} {l:List Int} (h:w.ownsRow n 3 1 v l.length (ints l)) : Ev.SlR 1 v l.length (ints l) w:=by
 refine ⟨h.1,?_⟩
 have h0:=h
 rcases h.2 with ⟨rfl,e⟩ | ⟨g,cap,cur,rfl,_,hg,hcap,_⟩
 ·exact .inl ⟨e,_,_,rfl⟩
 ·refine .inr ⟨g,0,cap,rfl,⟨(Array.getElem?_eq_some_iff.1 hg).1,hcap⟩,fun j hj=>?_⟩
  have hj':j < (ints l).length:=by simp [ints]; omega
  have:=h0.cells (g:=g) rfl j _ (List.getElem?_eq_getElem hj')
  rw [show (⟨g,0,none⟩ : Addr).add j=⟨g,0+j,none⟩ from Ev.addMk g 0 j] at this
  rw [this,List.getElem?_eq_getElem hj']
set_option maxHeartbeats 2000000 in
theorem newlay_in (m:Nat) {c:Cfg} {p:Nat} (hp:p < c.n) (v:Value) (l:List Int) (w:World) (hl:Ev.SlR 1 v l.length (ints l) w) (hg:∀ g ∈ l,0≤g) (hn:l.length≤64) :
  CallsIn Fence.wide m Tryz.prog 172 #[c.v,.int .i64 (p:Int),v] w fun e w'=>∃ b v',e=.returned (.pointer (some ⟨b,0,none⟩))∧w.heap.size≤b∧w'.heap[b]? = some (Obj.cells #[.int .i64 (c.n:Int),.int .i64 (c.q:Int),.int .i64 c.g,.int .i64 c.m,.int .i64 c.t,.int .i64 c.s,.int .i64 (p:Int),.int .i64 1,.int .u64 0,.int .u32 0,.int .u32 0,v'] 203 (0,0))∧w'.ownsRow w.heap.size 3 1 v' l.length (ints l)∧v'.ownBlock ≠ some b∧Below w.heap.size w w':=by
 refine callsIn_of_wp Tryz.func172 rfl trivial ?_ rfl
 simp only [Tryz.ntmps172,List.size_toArray,List.length_cons,List.length_nil,Nat.reduceAdd,Nat.reduceSub,Array.replicate_succ,Array.replicate_zero,List.push_toArray,List.append_toArray,List.nil_append,List.cons_append]
 obtain ⟨W1,hW1⟩ : ∃ W1,w.alloc (.cells #[.int .i64 (c.n:Int),.int .i64 (c.q:Int),.int .i64 c.g,.int .i64 c.m,.int .i64 c.t,.int .i64 c.s] 23)=W1:=⟨_,rfl⟩
 have hB1:Below w.heap.size w W1:=by rw [← hW1]; exact (Below.refl _ w).alloc (Nat.le_refl _) _
 have hs1:w.heap.size≤W1.heap.size:=hB1.size
 have h1:W1.heap[w.heap.size]? = some (Obj.cells #[.int .i64 (c.n:Int),.int .i64 (c.q:Int),.int .i64 c.g,.int .i64 c.m,.int .i64 c.t,.int .i64 c.s] 23 (0,0)):=by rw [← hW1]; exact World.alloc_heap_new _ _
 have d0:=cell_of h1 0 _ rfl
 have d1:=cell_of h1 1 _ rfl
 have d2:=cell_of h1 2 _ rfl
 have d3:=cell_of h1 3 _ rfl
 have d4:=cell_of h1 4 _ rfl
 have d5:=cell_of h1 5 _ rfl
 gi_wp2
 refine ⟨trivial,fun h=>by simp [Fence.wide] at h,(callsIn_wide.2 (from_ok hp W1)).mono ?_⟩
 rintro e w2 ⟨rfl,hb2⟩
 have hB2:Below w.heap.size w w2:=hB1.trans (hb2.mono hs1)
 have hs2:w.heap.size≤w2.heap.size:=hB2.size
 obtain ⟨W3,hW3⟩ : ∃ W3,w2.alloc (.cells #[.int .i64 (c.n:Int),.int .i64 (c.q:Int),.int .i64 c.g,.int .i64 c.m,.int .i64 c.t,.int .i64 c.s,.int .i64 (p:Int),.int .i64 1,.int .u64 0,.int .u32 0,.int .u32 0,.slice none 0 0] 203)=W3:=⟨_,rfl⟩
 have hB3:Below w.heap.size w W3:=by rw [← hW3]; exact hB2.alloc hs2 _
 have hs3:w.heap.size≤W3.heap.size:=hB3.size
 have h3:W3.heap[w2.heap.size]? = some (Obj.cells #[.int .i64 (c.n:Int),.int .i64 (c.q:Int),.int .i64 c.g,.int .i64 c.m,.int .i64 c.t,.int .i64 c.s,.int .i64 (p:Int),.int .i64 1,.int .u64 0,.int .u32 0,.int .u32 0,.slice none 0 0] 203 (0,0)):=by rw [← hW3]; exact World.alloc_heap_new _ _
 have hl3:=(Array.getElem?_eq_some_iff.1 h3).1
 have c7:=cell_of h3 7 _ rfl
 clear d0 d1 d2 d3 d4 d5
 have hl3':Ev.SlR 1 v l.length (ints l) W3:=by
  obtain ⟨e1,e2 | ⟨b,off,c,e3,⟨e4,e5⟩,e6⟩⟩:=hl
  ·exact ⟨e1,.inl e2⟩
  ·exact ⟨e1,.inr ⟨b,off,c,e3,⟨Nat.lt_of_lt_of_le e4 hs3,e5⟩,fun j hj=>(hB3.cell (p:=⟨b,off+j,none⟩) e4).trans (e6 j hj)⟩⟩
 gi_wp2
 refine ⟨trivial,fun h=>by simp [Fence.wide] at h,(callsIn_wide.2 (clone_sl hl3' (by omega))).mono ?_⟩
 rintro e w4 ⟨v4,rfl,ho4,hb4⟩
 gi_wp2
 refine ⟨trivial,fun h=>by simp [Fence.wide] at h,(delf_in (m - 1) v4 l w4 (slr_own (k:=0) ho4) hg (by omega)).mono ?_⟩
 rintro e w5 ⟨rfl,rfl⟩
 have h4:=(hb4.block _ hl3).trans h3
 have c11:=cell_of h4 11 _ rfl
 have f11:=froz_of h4 11
 obtain ⟨a4,k4,rfl⟩ : ∃ a k,v4=.slice a l.length k:=by
  rcases ho4.2 with ⟨rfl,e⟩ | ⟨g,cap,cur,rfl,_⟩
  ·exact ⟨none,0,by rw [e]⟩
  ·exact ⟨_,cap,rfl⟩
 gi_wp2
 have h5:=set_at h4 11 (.slice a4 l.length k4)
 simp only [List.setIfInBounds_toArray,List.set_cons_zero,List.set_cons_succ] at h5
 have hne:(Value.slice a4 l.length k4).ownBlock ≠ some w2.heap.size:=by
  intro e
  have:=(ho4.lt _ e).1
  omega
 refine bodyPost_ret (results_tmp rfl _ _ _) rfl ⟨w2.heap.size,_,rfl,hs2,h5,?_,hne,?_⟩
 ·refine own_off ?_ _ _ hne
  obtain ⟨o1,o2 | ⟨g,cap,cur,oa,ob,oc⟩⟩:=ho4
  ·exact ⟨o1,.inl o2⟩
  ·exact ⟨o1,.inr ⟨g,cap,cur,oa,Nat.le_trans hs3 ob,oc⟩⟩
 ·exact (hB3.trans (hb4.mono hs3)).setCell hs2 _
theorem lay_new {c:Cfg} {p:Nat} (hp:p < c.n) {v:Value} {l:List Int} {ls:List Ev.Asr} {F:Nat→Prop} {w:World} (hl:Ev.SlR 1 v l.length (ints l) w) (hg:∀ g ∈ l,0≤g) (hn:l.length≤64) (h:Ev.Now ls F w) :
  Calls Tryz.prog 172 #[c.v,.int .i64 (p:Int),v] w fun e w'=>∃ b,e=.returned (.pointer (some ⟨b,0,none⟩))∧Ev.Hold ⟨w,F⟩ (layA c p b ⟨1,0,0,0,l⟩::ls) w':=by
 refine (callsIn_wide.1 (newlay_in 0 hp v l w hl hg hn)).mono ?_
 rintro e w' ⟨b,v',rfl,hb0,hb1,ho,hne,hb⟩
 have h2:=own_two (cs:=[.int .i64 (c.n:Int),.int .i64 (c.q:Int),.int .i64 c.g,.int .i64 c.m,.int .i64 c.t,.int .i64 c.s,.int .i64 (p:Int),.int .i64 1,.int .u64 0,.int .u32 0,.int .u32 0,v']) h hb1 hb0 ho hne hb
 have llf:Ev.leafV v'=true:=by
  rcases ho.2 with ⟨rfl,_⟩ | ⟨g,cap,cur,rfl,_⟩ <;> rfl
 exact ⟨b,rfl,lay_close llf h2⟩
end Go.Proofs.YtkmccgombmogmaaGreat
namespace Go.Proofs.YtkmccgombmogmaaGreat
open Go.RowKit
set_option linter.unusedVariables false
set_option linter.unusedSimpArgs false
set_option maxRecDepth 8000
def layW (c:Cfg) (p:Nat) (x:LayS) (v:Value) : Ev.Asr where
 p:=fun ι F w=>∃ bp,v=.pointer (some ⟨bp,0,none⟩)∧(layA c p bp x).p ι F w
 keep:=fun ι F w w' hk ⟨bp,e,h⟩=>⟨bp,e,(layA c p bp x).keep ι F w w' hk h⟩
 mono:=fun ι κ F w hle ⟨bp,e,h⟩=>⟨bp,e,(layA c p bp x).mono ι κ F w hle h⟩
structure StealS where
 st:Nat
 w:Int
 bt:List Int
 ly:Option LayS
def StealS.many (x:StealS) : Nat:=match x.ly with | none=>0 | some _=>x.bt.length
def stealStep (c:Cfg) (p v:Nat) (x:StealS) (m:MemM) : StealS×MemM :=
 match x.st with
 | 1=>(⟨if szW (ld m (c.word v))=0∨(c.q:Int) < szW (ld m (c.word v)) then 0 else 2,ld m (c.word v),[],none⟩,m.tick)
 | 2=>(⟨if ((x.bt.length+1:Nat) : Int)=oldN (szW x.w) then 3 else 2,x.w,x.bt++[IntKind.i64.wrap (ld m (c.slot v ((hdW x.w+(x.bt.length:Int)) % 4294967296)))],none⟩,m.tick)
 | 3=>if ld m (c.word v)=x.w then (⟨if x.bt.length=1 then 0 else 4,x.w,x.bt,some ⟨1,0,0,0,x.bt.drop 1⟩⟩,m.put (c.word v) (gnW x.w (oldN (szW x.w)))) else (⟨1,x.w,[],none⟩,m.tick)
 | 4=>match x.ly with
  | some l=>(⟨if (layStep c p l m).1.st=0 then 0 else 4,x.w,x.bt,some (layStep c p l m).1⟩,(layStep c p l m).2)
  | none=>(x,m)
 | _=>(x,m)
structure LayB (x:LayS) : Prop where
 w:U64 x.w
 b:x.k≤64∧x.n≤64
 ls:x.ls.length≤64
 gs:∀ g ∈ x.ls,Gn g
theorem LayOk.base {x:LayS} (h:LayOk x) : LayB x:=⟨h.w,h.b,h.ls,h.gs⟩
structure StealOk (x:StealS) : Prop where
 st:x.st < 5
 w:U64 x.w
 bt:x.bt.length≤64
 gs:∀ g ∈ x.bt,Gn g
 one:x.st=1→x.bt=[]
 no:x.st=1∨x.st=2∨x.st=3→x.ly=none
 two:x.st=2→(x.bt.length:Int) < oldN (szW x.w)∧oldN (szW x.w)≤64
 three:x.st=3→0 < x.bt.length
 four:x.st=4→∃ l,x.ly=some l∧LayOk l∧l.st ≠ 0
 lay:∀ l,x.ly=some l→LayB l∧0 < x.bt.length
def SlotsOk (c:Cfg) (m:MemM) : Prop:=∀ p,p < c.n→∀ i,Gn (ld m (c.slot p i))
theorem gn_wrap {g:Int} (h:Gn g) : IntKind.i64.wrap g=g:=wrap_ok (by have:=h.1; omega) h.2
def stealV (c:Cfg) (p v bp:Nat) (x:StealS) (bv lp:Value) : Ev.Asr:=Ev.blkA bp [.int .i64 (c.n:Int),.int .i64 (c.q:Int),.int .i64 c.g,.int .i64 c.m,.int .i64 c.t,.int .i64 c.s,lp,.int .i64 (p:Int),.int .i64 (v:Int),.int .i64 (x.st:Int),.int .u64 x.w,bv,.int .i64 (x.many:Int)] 156
def stealL (c:Cfg) (p v bp:Nat) (x:StealS) (e:Value×Value) : List Ev.Asr :=
 match x.ly with
 | none=>[stealV c p v bp x e.1 (.pointer none),isA e.1 x.bt]
 | some l=>[stealV c p v bp x e.1 e.2,isA e.1 x.bt,layW c p l e.2]
def stealA (c:Cfg) (p v bp:Nat) (x:StealS) : Ev.Asr:=Ev.exA (fun e:Value×Value=>Ev.leafV e.1=true) (fun e=>Ev.grp (stealL c p v bp x e))
theorem hold_under {ctx:Ev.Ctx} {a:Ev.Asr} {l m:List Ev.Asr} {w:World} (hm:∀ F,Ev.Now l F w→Ev.Now m F w) (h:Ev.Hold ctx (a::l) w) : Ev.Hold ctx (a::m) w:=by
 obtain ⟨F,h1,h2,h3⟩:=h.ex
 obtain ⟨Fa,Fr,k1,k2,k3,k4⟩:=Ev.now_uncons h1
 have q1:=Ev.now_cons k1 (hm _ k2) (fun j hj=>h1.lt j ((k4 j).2 (.inl hj))) k3
 exact ⟨F,Ev.now_same q1 (fun j=>(k4 j).symm),h2,h3⟩
section
variable {w:World} {F:Nat→Prop} {c:Cfg} {p v:Nat} {bp:Nat} {x:StealS} {ctx:Ev.Ctx} {l:List Ev.Asr}
theorem steal_open (h0:x.ly=none) (h:Ev.Hold ctx (stealA c p v bp x::l) w) : ∃ bv,Ev.leafV bv=true∧Ev.Hold ctx (stealV c p v bp x bv (.pointer none)::isA bv x.bt::l) w:=by
 obtain ⟨⟨bv,lp⟩,hl,hh⟩:=h.getX
 have h2:=hh.open
 simp only [stealL,h0] at h2
 exact ⟨bv,hl,h2⟩
theorem steal_close {bv:Value} (h0:x.ly=none) (hl:Ev.leafV bv=true) (h:Ev.Hold ctx (stealV c p v bp x bv (.pointer none)::isA bv x.bt::l) w) : Ev.Hold ctx (stealA c p v bp x::l) w:=by
 refine Ev.Hold.putX (bv,.pointer none) hl (Ev.Hold.shut ?_)
 simp only [stealL,h0]
 exact h
theorem steal_open4 {ls:LayS} (h0:x.ly=some ls) (h:Ev.Hold ctx (stealA c p v bp x::l) w) : ∃ bv bl,Ev.leafV bv=true∧Ev.Hold ctx (layA c p bl ls::stealV c p v bp x bv (.pointer (some ⟨bl,0,none⟩))::isA bv x.bt::l) w:=by
 obtain ⟨⟨bv,lp⟩,hl,hh⟩:=h.getX
 have h2:=hh.open
 simp only [stealL,h0] at h2
 have h3:Ev.Hold ctx (layW c p ls lp::stealV c p v bp x bv lp::isA bv x.bt::l) w:=hold_swap (hold_under (fun F hn=>now_swap hn) h2)
 obtain ⟨bl,e,h4⟩:=h3.headE (b:=fun bl=>layA c p bl ls) (p:=fun bl=>lp=.pointer (some ⟨bl,0,none⟩)) (fun F ⟨bp,e,h⟩=>⟨bp,e,h⟩)
 rw [e] at h4
 exact ⟨bv,bl,hl,h4⟩
theorem steal_close4 {ls:LayS} {bv lp:Value} (h0:x.ly=some ls) (hl:Ev.leafV bv=true) (h:Ev.Hold ctx (stealV c p v bp x bv lp::isA bv x.bt::layW c p ls lp::l) w) : Ev.Hold ctx (stealA c p v bp x::l) w:=by
 refine Ev.Hold.putX (bv,lp) hl (Ev.Hold.shut ?_)
 simp only [stealL,h0]
 exact h
theorem steal_openX (h:Ev.Hold ctx (stealA c p v bp x::l) w) : ∃ bv lp ll,(x.ly=none→lp=.pointer none∧ll=[])∧(∀ ls,x.ly=some ls→ll=[layW c p ls lp])∧Ev.Hold ctx (stealV c p v bp x bv lp::isA bv x.bt::(ll++l)) w∧∀ (l':List Ev.Asr) W,Ev.Hold ctx (stealV c p v bp x bv lp::isA bv x.bt::(ll++l')) W→Ev.Hold ctx (stealA c p v bp x::l') W:=by
 cases hly:x.ly with
 | none =>
  obtain ⟨bv,hl,h1⟩:=steal_open hly h
  exact ⟨bv,.pointer none,[],fun _=>⟨rfl,rfl⟩,fun ls e=>(by cases e),h1,fun l' W hW=>steal_close hly hl hW⟩
 | some ls =>
  obtain ⟨⟨bv,lp⟩,hl,hh⟩:=h.getX
  have h2:=hh.open
  simp only [stealL,hly] at h2
  exact ⟨bv,lp,[layW c p ls lp],fun e=>(by cases e),fun ls' e=>(by cases e; rfl),h2,fun l' W hW=>steal_close4 hly hl hW⟩
end
section
variable {ctx:Ev.Ctx} {w:World} {r:List Ev.Asr} {c:Cfg} {p v bp bm:Nat} {mm:MemM} {st w0 mn:Int} {lp bv:Value} {bt:List Int}
abbrev seB (c:Cfg) (p v bp:Nat) (lp:Value) (st w0:Int) (bv:Value) (mn:Int) : Ev.Asr:=Ev.blkA bp [.int .i64 (c.n:Int),.int .i64 (c.q:Int),.int .i64 c.g,.int .i64 c.m,.int .i64 c.t,.int .i64 c.s,lp,.int .i64 (p:Int),.int .i64 (v:Int),.int .i64 st,.int .u64 w0,bv,.int .i64 mn] 156
abbrev seC (c:Cfg) (v b:Nat) (W:World) : Prop:=W.cell? ⟨b,0,none⟩=some (.int .i64 (c.n:Int))∧W.cell? ⟨b,1,none⟩=some (.int .i64 (c.q:Int))∧W.cell? ⟨b,2,none⟩=some (.int .i64 c.g)∧W.cell? ⟨b,3,none⟩=some (.int .i64 c.m)∧W.cell? ⟨b,4,none⟩=some (.int .i64 c.t)∧W.cell? ⟨b,5,none⟩=some (.int .i64 c.s)∧W.cell? ⟨b,8,none⟩=some (.int .i64 (v:Int))
theorem sec (h:Ev.Hold ctx (seB c p v bp lp st w0 bv mn::r) w) : seC c v bp w:=⟨blkc h 0 _,blkc h 1 _,blkc h 2 _,blkc h 3 _,blkc h 4 _,blkc h 5 _,blkc h 8 _⟩
theorem imk0 {n:Nat} (hn:n≤65536) (h:Ev.Hold ctx r w) : ∃ b w',(Instr.makeSlice 35 (.int .i64 0) (.int .i64 (n:Int))).run Tryz.prog w=.ok (.slice (some ⟨b,0,none⟩) 0 n) w'∧Ev.Hold ctx (isA (.slice (some ⟨b,0,none⟩) 0 n) []::r) w':=by
 obtain ⟨i,hi,hz1,hz0,hz2⟩:=infInt
 have r1:=run_make (P:=Tryz.prog) w 35 3 i (.int .i64 0) Tryz.underlying35 hi hz0 .i64 .i64 0 n (Int.le_refl _) (by omega) (by rw [hz2]; omega) (by omega)
 simp only [Int.toNat_natCast,Int.toNat_zero] at r1
 obtain ⟨cur,hcur⟩ : ∃ cur,madeCells (Value.int .i64 0).cells (n * i.size)=cur:=⟨_,rfl⟩
 rw [hcur] at r1
 have hcs:cur.size=n:=by rw [← hcur,hz1,Nat.mul_one]; exact size_madeCells _ _
 exact ⟨_,_,r1,(hold_new cur.toList 3 h).head (fun F ⟨k1,k2⟩=>⟨rfl,.inr ⟨_,0,n,cur,rfl,k1,by simpa using k2,fun j hj=>by simp at hj,by omega,Nat.zero_le _⟩⟩)⟩
theorem oldN_bd {n:Int} (h:0≤n∧n < 4294967296) : 0≤oldN n∧oldN n < 4294967296:=by unfold oldN; omega
theorem sdone (n:Nat) (h:w.cell? ⟨bp,9,none⟩=some (.int .i64 st)) : CallsIn Fence.wide n Tryz.prog 102 #[.pointer (some ⟨bp,0,none⟩)] w fun e w'=>e=.returned (.bool (decide (st=0)))∧w'=w:=by
 have hb:(st == 0)=decide (st=0):=by
  by_cases e:st=0 <;> simp [e]
 refine wen Tryz.func102 11 ?_
 gi_wp2
 exact bodyPost_ret (results_tmp rfl _ _ _) rfl ⟨by simp,rfl⟩
theorem shalf (n:Nat) (hw0:U64 w0) (h:w.cell? ⟨bp,10,none⟩=some (.int .u64 w0)) : CallsIn Fence.wide n Tryz.prog 171 #[.pointer (some ⟨bp,0,none⟩)] w fun e w'=>e=.returned (.int .i64 (oldN (szW w0)))∧w'=w:=by
 have hb:=szW_bd w0
 have ho:IntKind.i64.wrap (oldN (szW w0))=oldN (szW w0):=wrap_ok (by unfold oldN; omega) (by unfold oldN; omega)
 refine wen Tryz.func171 9 ?_
 gi_wp2
 refine wcw (wLen w0 hw0 _) ?_
 rintro e w1 ⟨rfl,rfl⟩
 gi_wp2
 refine wcw (wOlder (szW w0) hb _) ?_
 rintro e w1 ⟨rfl,rfl⟩
 gi_wp2
 exact bodyPost_ret (results_tmp rfl _ _ _) rfl ⟨rfl,rfl⟩
theorem smany (n:Nat) (h:w.cell? ⟨bp,12,none⟩=some (.int .i64 mn)) : CallsIn Fence.wide n Tryz.prog 100 #[.pointer (some ⟨bp,0,none⟩)] w fun e w'=>e=.returned (.int .i64 mn)∧w'=w:=by
 refine wen Tryz.func100 8 ?_
 gi_wp2
 exact bodyPost_ret (results_tmp rfl _ _ _) rfl ⟨rfl,rfl⟩
theorem slook (n:Nat) (hv:v < c.n) (hm:MemOk c mm) (h:Ev.Hold ctx (seB c p v bp lp st w0 bv mn::memA bm mm::r) w) :
  CallsIn Fence.wide n Tryz.prog 167 #[.pointer (some ⟨bp,0,none⟩),.pointer (some ⟨bm,0,none⟩)] w fun e w'=>e=.returned (.tuple #[])∧∃ bv',Ev.Hold ctx (seB c p v bp lp (if szW (ld mm (c.word v))=0∨(c.q:Int) < szW (ld mm (c.word v)) then 0 else 2) (ld mm (c.word v)) bv' mn::memA bm mm.tick::isA bv' []::r) w':=by
 obtain ⟨hx,ha⟩:=hm.at_ (hm.lt_word hv)
 have hu:=(hm.get (hm.lt_word hv)).2
 obtain ⟨x,hxe⟩ : ∃ x,ld mm (c.word v)=x:=⟨_,rfl⟩
 rw [hxe] at hx hu ⊢
 have z:=c.qb
 have hq:IntKind.u32.wrap (c.q:Int)=(c.q:Int):=by rw [wrap32]; omega
 obtain ⟨y,hy⟩ : ∃ y:Int,(if szW x=0∨(c.q:Int) < szW x then 0 else 2)=y:=⟨_,rfl⟩
 have hy2:(szW x=0∧y=0)∨(¬ szW x=0∧(c.q:Int) < szW x∧y=0)∨(¬ szW x=0∧¬ (c.q:Int) < szW x∧y=2):=by
  split at hy <;> omega
 rw [hy]
 clear hy hxe
 have hd:=hold_keep h (Below.refl _ _).drew
 refine wen Tryz.func167 49 ?_
 gi_upto_region 0 with fail
 refine wpIn_wide.2 ?_
 go_region_held3 (seC c v bp) ((first | exact sec hd | exact sec h1 | exact sec h2 | exact sec (hold_set 10 (.int .u64 x) h2) | fail)) ((first
  | (have hcon:=word_ok c v hv w.drew; (with_reducible refine hcon.mono ?_); clear hcon; rintro e w1 ⟨rfl,b1⟩; have h1:=hold_keep hd b1)
  | (have hcon:=callsIn_wide.1 (load_in 0 hx ha (hold_swap h1)); (with_reducible refine hcon.mono ?_); clear hcon; rintro e w2 ⟨rfl,h2⟩; replace h2:=hold_swap h2; have x8:=blkc h2 10 _; have f8:=froz_of (hold_blk h2) 10)))
 have h3:=hold_set 10 (.int .u64 x) h2
 have y1:=blkc h3 1 _
 obtain ⟨b4,W4,r4,h4⟩:=imk0 (n:=c.q) (by omega) h3
 replace h4:=hold_up [_] h4
 have x11:=blkc h4 11 _
 have f11:=froz_of (hold_blk h4) 11
 have h5:=hold_set 11 (.slice (some ⟨b4,0,none⟩) 0 c.q) h4
 have x9:=blkc h5 9 _
 have f9:=froz_of (hold_blk h5) 9
 have h6:=hold_set 9 (.int .i64 2) h5
 have z10:=blkc h6 10 _
 have z1:=blkc h6 1 _
 have z9:=blkc h6 9 _
 have g9:=froz_of (hold_blk h6) 9
 have h7:=hold_set 9 (.int .i64 0) h6
 gi_wp2
 refine wcw (wLen _ hu _) ?_
 rintro e w3 ⟨rfl,rfl⟩
 rcases hy2 with ⟨e,rfl⟩ | ⟨e,e2,rfl⟩ | ⟨e,e2,rfl⟩
 ·have hb:(szW x == 0)=true:=by simpa using e
  gi_wp2
  exact bodyPost_end (results_none rfl _ _ _) rfl ⟨rfl,_,hsel [_,_,_] h7 [0,2,1]⟩
 ·have hb:(szW x == 0)=false:=by simpa using e
  gi_wp2
  exact bodyPost_end (results_none rfl _ _ _) rfl ⟨rfl,_,hsel [_,_,_] h7 [0,2,1]⟩
 ·have hb:(szW x == 0)=false:=by simpa using e
  gi_wp2
  exact bodyPost_end (results_none rfl _ _ _) rfl ⟨rfl,_,hsel [_,_,_] h6 [0,2,1]⟩
end
end Go.Proofs.YtkmccgombmogmaaGreat
