/- Part of a proof: see the last text. -/
import Derived.Test.YtkmccgombmogmaaGreatZk1
import Derived.RangeFuncNested
import Derived.RangeFuncBound
import Derived.RangeFuncCalls
import Derived.RangeFuncLeaves
import Derived.RangeFuncBox
import Derived.Maps.AppendAt
import Derived.Shelf.Abstract
import Derived.Shelf.RegionOpen
import Derived.TacticsInMore
import Derived.LoopNIn
import Derived.LoopIn
import Derived.Sort.CutIn
namespace Go.Proofs.YtkmccgombmogmaaGreat
open Go.RowKit
set_option linter.unusedVariables false
set_option linter.unusedSimpArgs false
set_option maxRecDepth 8000
theorem Cfg.room (c:Cfg) : bits .and .i64 (c.q:Int) ((c.q:Int) - 1)=0:=by
 have h:=(right_parts c.h).2.1
 rcases h with h | h | h | h | h | h <;> (rw [h]; decide +kernel)
theorem bits_mod {q:Nat} (hq:q=2∨q=4∨q=8∨q=16∨q=32∨q=64) {i:Int} (hi:0≤i∧i < 4294967296) : bits .and .i64 i ((q:Int) - 1)=i % (q:Int):=by
 obtain ⟨n,rfl⟩:=Int.eq_ofNat_of_zero_le hi.1
 have h1:n < 4294967296:=by omega
 have key:∀ k:Nat,k≤6→q=2 ^ k→bits .and .i64 (n:Int) ((q:Int) - 1)=((n % q:Nat) : Int):=by
  intro k hk e
  have hq1:1≤q:=by rcases hq with h | h | h | h | h | h <;> omega
  have hq2:q≤64:=by rcases hq with h | h | h | h | h | h <;> omega
  have e1:((n:Int) % 18446744073709551616).toNat=n:=by omega
  have e2:(((q:Int) - 1) % 18446744073709551616).toNat=q - 1:=by omega
  have e3:n &&& (q - 1)=n % q:=by rw [e]; exact Nat.and_two_pow_sub_one_eq_mod n k
  have e4:(BitVec.ofInt 64 (n:Int) &&& BitVec.ofInt 64 ((q:Int) - 1)).toNat=n % q:=by
   simp only [BitVec.toNat_and,BitVec.toNat_ofInt]
   rw [show ((2 ^ 64:Nat) : Int)=18446744073709551616 by rfl,e1,e2,e3]
  show IntKind.i64.wrap ((BitVec.ofInt 64 (n:Int) &&& BitVec.ofInt 64 ((q:Int) - 1)).toNat:Int)=_
  rw [e4]
  have:=Nat.mod_lt n (show 0 < q by omega)
  exact wrap_ok (by omega) (by omega)
 have e5:((n % q:Nat) : Int)=(n:Int) % (q:Int):=Int.natCast_emod n q
 rw [← e5]
 rcases hq with h | h | h | h | h | h
 ·exact key 1 (by decide) h
 ·exact key 2 (by decide) h
 ·exact key 3 (by decide) h
 ·exact key 4 (by decide) h
 ·exact key 5 (by decide) h
 ·exact key 6 (by decide) h
theorem room_ok (c:Cfg) (w:World) : Calls Tryz.prog 61 #[.int .i64 (c.q:Int)] w fun e w'=>e=.returned (.bool true)∧w=w':=by
 have h1:=c.qb
 have h2:(2:Int)≤(c.q:Int):=by omega
 have h3:(c.q:Int)≤65536:=by omega
 have h4:IntKind.i64.wrap ((c.q:Int) - 1)=(c.q:Int) - 1:=wrap_ok (by omega) (by omega)
 have h5:=c.room
 go_enter Tryz.func61,Tryz.ntmps61
 go_wp2
 go_ret
 exact ⟨rfl,rfl⟩
theorem wslot_ok (c:Cfg) {i:Int} (hi:0≤i∧i < 4294967296) (w:World) : Calls Tryz.prog 106 #[.int .u32 i,.int .i64 (c.q:Int)] w fun e w'=>e=.returned (.int .i64 ((c.slotI i:Nat) : Int))∧w=w':=by
 have h1:=c.qb
 have h4:IntKind.i64.wrap ((c.q:Int) - 1)=(c.q:Int) - 1:=wrap_ok (by omega) (by omega)
 have h6:IntKind.i64.wrap i=i:=wrap_ok (by omega) (by omega)
 have h7:=(right_parts c.h).2.1
 have h5:=bits_mod (q:=c.q) (by omega) hi
 have h8:i % (c.q:Int)=((c.slotI i:Nat) : Int):=by
  have:=Int.emod_nonneg i (show (c.q:Int) ≠ 0 by omega)
  unfold Cfg.slotI
  omega
 go_enter Tryz.func106,Tryz.ntmps106
 go_wp2_with (first | (go_at_call 61; refine (room_ok c _).mono ?_; rintro e w' ⟨rfl,rfl⟩))
 go_ret
 exact ⟨rfl,rfl⟩
end Go.Proofs.YtkmccgombmogmaaGreat
namespace Go.Proofs.YtkmccgombmogmaaGreat
open Go.RowKit
set_option linter.unusedVariables false
set_option linter.unusedSimpArgs false
set_option maxRecDepth 8000
attribute [local go_sem] Oper.semAt_some
theorem dlen_at (m:Nat) {b:Nat} {x:Int} (hx:U64 x) {w:World} (e0:w.cell? ⟨b,0,none⟩=some (.int .u64 x)) :
  CallsIn Fence.wide m Tryz.prog 94 #[.pointer (some ⟨b,0,none⟩)] w fun e w'=>e=.returned (.int .i64 (szW x))∧w'=w:=by
 have hbd:=szW_bd x
 have hw:IntKind.i64.wrap (szW x)=szW x:=wrap_ok (by omega) (by omega)
 have hel:CallsIn Fence.wide (m - 1) Tryz.prog 112 #[.pointer (some ⟨b,0,none⟩)] w fun e w'=>e=.returned (.int .i64 (szW x))∧w'=w:=by
  refine callsIn_of_wp Tryz.func112 rfl trivial ?_ rfl
  simp only [Tryz.ntmps112,List.size_toArray,List.length_cons,List.length_nil,Nat.reduceAdd,Nat.reduceSub,Array.replicate_succ,Array.replicate_zero,List.push_toArray,List.append_toArray,List.nil_append,List.cons_append]
  gi_wp2
  refine ⟨trivial,fun h=>by simp [Fence.wide] at h,(callsIn_wide.2 (wLen x hx w)).mono ?_⟩
  rintro e w2 ⟨rfl,rfl⟩
  gi_wp2
  exact bodyPost_ret (results_tmp rfl _ _ _) rfl ⟨rfl,rfl⟩
 refine callsIn_of_wp Tryz.func94 rfl trivial ?_ rfl
 simp only [Tryz.ntmps94,List.size_toArray,List.length_cons,List.length_nil,Nat.reduceAdd,Nat.reduceSub,Array.replicate_succ,Array.replicate_zero,List.push_toArray,List.append_toArray,List.nil_append,List.cons_append]
 gi_wp2
 refine ⟨trivial,fun h=>by simp [Fence.wide] at h,hel.mono ?_⟩
 rintro e w2 ⟨rfl,rfl⟩
 gi_wp2
 exact bodyPost_ret (results_tmp rfl _ _ _) rfl ⟨rfl,rfl⟩
def dqI (c:Cfg) (x:Int) (sl:List Int) (i:Nat) : Int:=sl.getD (c.slotI ((hdW x+(i:Int)) % 4294967296)) 0
set_option maxHeartbeats 2000000 in
theorem fr_in (m l n₀ Bk Bd b:Nat) {c:Cfg} {x:Int} {sl:List Int} {bs off cc k:Nat} (hx:U64 x) (hz:szW x≤64) (hk:(k:Int)≤szW x) {w0:World} (J Jx:List Int→World→Prop)
  (hfa:∀ W,Below n₀ w0 W→W.cell? ⟨Bk,0,none⟩=some (.int .i64 (k:Int))∧W.cell? ⟨Bd,0,none⟩=some (.pointer (some ⟨b,0,none⟩))∧W.cell? ⟨b,0,none⟩=some (.int .u64 x)∧W.cell? ⟨b,1,none⟩=some (.slice (some ⟨bs,off,none⟩) c.q cc)∧∀ j,j < c.q→W.cell? ⟨bs,off+j,none⟩=some (.int .i64 (sl.getD j 0)))
  (hY:∀ m pre (y:Int) W1,J pre W1→pre.length < 100→YieldAt Fence.wide m Tryz.prog l #[.int .i64 y] W1 fun e W'=>(e=.returned (.bool true)∧J (pre++[y]) W'∧Below n₀ W1 W')∨(e=.returned (.bool false)∧Jx (pre++[y]) W'))
  (hJd:∀ s W,J s W→J s W.drew) (W:World) (hW:Below n₀ w0 W) (h0:J [] W) :
  CallsIn Fence.wide m Tryz.prog 105 #[.func (.yield l) #[] #[],.pointer (some ⟨Bk,0,none⟩),.pointer (some ⟨Bd,0,none⟩)] W fun e W' =>
   (∃ v,e=.returned v)∧(J ((List.range ((szW x).toNat - k)).map (fun i=>dqI c x sl (k+i))) W'∨∃ q,Jx q W'):=by
 refine callsIn_of_wp Tryz.func105 rfl trivial ?_ rfl
 simp only [Tryz.ntmps105,List.size_toArray,List.length_cons,List.length_nil,Nat.reduceAdd,Nat.reduceSub,Array.replicate_succ,Array.replicate_zero,List.push_toArray,List.append_toArray,List.nil_append,List.cons_append]
 have hq:=c.qb
 have hbd:=szW_bd x
 obtain ⟨n,hn⟩ : ∃ n:Nat,szW x=(n:Int):=⟨(szW x).toNat,by omega⟩
 rw [hn] at hz hk hbd ⊢
 rw [Int.toNat_natCast]
 obtain ⟨d0,_⟩:=hfa W hW
 gi_wp2
 gi_loopw [4] (fun q wr=>∃ i:Nat,q=.int .i64 (i:Int)∧k≤i∧i≤n∧J ((List.range (i - k)).map (fun j=>dqI c x sl (k+j))) wr∧Below n₀ w0 wr) (fun q _=>n - (intOf q).toNat)
 case atStart=>exact ⟨k,rfl,Nat.le_refl _,by omega,by rw [Nat.sub_self]; exact h0,hW⟩
 case round =>
  obtain ⟨i,rfl,hki,hin,hJ,hB⟩:=hrel
  obtain ⟨f0,f1,f2,f3,f4⟩:=hfa wr hB
  have hlen:=dlen_at (m - 1) hx f2
  rw [hn] at hlen
  gi_wp2
  refine ⟨trivial,fun h=>by simp [Fence.wide] at h,hlen.mono ?_⟩
  clear hlen
  rintro e w2 ⟨rfl,hw2⟩
  replace hw2:=hw2.symm
  subst hw2
  by_cases hlt:i < n
  ·have hlI:(i:Int) < (n:Int):=by omega
   gi_upto_region 3 with fail
   have hi32:IntKind.u32.wrap ((i:Nat) : Int)=(i:Int):=by rw [wrap32]; omega
   obtain ⟨v,hv⟩ : ∃ v,(hdW x+(i:Int)) % 4294967296=v:=⟨_,rfl⟩
   have hadd:IntKind.u32.wrap (hdW x+(i:Int))=v:=by rw [wrap32,hv]
   have hvb:0≤v∧v < 4294967296:=by omega
   obtain ⟨si,hsi⟩ : ∃ si,c.slotI v=si:=⟨_,rfl⟩
   have hsl:si < c.q:=by rw [← hsi]; exact c.slotI_lt v
   have hslI:((si:Nat) : Int) < ((c.q:Nat) : Int):=by omega
   have hel:sl.getD si 0=dqI c x sl i:=by unfold dqI; rw [hv,hsi]
   obtain ⟨y,hy0⟩ : ∃ y,dqI c x sl i=y:=⟨_,rfl⟩
   rw [hy0] at hel
   have hwl:=wslot_ok c hvb wr.drew
   rw [hsi] at hwl
   refine AnyS.region (S:=fun W=>Below n₀ w0 W) (T:=22) (by kernel_rfl) ?_
   have hS:Below n₀ w0 wr.drew:=hB.drew
   refine AnyS.take (i:=0) (v:=.func (.yield l) #[] #[]) [0,22] rfl (by kernel_rfl) (by kernel_rfl) (by kernel_rfl) (by kernel_rfl) (fun _ _ _ h=>h) (Or.inl ⟨by rfl,by (intro w hSw; obtain ⟨s0,s1,s2,s3,s4⟩:=hfa w hSw; have s5:=s4 si hsl; rw [hel] at s5; clear s4 hfa f4; go_simp)⟩) hS ?_
   try simp only [Act.put,List.getElem_toArray,List.getElem_cons_succ,List.getElem_cons_zero,List.setIfInBounds_toArray,List.set_cons_zero,List.set_cons_succ]
   refine AnyS.take (i:=1) (v:=.pointer (some ⟨b,0,none⟩)) [1,2,3,4,20,21,22] rfl (by kernel_rfl) (by kernel_rfl) (by kernel_rfl) (by kernel_rfl) (fun _ _ _ h=>h) (Or.inl ⟨by rfl,by (intro w hSw; obtain ⟨s0,s1,s2,s3,s4⟩:=hfa w hSw; have s5:=s4 si hsl; rw [hel] at s5; clear s4 hfa f4; go_simp)⟩) hS ?_
   try simp only [Act.put,List.getElem_toArray,List.getElem_cons_succ,List.getElem_cons_zero,List.setIfInBounds_toArray,List.set_cons_zero,List.set_cons_succ]
   refine AnyS.take (i:=2) (v:=.pointer (some ⟨b,0,none⟩)) [2,3,4,20,21,22] rfl (by kernel_rfl) (by kernel_rfl) (by kernel_rfl) (by kernel_rfl) (fun _ _ _ h=>h) (Or.inl ⟨by rfl,by (intro w hSw; obtain ⟨s0,s1,s2,s3,s4⟩:=hfa w hSw; have s5:=s4 si hsl; rw [hel] at s5; clear s4 hfa f4; go_simp)⟩) hS ?_
   try simp only [Act.put,List.getElem_toArray,List.getElem_cons_succ,List.getElem_cons_zero,List.setIfInBounds_toArray,List.set_cons_zero,List.set_cons_succ]
   refine AnyS.take (i:=3) (v:=.pointer (some ⟨b,1,none⟩)) [3,4,20,21,22] rfl (by kernel_rfl) (by kernel_rfl) (by kernel_rfl) (by kernel_rfl) (fun _ _ _ h=>h) (Or.inl ⟨by rfl,by (intro w hSw; obtain ⟨s0,s1,s2,s3,s4⟩:=hfa w hSw; have s5:=s4 si hsl; rw [hel] at s5; clear s4 hfa f4; go_simp)⟩) hS ?_
   try simp only [Act.put,List.getElem_toArray,List.getElem_cons_succ,List.getElem_cons_zero,List.setIfInBounds_toArray,List.set_cons_zero,List.set_cons_succ]
   refine AnyS.take (i:=4) (v:=.slice (some ⟨bs,off,none⟩) c.q cc) [4,20,21,22] rfl (by kernel_rfl) (by kernel_rfl) (by kernel_rfl) (by kernel_rfl) (fun _ _ _ h=>h) (Or.inl ⟨by rfl,by (intro w hSw; obtain ⟨s0,s1,s2,s3,s4⟩:=hfa w hSw; have s5:=s4 si hsl; rw [hel] at s5; clear s4 hfa f4; go_simp)⟩) hS ?_
   try simp only [Act.put,List.getElem_toArray,List.getElem_cons_succ,List.getElem_cons_zero,List.setIfInBounds_toArray,List.set_cons_zero,List.set_cons_succ]
   refine AnyS.take (i:=5) (v:=.pointer (some ⟨b,0,none⟩)) [5,6,7,8,9,10,13,19,20,21,22] rfl (by kernel_rfl) (by kernel_rfl) (by kernel_rfl) (by kernel_rfl) (fun _ _ _ h=>h) (Or.inl ⟨by rfl,by (intro w hSw; obtain ⟨s0,s1,s2,s3,s4⟩:=hfa w hSw; have s5:=s4 si hsl; rw [hel] at s5; clear s4 hfa f4; go_simp)⟩) hS ?_
   try simp only [Act.put,List.getElem_toArray,List.getElem_cons_succ,List.getElem_cons_zero,List.setIfInBounds_toArray,List.set_cons_zero,List.set_cons_succ]
   refine AnyS.take (i:=6) (v:=.pointer (some ⟨b,0,none⟩)) [6,7,8,9,10,13,19,20,21,22] rfl (by kernel_rfl) (by kernel_rfl) (by kernel_rfl) (by kernel_rfl) (fun _ _ _ h=>h) (Or.inl ⟨by rfl,by (intro w hSw; obtain ⟨s0,s1,s2,s3,s4⟩:=hfa w hSw; have s5:=s4 si hsl; rw [hel] at s5; clear s4 hfa f4; go_simp)⟩) hS ?_
   try simp only [Act.put,List.getElem_toArray,List.getElem_cons_succ,List.getElem_cons_zero,List.setIfInBounds_toArray,List.set_cons_zero,List.set_cons_succ]
   refine AnyS.take (i:=7) (v:=.pointer (some ⟨b,0,none⟩)) [7,8,9,10,13,19,20,21,22] rfl (by kernel_rfl) (by kernel_rfl) (by kernel_rfl) (by kernel_rfl) (fun _ _ _ h=>h) (Or.inl ⟨by rfl,by (intro w hSw; obtain ⟨s0,s1,s2,s3,s4⟩:=hfa w hSw; have s5:=s4 si hsl; rw [hel] at s5; clear s4 hfa f4; go_simp)⟩) hS ?_
   try simp only [Act.put,List.getElem_toArray,List.getElem_cons_succ,List.getElem_cons_zero,List.setIfInBounds_toArray,List.set_cons_zero,List.set_cons_succ]
   refine AnyS.take (i:=8) (v:=.pointer (some ⟨b,0,none⟩)) [8,9,10,13,19,20,21,22] rfl (by kernel_rfl) (by kernel_rfl) (by kernel_rfl) (by kernel_rfl) (fun _ _ _ h=>h) (Or.inl ⟨by rfl,by (intro w hSw; obtain ⟨s0,s1,s2,s3,s4⟩:=hfa w hSw; have s5:=s4 si hsl; rw [hel] at s5; clear s4 hfa f4; go_simp)⟩) hS ?_
   try simp only [Act.put,List.getElem_toArray,List.getElem_cons_succ,List.getElem_cons_zero,List.setIfInBounds_toArray,List.set_cons_zero,List.set_cons_succ]
   refine AnyS.take (i:=9) (v:=.int .u64 x) [9,10,13,19,20,21,22] rfl (by kernel_rfl) (by kernel_rfl) (by kernel_rfl) (by kernel_rfl) (fun _ _ _ h=>h) (Or.inl ⟨by rfl,by (intro w hSw; obtain ⟨s0,s1,s2,s3,s4⟩:=hfa w hSw; have s5:=s4 si hsl; rw [hel] at s5; clear s4 hfa f4; go_simp)⟩) hS ?_
   try simp only [Act.put,List.getElem_toArray,List.getElem_cons_succ,List.getElem_cons_zero,List.setIfInBounds_toArray,List.set_cons_zero,List.set_cons_succ]
   refine AnyS.take (i:=11) (v:=.int .i64 (i:Int)) [11,12,13,19,20,21,22] rfl (by kernel_rfl) (by kernel_rfl) (by kernel_rfl) (by kernel_rfl) (fun _ _ _ h=>h) (Or.inl ⟨by rfl,by (intro w hSw; obtain ⟨s0,s1,s2,s3,s4⟩:=hfa w hSw; have s5:=s4 si hsl; rw [hel] at s5; clear s4 hfa f4; go_simp)⟩) hS ?_
   try simp only [Act.put,List.getElem_toArray,List.getElem_cons_succ,List.getElem_cons_zero,List.setIfInBounds_toArray,List.set_cons_zero,List.set_cons_succ]
   refine AnyS.take (i:=12) (v:=.int .u32 (i:Int)) [12,13,19,20,21,22] rfl (by kernel_rfl) (by kernel_rfl) (by kernel_rfl) (by kernel_rfl) (fun _ _ _ h=>h) (Or.inl ⟨by rfl,by (intro w hSw; obtain ⟨s0,s1,s2,s3,s4⟩:=hfa w hSw; have s5:=s4 si hsl; rw [hel] at s5; clear s4 hfa f4; go_simp)⟩) hS ?_
   try simp only [Act.put,List.getElem_toArray,List.getElem_cons_succ,List.getElem_cons_zero,List.setIfInBounds_toArray,List.set_cons_zero,List.set_cons_succ]
   refine AnyS.take (i:=14) (v:=.pointer (some ⟨b,0,none⟩)) [14,15,16,17,18,19,20,21,22] rfl (by kernel_rfl) (by kernel_rfl) (by kernel_rfl) (by kernel_rfl) (fun _ _ _ h=>h) (Or.inl ⟨by rfl,by (intro w hSw; obtain ⟨s0,s1,s2,s3,s4⟩:=hfa w hSw; have s5:=s4 si hsl; rw [hel] at s5; clear s4 hfa f4; go_simp)⟩) hS ?_
   try simp only [Act.put,List.getElem_toArray,List.getElem_cons_succ,List.getElem_cons_zero,List.setIfInBounds_toArray,List.set_cons_zero,List.set_cons_succ]
   refine AnyS.take (i:=15) (v:=.pointer (some ⟨b,0,none⟩)) [15,16,17,18,19,20,21,22] rfl (by kernel_rfl) (by kernel_rfl) (by kernel_rfl) (by kernel_rfl) (fun _ _ _ h=>h) (Or.inl ⟨by rfl,by (intro w hSw; obtain ⟨s0,s1,s2,s3,s4⟩:=hfa w hSw; have s5:=s4 si hsl; rw [hel] at s5; clear s4 hfa f4; go_simp)⟩) hS ?_
   try simp only [Act.put,List.getElem_toArray,List.getElem_cons_succ,List.getElem_cons_zero,List.setIfInBounds_toArray,List.set_cons_zero,List.set_cons_succ]
   refine AnyS.take (i:=16) (v:=.pointer (some ⟨b,1,none⟩)) [16,17,18,19,20,21,22] rfl (by kernel_rfl) (by kernel_rfl) (by kernel_rfl) (by kernel_rfl) (fun _ _ _ h=>h) (Or.inl ⟨by rfl,by (intro w hSw; obtain ⟨s0,s1,s2,s3,s4⟩:=hfa w hSw; have s5:=s4 si hsl; rw [hel] at s5; clear s4 hfa f4; go_simp)⟩) hS ?_
   try simp only [Act.put,List.getElem_toArray,List.getElem_cons_succ,List.getElem_cons_zero,List.setIfInBounds_toArray,List.set_cons_zero,List.set_cons_succ]
   refine AnyS.take (i:=17) (v:=.slice (some ⟨bs,off,none⟩) c.q cc) [17,18,19,20,21,22] rfl (by kernel_rfl) (by kernel_rfl) (by kernel_rfl) (by kernel_rfl) (fun _ _ _ h=>h) (Or.inl ⟨by rfl,by (intro w hSw; obtain ⟨s0,s1,s2,s3,s4⟩:=hfa w hSw; have s5:=s4 si hsl; rw [hel] at s5; clear s4 hfa f4; go_simp)⟩) hS ?_
   try simp only [Act.put,List.getElem_toArray,List.getElem_cons_succ,List.getElem_cons_zero,List.setIfInBounds_toArray,List.set_cons_zero,List.set_cons_succ]
   refine AnyS.take (i:=18) (v:=.int .i64 (c.q:Int)) [18,19,20,21,22] rfl (by kernel_rfl) (by kernel_rfl) (by kernel_rfl) (by kernel_rfl) (fun _ _ _ h=>h) (Or.inl ⟨by rfl,by (intro w hSw; obtain ⟨s0,s1,s2,s3,s4⟩:=hfa w hSw; have s5:=s4 si hsl; rw [hel] at s5; clear s4 hfa f4; go_simp)⟩) hS ?_
   try simp only [Act.put,List.getElem_toArray,List.getElem_cons_succ,List.getElem_cons_zero,List.setIfInBounds_toArray,List.set_cons_zero,List.set_cons_succ]
   refine AnyS.one (i:=10) (by kernel_rfl) ?_
   refine wants_op rfl (by rfl) ?_
   gi_wp2
   refine ⟨trivial,fun h=>by simp [Fence.wide] at h,(callsIn_wide.2 (wHead x hx _)).mono ?_⟩
   rintro e w3 ⟨rfl,rfl⟩
   refine ⟨hS,?_⟩
   try simp only [Act.put,List.getElem_toArray,List.getElem_cons_succ,List.getElem_cons_zero,List.setIfInBounds_toArray,List.set_cons_zero,List.set_cons_succ]
   refine AnyS.take (i:=13) (v:=.int .u32 v) [13,19,20,21,22] rfl (by kernel_rfl) (by kernel_rfl) (by kernel_rfl) (by kernel_rfl) (fun _ _ _ h=>h) (Or.inl ⟨by rfl,by (intro w hSw; obtain ⟨s0,s1,s2,s3,s4⟩:=hfa w hSw; have s5:=s4 si hsl; rw [hel] at s5; clear s4 hfa f4; go_simp)⟩) hS ?_
   try simp only [Act.put,List.getElem_toArray,List.getElem_cons_succ,List.getElem_cons_zero,List.setIfInBounds_toArray,List.set_cons_zero,List.set_cons_succ]
   refine AnyS.one (i:=19) (by kernel_rfl) ?_
   refine wants_op rfl (by rfl) ?_
   gi_wp2
   refine ⟨trivial,fun h=>by simp [Fence.wide] at h,(callsIn_wide.2 hwl).mono ?_⟩
   rintro e w3 ⟨rfl,rfl⟩
   refine ⟨hS,?_⟩
   try simp only [Act.put,List.getElem_toArray,List.getElem_cons_succ,List.getElem_cons_zero,List.setIfInBounds_toArray,List.set_cons_zero,List.set_cons_succ]
   refine AnyS.take (i:=20) (v:=.pointer (some ⟨bs,off+si,none⟩)) [20,21,22] rfl (by kernel_rfl) (by kernel_rfl) (by kernel_rfl) (by kernel_rfl) (fun _ _ _ h=>h) (Or.inl ⟨by rfl,by (intro w hSw; obtain ⟨s0,s1,s2,s3,s4⟩:=hfa w hSw; have s5:=s4 si hsl; rw [hel] at s5; clear s4 hfa f4; go_simp)⟩) hS ?_
   try simp only [Act.put,List.getElem_toArray,List.getElem_cons_succ,List.getElem_cons_zero,List.setIfInBounds_toArray,List.set_cons_zero,List.set_cons_succ]
   refine AnyS.take (i:=21) (v:=.int .i64 y) [21,22] rfl (by kernel_rfl) (by kernel_rfl) (by kernel_rfl) (by kernel_rfl) (fun _ _ _ h=>h) (Or.inl ⟨by rfl,by (intro w hSw; obtain ⟨s0,s1,s2,s3,s4⟩:=hfa w hSw; have s5:=s4 si hsl; rw [hel] at s5; clear s4 hfa f4; go_simp)⟩) hS ?_
   try simp only [Act.put,List.getElem_toArray,List.getElem_cons_succ,List.getElem_cons_zero,List.setIfInBounds_toArray,List.set_cons_zero,List.set_cons_succ]
   refine AnyS.one (i:=22) (by kernel_rfl) ?_
   refine wants_op rfl (by rfl) ?_
   obtain ⟨fn,tmps,assign,body,hy,hR⟩:=hY (m - 1) _ y _ (hJd _ _ hJ) (by simp; omega)
   gi_wp2
   refine ⟨fun h=>by simp [Fence.wide] at h,hR.mono ?_⟩
   rintro e W3 (⟨rfl,hJ3,hk4⟩ | ⟨rfl,hJx3⟩)
   ·first | refine ⟨hS.trans hk4,?_⟩ | refine ⟨.inr (hS.trans hk4),?_⟩ | skip
    try simp only [Act.put,List.getElem_toArray,List.getElem_cons_succ,List.getElem_cons_zero,List.setIfInBounds_toArray,List.set_cons_zero,List.set_cons_succ]
    refine AnyS.one (i:=23) (by kernel_rfl) ?_
    refine wants_op rfl (by rfl) ?_
    gi_wp2
    first | refine ⟨hS.trans hk4,?_⟩ | refine ⟨.inr (hS.trans hk4),?_⟩ | skip
    try simp only [Act.put,List.getElem_toArray,List.getElem_cons_succ,List.getElem_cons_zero,List.setIfInBounds_toArray,List.set_cons_zero,List.set_cons_succ]
    refine AnyS.done (by kernel_rfl) ?_ _
    gi_wp2
    go_roundw
    case rel =>
     refine ⟨i+1,rfl,by omega,by omega,?_,hS.trans hk4⟩
     rw [show i+1 - k=(i - k)+1 by omega,List.range_succ,List.map_append,List.map_cons,List.map_nil,show k+(i - k)=i by omega,hy0]
     exact hJ3
    case measure=>simp [intOf]; omega
   ·first | refine ⟨.inl (by kernel_rfl),?_⟩ | skip
    try simp only [Act.put,List.getElem_toArray,List.getElem_cons_succ,List.getElem_cons_zero,List.setIfInBounds_toArray,List.set_cons_zero,List.set_cons_succ]
    refine AnyS.one (i:=23) (by kernel_rfl) ?_
    refine wants_op rfl (by rfl) ?_
    gi_wp2
    first | refine ⟨.inl (by kernel_rfl),?_⟩ | skip
    try simp only [Act.put,List.getElem_toArray,List.getElem_cons_succ,List.getElem_cons_zero,List.setIfInBounds_toArray,List.set_cons_zero,List.set_cons_succ]
    refine AnyS.done (by kernel_rfl) ?_ _
    gi_wp2
    exact bodyPost_ret (results_none rfl _ _ _) rfl ⟨⟨_,rfl⟩,.inr ⟨_,hJx3⟩⟩
  ·obtain rfl:i=n:=by omega
   have hlI:¬ ((i:Nat) : Int) < (i:Int):=by omega
   gi_wp2
   exact bodyPost_end (results_none rfl _ _ _) rfl ⟨⟨_,rfl⟩,.inl hJ⟩
end Go.Proofs.YtkmccgombmogmaaGreat
namespace Go.Proofs.YtkmccgombmogmaaGreat
open Go.RowKit
set_option linter.unusedVariables false
set_option linter.unusedSimpArgs false
set_option maxRecDepth 8000
attribute [local go_sem] Oper.semAt_some
theorem infI:(Tryz.prog.info? 3).map (fun i=>(i.zero,i.size,i.bytes))=some (some (.int .i64 0),1,8):=by kernel_rfl
theorem cell_one_at (w:World) (x:Value) (t:TypeId) : ∀ j u,[x][j]? = some u→(w.alloc (.cells #[x] t)).cell? ((⟨w.heap.size,0,none⟩ : Addr).add j)=some u:=by
 intro j u hj
 match j,hj with
 | 0,hj=>simp at hj; subst hj; simp [Addr.add]
theorem yield_wide {m m':Nat} {P:Program} {l:Nat} {args:Array Value} {W:World} {R:Ending→World→Prop} (h:YieldAt Fence.wide m P l args W R) : YieldAt Fence.wide m' P l args W R:=by
 obtain ⟨fn,tmps,assign,body,h1,h2⟩:=h
 exact ⟨fn,tmps,assign,body,h1,h2.1,fun c cs _=>h2.2 c cs (room_wide _)⟩
set_option maxHeartbeats 2000000 in
theorem aps_in (Bk Bd b:Nat) {c:Cfg} {x:Int} {sl:List Int} {bs off cc k:Nat} (hx:U64 x) (hz:szW x≤64) (hk:(k:Int)≤szW x) (w:World)
  (hfa:∀ W,Below w.heap.size w W→W.cell? ⟨Bk,0,none⟩=some (.int .i64 (k:Int))∧W.cell? ⟨Bd,0,none⟩=some (.pointer (some ⟨b,0,none⟩))∧W.cell? ⟨b,0,none⟩=some (.int .u64 x)∧W.cell? ⟨b,1,none⟩=some (.slice (some ⟨bs,off,none⟩) c.q cc)∧∀ j,j < c.q→W.cell? ⟨bs,off+j,none⟩=some (.int .i64 (sl.getD j 0))) :
  CallsIn Fence.wide 8 Tryz.prog 104 #[.slice none 0 0,.func (.func 105) #[] #[.pointer (some ⟨Bk,0,none⟩),.pointer (some ⟨Bd,0,none⟩)]] w fun e w' =>
   ∃ v,e=.returned v∧w'.ownsRow w.heap.size 3 1 v ((szW x).toNat - k) (ints ((List.range ((szW x).toNat - k)).map (fun i=>dqI c x sl (k+i))))∧Below w.heap.size w w':=by
 refine callsIn_of_wp_marks Tryz.func104 rfl trivial ?_ rfl
 simp only [Tryz.ntmps104,List.size_toArray,List.length_cons,List.length_nil,Nat.reduceAdd,Nat.reduceSub,Array.replicate_succ,Array.replicate_zero,List.push_toArray,List.append_toArray,List.nil_append,List.cons_append]
 obtain ⟨W0,hW0⟩ : ∃ W0,w.alloc (.cells #[.slice none 0 0] 35)=W0:=⟨_,rfl⟩
 have hsz:W0.heap.size=w.heap.size+1:=by rw [← hW0]; simp
 have hB0:Below w.heap.size w W0:=by rw [← hW0]; exact (Below.refl _ w).alloc (Nat.le_refl _) _
 have hlx:Boxed W0 w.heap.size 35 (.slice none 0 0):=by rw [← hW0]; exact Boxed.new w 35 (.slice none 0 0)
 gi_wp2
 have hseq:SeqStopsK Fence.wide 7 Tryz.prog 105 #[.pointer (some ⟨Bk,0,none⟩),.pointer (some ⟨Bd,0,none⟩)] (fun y:Int=>#[.int .i64 y]) (Below w.heap.size) (fun xs=>xs=(List.range ((szW x).toNat - k)).map (fun i=>dqI c x sl (k+i))) (fun _=>True) 100 W0:=by
  intro l J Jx W hW hJ hJx hY h0
  refine (fr_in 7 l w.heap.size Bk Bd b hx hz hk (w0:=w) J Jx hfa (fun m pre y W1 hJ1 hlen=>yield_wide (hY pre y W1 hJ1 hlen)) (fun s W hs=>hJ s W W.drew none hs ⟨rfl,rfl,rfl,Nat.le_refl _,fun _ _ _=>rfl⟩ (fun r e=>by cases e)) W (hB0.trans (hW.mono (by omega))) h0).mono ?_
  rintro e W' ⟨hv,h | ⟨q,h⟩⟩
  ·exact ⟨hv,.inl ⟨_,rfl,h⟩⟩
  ·exact ⟨hv,.inr ⟨q,trivial,h⟩⟩
 refine wpIn_rangeFunc_ownH rfl (by decide) (gf := 105) (lb:=#[.pointer (some ⟨Bk,0,none⟩),.pointer (some ⟨Bd,0,none⟩)]) rfl trivial (enters_of Tryz.func105 (by kernel_rfl) rfl)
  hseq belowK_t (belowK_b (w:=W0) (by omega)) (Below.refl _ _) (fun _=>rfl)
  (fun pre W=>(∃ v,Boxed W w.heap.size 35 v∧W.ownsRow w.heap.size 3 1 v pre.length (ints pre)∧True)∧Below w.heap.size w W∧w.heap.size+1≤W.heap.size)
  (fun _ _ _=>False) ?hI (fun _ _ _ _ _ hs _ _=>hs) ⟨⟨_,hlx,World.ownsRow_nil _ _ _ _,trivial⟩,hB0,by omega⟩
  (fun y a' W=>a' = { tmps:=#[.slice none 0 0,.func (.func 105) #[] #[.pointer (some ⟨Bk,0,none⟩),.pointer (some ⟨Bd,0,none⟩)],.pointer (some ⟨w.heap.size,0,none⟩),undef,.slice none 0 0,.int .i64 y,.func (.func 105) #[] #[.pointer (some ⟨Bk,0,none⟩),.pointer (some ⟨Bd,0,none⟩)],.int .i64 y,undef,undef,undef,undef,undef],defers:=[] }) ?hAx ?assign ?body ?done ?stop
 case hI =>
  rintro pre A B row ⟨p1,p3,p5⟩ hgr hrow
  refine ⟨holdsRow_own w.heap.size w.heap.size 35 3 1 (fun pre=>pre.length) (fun pre=>ints pre) (fun _ _=>True) pre A B row p1 hgr (fun r e=>(hrow r e).2),p3.grown hgr p3.size (fun k e=>?_),Nat.le_trans p5 hgr.size⟩
  have:=(hrow k e).1
  omega
 case hAx=>exact fun y a' _ A B row h _ _=>h
 case assign =>
  rintro l pre y W K hI hK
  gi_wp2
  exact hK _ _ (KeepsFrom.refl _ _) (Below.refl _ _) hI rfl
 case body =>
  rintro l pre y a' W hl hr ⟨⟨v,p1,p2,_⟩,p4,hsw⟩ rfl hlen
  have c2:=p1.cell
  obtain ⟨i0,hi,hz0,hz1,hz2⟩:=info_parts infI
  gi_wp2_with (gi_at_builtin; refine wpListIn_append_own _ rfl _ _ 35 rfl w.heap.size 3 i0 (.int .i64 0) 1 8 Tryz.underlying35 hi hz0 hz1 hz2 rfl (by decide) _ _ _ rfl (p2.alloc _) ⟨W.heap.size,0,none⟩ 1 1 [.int .i64 y] rfl rfl (cell_one_at _ _ _) (by simp [Value.oneCell']) (by unfold maxLen; omega) (by omega) (by simp; omega) ?_; intro v' w1 hown' hgrow _; obtain ⟨g',cap',rfl⟩:=ownsRow_succ hown'; obtain ⟨hv1,hv2,hr2,hk2,hb2⟩:=p1.appended (by decide) p2 (by omega:w.heap.size≤W.heap.size) (by omega) hown' hgrow; have d1:=hv1.cell; have d2:=hv1.frozen)
  refine ⟨hk2.from _,hb2,⟨_,hv2,?_,trivial⟩,p4.trans hb2,Nat.le_trans hsw hb2.size⟩
  rw [List.length_append,show ints (pre++[y])=ints pre++[.int .i64 y] by simp [ints]]
  exact hr2
 case done =>
  rintro D ys W hD rfl ⟨⟨v,p1,p2,_⟩,p4,hsw⟩ hK
  have c1:=p1.cell
  rw [List.length_map,List.length_range] at p2
  obtain ⟨a1,k1,c2,rfl⟩ : ∃ a k c,v=.slice a k c:=by
   rcases p2.2 with ⟨rfl,_⟩ | ⟨gg,cap,cur,rfl,_⟩
   ·exact ⟨_,_,_,rfl⟩
   ·exact ⟨_,_,_,rfl⟩
  gi_wp2
  have hgp:=grownBy_putObj' W D (.deferred none)
  refine ⟨by simp,.inl ⟨_,_,rfl,run_takeDeferred hK,?_⟩⟩
  refine ⟨_,results_tmp rfl _ _ _,?_⟩
  refine ⟨_,rfl,p2.kept hgp (.inr fun ej=>?_),p4.trans (belowK_b (w:=W0) (by omega) W D _ _ (by omega) hK rfl rfl)⟩
  rcases p2.2 with ⟨e0,_⟩ | ⟨gg,cap,cur,e0,_,hb,_⟩
  ·rw [e0] at ej
   simp [Value.ownBlock] at ej
  ·rw [e0] at ej
   have:gg=D:=by simpa [Value.ownBlock] using ej
   subst this
   rw [hb] at hK
   cases hK
 case stop =>
  rintro D c pre W hD _ h _
  exact h.elim
theorem coll_in (m Bk Bd b:Nat) {c:Cfg} {x:Int} {sl:List Int} {bs off cc k:Nat} (hx:U64 x) (hz:szW x≤64) (hk:(k:Int)≤szW x) (w:World)
  (hfa:∀ W,Below w.heap.size w W→W.cell? ⟨Bk,0,none⟩=some (.int .i64 (k:Int))∧W.cell? ⟨Bd,0,none⟩=some (.pointer (some ⟨b,0,none⟩))∧W.cell? ⟨b,0,none⟩=some (.int .u64 x)∧W.cell? ⟨b,1,none⟩=some (.slice (some ⟨bs,off,none⟩) c.q cc)∧∀ j,j < c.q→W.cell? ⟨bs,off+j,none⟩=some (.int .i64 (sl.getD j 0))) :
  CallsIn Fence.wide m Tryz.prog 75 #[.func (.func 105) #[] #[.pointer (some ⟨Bk,0,none⟩),.pointer (some ⟨Bd,0,none⟩)]] w fun e w' =>
   ∃ v,e=.returned v∧w'.ownsRow w.heap.size 3 1 v ((szW x).toNat - k) (ints ((List.range ((szW x).toNat - k)).map (fun i=>dqI c x sl (k+i))))∧Below w.heap.size w w':=by
 refine callsIn_of_wp Tryz.func75 rfl trivial ?_ rfl
 simp only [Tryz.ntmps75,List.size_toArray,List.length_cons,List.length_nil,Nat.reduceAdd,Nat.reduceSub,Array.replicate_succ,Array.replicate_zero,List.push_toArray,List.append_toArray,List.nil_append,List.cons_append]
 have ha:CallsIn Fence.wide (m - 1) Tryz.prog _ _ w _:=callsIn_wide.2 (callsIn_wide.1 (aps_in Bk Bd b hx hz hk w hfa))
 gi_wp2
 refine ⟨trivial,fun h=>by simp [Fence.wide] at h,ha.mono ?_⟩
 rintro e w' ⟨v,rfl,ho,hb⟩
 gi_wp2
 exact bodyPost_ret (results_tmp rfl _ _ _) rfl ⟨v,rfl,ho,hb⟩
theorem from_in (m:Nat) {c:Cfg} {b:Nat} {x:Int} {sl:List Int} {k:Nat} (hx:U64 x) (hz:szW x≤64) (hk:(k:Int)≤szW x) {sv:Value} {ctx:Ev.Ctx} {l:List Ev.Asr} {w:World} (h:Ev.Hold ctx (Ev.blkA b [.int .u64 x,sv] 141 :: Ev.slA 3 1 sv c.q (ints sl)::l) w) :
  ∃ W1 Bk Bd,Ev.Hold ctx (Ev.blkA b [.int .u64 x,sv] 141 :: Ev.slA 3 1 sv c.q (ints sl)::l) W1 ∧
   CallsIn Fence.wide m Tryz.prog 76 #[.pointer (some ⟨b,0,none⟩),.int .i64 (k:Int)] w (fun e w'=>e=.returned (.func (.func 105) #[] #[.pointer (some ⟨Bk,0,none⟩),.pointer (some ⟨Bd,0,none⟩)])∧w'=W1) ∧
   ∀ m,CallsIn Fence.wide m Tryz.prog 75 #[.func (.func 105) #[] #[.pointer (some ⟨Bk,0,none⟩),.pointer (some ⟨Bd,0,none⟩)]] W1 (fun e w'=>∃ v,e=.returned v∧Ev.Hold ctx (isA v ((List.range ((szW x).toNat - k)).map (fun i=>dqI c x sl (k+i)))::Ev.blkA b [.int .u64 x,sv] 141 :: Ev.slA 3 1 sv c.q (ints sl)::l) w'):=by
 have hq:=c.qb
 have g0:=hold_new [.pointer (some ⟨b,0,none⟩)] 74 h
 obtain ⟨W0,hW0⟩ : ∃ W0,w.alloc (.cells #[.pointer (some ⟨b,0,none⟩)] 74)=W0:=⟨_,rfl⟩
 rw [show w.alloc (.cells ([.pointer (some ⟨b,0,none⟩)] : List Value).toArray 74)=W0 from hW0] at g0
 have g1:=hold_new [.int .i64 (k:Int)] 3 g0
 obtain ⟨W1,hW1⟩ : ∃ W1,W0.alloc (.cells #[.int .i64 (k:Int)] 3)=W1:=⟨_,rfl⟩
 rw [show W0.alloc (.cells ([.int .i64 (k:Int)] : List Value).toArray 3)=W1 from hW1] at g1
 refine ⟨W1,W0.heap.size,w.heap.size,hold_drop (r:=[_,_]) g1,?_,fun m=>?_⟩
 ·refine callsIn_of_wp Tryz.func76 rfl trivial ?_ rfl
  simp only [Tryz.ntmps76,List.size_toArray,List.length_cons,List.length_nil,Nat.reduceAdd,Nat.reduceSub,Array.replicate_succ,Array.replicate_zero,List.push_toArray,List.append_toArray,List.nil_append,List.cons_append]
  gi_wp2
  exact bodyPost_ret (results_tmp rfl _ _ _) rfl ⟨rfl,rfl⟩
 ·obtain ⟨bs,off,cc,hv,_,hl⟩:=sl_some (hold_drop (r:=[_,_,_]) g1) (by omega) (by decide)
  subst hv
  refine (coll_in (c:=c) (sl:=sl) (bs:=bs) (off:=off) (cc:=cc) m W0.heap.size w.heap.size b hx hz hk W1 (fun W hb=>?_)).mono ?_
  ·have g2:=hold_keep g1 hb
   obtain ⟨b',o',c',hv,hc,_⟩:=sl_some (hold_drop (r:=[_,_,_]) g2) (by omega) (by decide)
   cases hv
   refine ⟨cell_of (hold_blk g2) 0 _ rfl,cell_of (hold_blk (hold_drop (r:=[_]) g2)) 0 _ rfl,cell_of (hold_blk (hold_drop (r:=[_,_]) g2)) 0 _ rfl,cell_of (hold_blk (hold_drop (r:=[_,_]) g2)) 1 _ rfl,fun j hj=>?_⟩
   have hjl:j < sl.length:=by simp [ints] at hl; omega
   rw [hc j (by omega)]
   simp [ints,List.getElem?_eq_getElem hjl,List.getD_eq_getElem?_getD]
  ·rintro e w' ⟨v,rfl,ho,hb⟩
   refine ⟨v,rfl,?_⟩
   have g3:=hold_own (hold_drop (r:=[_,_]) g1) ho hb
   unfold isA
   rw [List.length_map,List.length_range]
   exact g3
end Go.Proofs.YtkmccgombmogmaaGreat
namespace Go.Proofs.YtkmccgombmogmaaGreat
open Go.RowKit
set_option linter.unusedVariables false
set_option linter.unusedSimpArgs false
set_option maxRecDepth 8000
structure DqS where
 w:Int
 sl:List Int
def dqAt (c:Cfg) (x:DqS) (i:Nat) : Int:=x.sl.getD (c.slotI ((hdW x.w+(i:Int)) % 4294967296)) 0
def dqAll (c:Cfg) (x:DqS) : List Int:=(List.range (szW x.w).toNat).map (dqAt c x)
structure DqOk (c:Cfg) (x:DqS) : Prop where
 w:U64 x.w
 sl:x.sl.length=c.q
 sz:szW x.w≤(c.q:Int)
def dqV (b:Nat) (x:DqS) (sv:Value) : Ev.Asr:=Ev.blkA b [.int .u64 x.w,sv] 141
def dqA (c:Cfg) (b:Nat) (x:DqS) : Ev.Asr:=Ev.exA (fun sv:Value=>Ev.leafV sv=true) (fun sv=>Ev.grp [dqV b x sv,Ev.slA 3 1 sv c.q (ints x.sl)])
section
variable {w:World} {F:Nat→Prop} {c:Cfg} {b:Nat} {x:DqS} {ctx:Ev.Ctx} {l:List Ev.Asr}
theorem dq_open (h:Ev.Hold ctx (dqA c b x::l) w) : ∃ sv,Ev.leafV sv=true∧Ev.Hold ctx (dqV b x sv::Ev.slA 3 1 sv c.q (ints x.sl)::l) w:=by
 obtain ⟨sv,hl,hh⟩:=h.getX
 exact ⟨sv,hl,hh.open⟩
theorem dq_close {sv:Value} (hl:Ev.leafV sv=true) (h:Ev.Hold ctx (dqV b x sv::Ev.slA 3 1 sv c.q (ints x.sl)::l) w) : Ev.Hold ctx (dqA c b x::l) w :=
 Ev.Hold.putX sv hl (Ev.Hold.shut h)
theorem dq_all (hq:c.q≤8) (hx:DqOk c x) (h:Ev.Now [dqA c b x] F w) :
  Calls Tryz.prog 44 #[.pointer (some ⟨b,0,none⟩)] w fun e w'=>∃ v,Ev.leafV v=true∧e=.returned v∧Ev.Hold ⟨w,F⟩ [isA v (dqAll c x),dqA c b x] w':=by
 obtain ⟨sv,lsv,hh⟩:=dq_open (Ev.Hold.start h)
 have hs:=hx.sz
 have hb:=szW_bd x.w
 obtain ⟨W1,Bk,Bd,h1,hf,hcl⟩:=from_in 0 (k:=0) hx.w (by omega) (by omega) hh
 have el:(List.range ((szW x.w).toNat - 0)).map (fun i=>dqI c x.w x.sl (0+i))=dqAll c x:=by
  unfold dqAll
  rw [Nat.sub_zero]
  apply List.map_congr_left
  intro i _
  rw [Nat.zero_add]
  rfl
 rw [el] at hcl
 refine (callsIn_wide (n:=1)).1 ?_
 refine callsIn_of_wp Tryz.func44 rfl trivial ?_ rfl
 simp only [Tryz.ntmps44,List.size_toArray,List.length_cons,List.length_nil,Nat.reduceAdd,Nat.reduceSub,Array.replicate_succ,Array.replicate_zero,List.push_toArray,List.append_toArray,List.nil_append,List.cons_append]
 gi_wp2
 refine ⟨trivial,hf.mono ?_⟩
 rintro e w' ⟨rfl,rfl⟩
 gi_wp2
 refine ⟨trivial,(hcl 0).mono ?_⟩
 rintro e w2 ⟨v,rfl,h2⟩
 gi_wp2
 have h3:Ev.Hold ⟨w,F⟩ (isA v (dqAll c x)::dqA c b x::[]) w2:=hold_swap (dq_close lsv (hold_up [_,_] (hold_up [_,_] h2)))
 exact bodyPost_ret (results_tmp rfl _ _ _) rfl ⟨v,hold_leaf h3,rfl,h3⟩
end
end Go.Proofs.YtkmccgombmogmaaGreat
namespace Go.Proofs.YtkmccgombmogmaaGreat
open Go.RowKit
set_option linter.unusedVariables false
set_option linter.unusedSimpArgs false
set_option maxRecDepth 8000
theorem tms {α:Type} : (∀ (n:Nat) (a:α),Array.replicate (n+1) a=(Array.replicate n a).push a)∧(∀ a:α,Array.replicate 0 a = #[])∧(∀ (a:α) (l:List α),l.toArray.push a=(l++[a]).toArray)∧(∀ l m:List α,l.toArray++m.toArray=(l++m).toArray)∧(∀ l:List α,[]++l=l)∧∀ (a:α) (l m:List α),a::l++m=a::(l++m) :=
 ⟨fun _ _=>Array.replicate_succ,fun _=>Array.replicate_zero,fun _ _=>by simp,fun _ _=>by simp,fun _=>rfl,fun _ _ _=>rfl⟩
section
variable {P:Program} {f:FuncId} {args tm:Array Value} {w:World} {R R':Ending→World→Prop} {n m k:Nat}
theorem wen {fn:Func} {c:Code} (hf:P.funcs[f]? = some fn) (k:Nat) (h:c.wpIn Fence.wide n P (bodyPost P fn R) { tmps:=tm,defers:=[] } w) (hk:fn.ntmps - args.size=k:=by kernel_rfl) (hb:fn.body=some c:=by rfl) (ht:args++Array.replicate k undef=tm:=by simp only [tms]; exact rfl) : CallsIn Fence.wide n P f args w R:=by
 subst ht hk
 exact callsIn_of_wp hf hb trivial h rfl
theorem wcl (h:CallsIn Fence.wide m P f args w R) (hk:∀ e w',R e w'→R' e w') : Fence.wide.fn f∧(Fence.wide.depth.isSome=true→1≤k)∧CallsIn Fence.wide m P f args w R':=⟨trivial,fun h=>by simp [Fence.wide] at h,h.mono hk⟩
theorem wcw (h:Calls P f args w R) (hk:∀ e w',R e w'→R' e w') : Fence.wide.fn f∧(Fence.wide.depth.isSome=true→1≤k)∧CallsIn Fence.wide m P f args w R':=wcl (callsIn_wide.2 h) hk
theorem wof (h:∀ m,CallsIn Fence.wide m P f args w R) : Calls P f args w R:=callsIn_wide.1 (h 0)
end
theorem hsel {ctx:Ev.Ctx} {r:List Ev.Asr} {w:World} (l:List Ev.Asr) (h:Ev.Hold ctx (l++r) w) (idx:List Nat) (hi:Ev.selB l.length idx=true:=by kernel_rfl) : Ev.Hold ctx (Ev.sel l idx++r) w:=by
 obtain ⟨F,n,back⟩:=hold_fr l h
 exact back _ _ ((Ev.Hold.start n).sel idx hi)
theorem newN {ctx:Ev.Ctx} {l:List Ev.Asr} {w:World} (cs:List Value) (T:TypeId) (h:Ev.Hold ctx l w) : ∃ b W,w.heap.size=b∧w.alloc (.cells cs.toArray T)=W∧Ev.Hold ctx (Ev.blkA b cs T::l) W:=⟨_,_,rfl,rfl,hold_new cs T h⟩
theorem blkc {ctx:Ev.Ctx} {b:Nat} {cs:List Value} {T:TypeId} {l:List Ev.Asr} {w:World} (h:Ev.Hold ctx (Ev.blkA b cs T::l) w) (i:Nat) (v:Value) (hv:cs[i]? = some v:=by rfl) : w.cell? ⟨b,i,none⟩=some v:=cell_of (hold_blk h) i v (by simpa using hv)
theorem below_new {w:World} (o:Obj) : Below w.heap.size w (w.alloc o):=(Below.refl _ w).alloc (Nat.le_refl _) _
end Go.Proofs.YtkmccgombmogmaaGreat
namespace Go.Proofs.YtkmccgombmogmaaGreat
open Go.RowKit
set_option linter.unusedVariables false
set_option linter.unusedSimpArgs false
set_option maxRecDepth 8000
theorem new_cell {w W:World} {l:List Value} {T:TypeId} (h:Below (w.alloc (.cells l.toArray T)).heap.size (w.alloc (.cells l.toArray T)) W) (i:Nat) (v:Value) (hv:l[i]? = some v) : W.cell? ⟨w.heap.size,i,none⟩=some v:=by
 rw [h.cell (p:=⟨w.heap.size,i,none⟩) (by simp)]
 exact cell_of (World.alloc_heap_new w _) i v (by simpa using hv)
theorem cfg_cell {c:Cfg} {w W:World} {l:List Value} {T:TypeId} (h:Below (w.alloc (.cells ((.int .i64 (c.n:Int)::.int .i64 (c.q:Int)::.int .i64 c.g::.int .i64 c.m::.int .i64 c.t::.int .i64 c.s::l:List Value)).toArray T)).heap.size (w.alloc (.cells ((.int .i64 (c.n:Int)::.int .i64 (c.q:Int)::.int .i64 c.g::.int .i64 c.m::.int .i64 c.t::.int .i64 c.s::l:List Value)).toArray T)) W) :
  W.cell? ⟨w.heap.size,0,none⟩=some (.int .i64 (c.n:Int))∧W.cell? ⟨w.heap.size,1,none⟩=some (.int .i64 (c.q:Int))∧W.cell? ⟨w.heap.size,2,none⟩=some (.int .i64 c.g)∧W.cell? ⟨w.heap.size,3,none⟩=some (.int .i64 c.m)∧W.cell? ⟨w.heap.size,4,none⟩=some (.int .i64 c.t)∧W.cell? ⟨w.heap.size,5,none⟩=some (.int .i64 c.s) :=
 ⟨new_cell h 0 _ rfl,new_cell h 1 _ rfl,new_cell h 2 _ rfl,new_cell h 3 _ rfl,new_cell h 4 _ rfl,new_cell h 5 _ rfl⟩
theorem off_mulW (c:Cfg) {p:Nat} (h:p < c.n) : wrap64 ((p:Int) * (6+(c.q:Int)))=((c.off p:Nat) : Int):=by
 have e:=off_mul c h
 rw [IntKind.wrap_i64,show ((6+c.q:Nat) : Int)=6+(c.q:Int) by simp] at e
 unfold wrap64
 exact e
theorem off_allW (c:Cfg) : wrap64 ((c.n:Int) * (6+(c.q:Int)))=((c.off c.n:Nat) : Int):=by
 have e:=off_all c
 rw [IntKind.wrap_i64,show ((6+c.q:Nat) : Int)=6+(c.q:Int) by simp] at e
 unfold wrap64
 exact e
section
variable (c:Cfg) (p:Nat)
theorem at_ok (i:Nat) (hp:p < c.n) (hi:i≤70) (w:World) : Calls Tryz.prog 72 #[.agg #[.int .i64 (c.n:Int),.int .i64 (c.q:Int),.int .i64 c.g,.int .i64 c.m,.int .i64 c.t,.int .i64 c.s,.int .i64 (p:Int)],.int .i64 (i:Int)] w fun e w'=>e=.returned (.int .i64 ((4+c.off p+i:Nat) : Int))∧Below w.heap.size w w':=by
 have z:=c.z hp
 have e:=off_mulW c hp
 have hw:wi (p:Int) 0 ((c.n:Int) - 1)=true:=by simp [wi]; omega
 refine wof fun m=>?_
 refine wen Tryz.func72 27 ?_
 gi_wp2
 refine wcw (c.right _) ?_
 rintro e w1 ⟨rfl,b1⟩
 obtain ⟨c0,c1,-⟩:=cfg_cell b1
 have c6:=new_cell b1 6 _ rfl
 gi_wp2
 refine wcw (within_any _ _ _ _) ?_
 rw [hw]
 rintro e w2 ⟨rfl,rfl⟩
 gi_wp2
 exact bodyPost_ret (results_tmp rfl _ _ _) rfl ⟨by simp,(below_new _).trans (b1.mono (by simp))⟩
theorem word_ok (hp:p < c.n) (w:World) : Calls Tryz.prog 40 #[c.v,.int .i64 (p:Int)] w fun e w'=>e=.returned (.int .i64 ((c.word p:Nat) : Int))∧Below w.heap.size w w':=by
 refine wof fun m=>?_
 refine wen Tryz.func40 7 ?_
 gi_wp2
 refine wcw (at_ok c p 0 hp (by decide) _) ?_
 rintro e w1 ⟨rfl,b1⟩
 gi_wp2
 exact bodyPost_ret (results_tmp rfl _ _ _) rfl ⟨rfl,(below_new _).trans (b1.mono (by simp))⟩
theorem cells_ok (w:World) : Calls Tryz.prog 30 #[c.v] w fun e w'=>e=.returned (.int .i64 ((c.cells:Nat) : Int))∧Below w.heap.size w w':=by
 have z:=c.z0
 have e:=off_allW c
 refine wof fun m=>?_
 refine wen Tryz.func30 12 ?_
 gi_wp2
 refine wcw (c.right _) ?_
 rintro e w1 ⟨rfl,b1⟩
 obtain ⟨c0,c1,-⟩:=cfg_cell b1
 gi_wp2
 exact bodyPost_ret (results_tmp rfl _ _ _) rfl ⟨by simp [Cfg.cells],(below_new _).trans (b1.mono (by simp))⟩
theorem slot_ok (hp:p < c.n) (i:Int) (hi:0≤i) (w:World) : Calls Tryz.prog 43 #[c.v,.int .i64 (p:Int),.int .u32 i] w fun e w'=>e=.returned (.int .i64 ((c.slot p i:Nat) : Int))∧Below w.heap.size w w':=by
 have z:=c.z hp
 have zl:=c.slotI_lt i
 have zr:=slot_rem c hi
 have q0:¬ c.q=0:=by omega
 have q1:((c.q:Int) == 0)=false:=by simp; omega
 have q2:IntKind.u32.wrap (c.q:Int)=(c.q:Int):=by rw [wrap32]; omega
 have q3:IntKind.u32.wrap ((c.slotI i:Nat) : Int)=((c.slotI i:Nat) : Int):=by rw [wrap32]; omega
 have q4:IntKind.i64.wrap ((c.slotI i:Nat) : Int)=((c.slotI i:Nat) : Int):=wrap_ok (by omega) (by omega)
 have q5:IntKind.i64.wrap (6+((c.slotI i:Nat) : Int))=6+((c.slotI i:Nat) : Int):=wrap_ok (by omega) (by omega)
 have ha:=at_ok c p (6+c.slotI i) hp (by omega)
 rw [show ((6+c.slotI i:Nat) : Int)=6+(c.slotI i:Int) by simp] at ha
 refine wof fun m=>?_
 refine wen Tryz.func43 18 ?_
 gi_wp2
 refine wcw (c.right _) ?_
 rintro e w1 ⟨rfl,b1⟩
 have S0:=cfg_cell b1
 have S1:=fun W (b:Below w1.drew.heap.size w1.drew W)=>cfg_cell (b1.trans (((Below.refl _ w1).drew.trans b).mono b1.size))
 gi_upto_region 3 with fail
 refine wpIn_wide.2 ?_
 go_region_held3 (fun W=>W.cell? ⟨w.heap.size,0,none⟩=some (.int .i64 (c.n:Int))∧W.cell? ⟨w.heap.size,1,none⟩=some (.int .i64 (c.q:Int))∧W.cell? ⟨w.heap.size,2,none⟩=some (.int .i64 c.g)∧W.cell? ⟨w.heap.size,3,none⟩=some (.int .i64 c.m)∧W.cell? ⟨w.heap.size,4,none⟩=some (.int .i64 c.t)∧W.cell? ⟨w.heap.size,5,none⟩=some (.int .i64 c.s)) ((first | exact S0 | exact S1 _ b2)) ((have hcon:=ha w1.drew; with_reducible refine hcon.mono ?_; clear hcon; rintro e w' ⟨rfl,b2⟩))
 gi_wp2
 exact bodyPost_ret (results_tmp rfl _ _ _) rfl ⟨by simp [Cfg.slot],(below_new _).trans ((b1.trans (((Below.refl _ w1).drew.trans b2).mono b1.size)).mono (by simp))⟩
theorem rWord_ok (hp:p < c.n) (w:World) : Calls Tryz.prog 81 #[c.v,.int .i64 (p:Int)] w fun e w'=>e=.returned (.int .i64 ((c.word p:Nat) : Int))∧Below w.heap.size w w':=by
 have z:=c.z hp
 have e:=off_mulW c hp
 refine wof fun m=>?_
 refine wen Tryz.func81 9 ?_
 gi_wp2
 exact bodyPost_ret (results_tmp rfl _ _ _) rfl ⟨by simp [Cfg.word],below_new _⟩
theorem rSlot_ok (hp:p < c.n) (i:Int) (hi:0≤i) (w:World) : Calls Tryz.prog 84 #[c.v,.int .i64 (p:Int),.int .u32 i] w fun e w'=>e=.returned (.int .i64 ((c.slot p i:Nat) : Int))∧Below w.heap.size w w':=by
 have z:=c.z hp
 have zl:=c.slotI_lt i
 have zr:=slot_rem c hi
 have q0:¬ c.q=0:=by omega
 have q1:((c.q:Int) == 0)=false:=by simp; omega
 have q2:IntKind.u32.wrap (c.q:Int)=(c.q:Int):=by rw [wrap32]; omega
 have q3:IntKind.u32.wrap ((c.slotI i:Nat) : Int)=((c.slotI i:Nat) : Int):=by rw [wrap32]; omega
 have q4:IntKind.i64.wrap ((c.slotI i:Nat) : Int)=((c.slotI i:Nat) : Int):=wrap_ok (by omega) (by omega)
 have q5:IntKind.i64.wrap (4+((c.off p:Nat) : Int)+6)=4+((c.off p:Nat) : Int)+6:=wrap_ok (by omega) (by omega)
 have q6:IntKind.i64.wrap (4+((c.off p:Nat) : Int)+6+((c.slotI i:Nat) : Int))=((c.slot p i:Nat) : Int):=by
  rw [show 4+((c.off p:Nat) : Int)+6+((c.slotI i:Nat) : Int)=((c.slot p i:Nat) : Int) by unfold Cfg.slot; omega]
  exact wrap_ok (by unfold Cfg.slot; omega) (by unfold Cfg.slot; omega)
 have ha:=rWord_ok c p hp
 refine wof fun m=>?_
 refine wen Tryz.func84 15 ?_
 gi_upto_region 1 with fail
 obtain ⟨w1,hw⟩ : ∃ w1,w.alloc (.cells #[.int .i64 (c.n:Int),.int .i64 (c.q:Int),.int .i64 c.g,.int .i64 c.m,.int .i64 c.t,.int .i64 c.s] 49)=w1:=⟨_,rfl⟩
 have S1:∀ W,Below w1.drew.heap.size w1.drew W→_:=fun W (b:Below w1.drew.heap.size w1.drew W)=>cfg_cell (c:=c) (w:=w) (l:=[]) (T := 49) (W:=W) (by rw [hw]; exact (Below.refl _ w1).drew.trans b)
 have S0:=S1 _ (Below.refl _ _)
 rw [hw]
 refine wpIn_wide.2 ?_
 go_region_held3 (fun W=>W.cell? ⟨w.heap.size,0,none⟩=some (.int .i64 (c.n:Int))∧W.cell? ⟨w.heap.size,1,none⟩=some (.int .i64 (c.q:Int))∧W.cell? ⟨w.heap.size,2,none⟩=some (.int .i64 c.g)∧W.cell? ⟨w.heap.size,3,none⟩=some (.int .i64 c.m)∧W.cell? ⟨w.heap.size,4,none⟩=some (.int .i64 c.t)∧W.cell? ⟨w.heap.size,5,none⟩=some (.int .i64 c.s)) ((first | exact S0 | exact S1 _ b2)) ((have hcon:=ha w1.drew; with_reducible refine hcon.mono ?_; clear hcon; rintro e w' ⟨rfl,b2⟩))
 gi_wp2
 exact bodyPost_ret (results_tmp rfl _ _ _) rfl ⟨rfl,(below_new _).trans (by rw [hw]; exact ((Below.refl _ w1).drew.trans b2).mono (by rw [← hw]; simp))⟩
theorem there_ok (hp:p < c.n) (w:World) : Calls Tryz.prog 78 #[c.v,.int .i64 (p:Int)] w fun e w'=>e=.returned (.bool true)∧Below w.heap.size w w':=by
 refine wof fun m=>?_
 refine wen Tryz.func78 15 ?_
 gi_wp2
 refine wcw (c.rightR _) ?_
 rintro e w1 ⟨rfl,b1⟩
 obtain ⟨c0,c1,-⟩:=cfg_cell b1
 gi_wp2
 exact bodyPost_ret (results_tmp rfl _ _ _) rfl ⟨rfl,(below_new _).trans (b1.mono (by simp))⟩
end
end Go.Proofs.YtkmccgombmogmaaGreat
