/- Part of a proof: see the last text. -/
import Derived.Test.YtkmccgombmogmaaGreatRows
import Derived.WalkKit
import Derived.ProofKit
import Derived.Test.YtkmccgombmogmaaGreatZp13
import Derived.Test.YtkmccgombmogmaaGreatZp1
import Derived.Deep.MidRow
import Derived.Test.YtkmccgombmogmaaGreatZp5
namespace Go.Proofs.YtkmccgombmogmaaGreat
open Go.RowKit
set_option linter.unusedVariables false
def pick (n m:Int) : Int:=((n.tmod m)+m).tmod m
theorem tmod_gt (n m:Int) (h:0 < m) : -m < n.tmod m:=by
 rcases Int.le_total 0 n with h0 | h0
 ·have:=Int.tmod_nonneg m h0
  omega
 ·have e:n.tmod m = -((-n).tmod m):=by rw [Int.neg_tmod,Int.neg_neg]
  have:=Int.tmod_lt_of_pos (-n) h
  omega
theorem pick_bd (n m:Int) (h:0 < m) : 0≤pick n m∧pick n m < m:=by
 unfold pick
 have h1:=Int.tmod_lt_of_pos (n.tmod m+m) h
 have h2:-m < n.tmod m:=tmod_gt n m h
 exact ⟨Int.tmod_nonneg _ (by omega),h1⟩
set_option maxHeartbeats 400000 in
theorem pick_any (n m:Int) (h:0 < m) (hm:m≤1000000) (w:World) :
  Calls Tryz.prog 14 #[.int .i64 n,.int .i64 m] w fun e w'=>e=.returned (.int .i64 (pick n m))∧Below w.heap.size w w':=by
 have hne:m ≠ 0:=by omega
 have h1:-m < n.tmod m:=tmod_gt n m h
 have h2:n.tmod m < m:=Int.tmod_lt_of_pos n h
 have hw:IntKind.i64.wrap (n.tmod m+m)=n.tmod m+m:=IntWalk.i64_in _ (by omega)
 go_enter Tryz.func14,Tryz.ntmps14
 go_wp2
 go_ret
 refine ⟨?_,Below.refl _ _⟩
 simp_all [pick]
 rw [Int.tmod_eq_emod_of_nonneg (a:=n.tmod m+m) (by omega),Int.add_emod_right]
end Go.Proofs.YtkmccgombmogmaaGreat
namespace Go.Proofs.YtkmccgombmogmaaGreat
open Go.RowKit
open Go.Ev (iz uz iN)
set_option linter.unusedVariables false
set_option linter.unusedSimpArgs false
set_option maxRecDepth 8000
theorem pickN_lt (i:Int) (n:Nat) (h:0 < n) : (pick i (n:Int)).toNat < n:=by
 have:=pick_bd i n (by omega)
 omega
def made (c:Cf) : Cfg where
 n:=1+(pick c.n 4).toNat
 q:=2 * 2 ^ (pick c.q 3).toNat
 g:=((1+(pick c.g 20).toNat:Nat) : Int)
 m:=((1+(pick c.n 4).toNat+1+(pick c.m 3).toNat:Nat) : Int)
 t:=((2+(pick c.t 6).toNat:Nat) : Int)
 s:=(((pick c.s 3).toNat:Nat) : Int)
 h:=by
  have h1:=pickN_lt c.n 4 (by omega)
  have h2:=pickN_lt c.q 3 (by omega)
  have h3:=pickN_lt c.g 20 (by omega)
  have h4:=pickN_lt c.m 3 (by omega)
  have h5:=pickN_lt c.t 6 (by omega)
  have h6:=pickN_lt c.s 3 (by omega)
  replace h1:(pick c.n 4).toNat < 4:=h1
  replace h2:(pick c.q 3).toNat < 3:=h2
  replace h3:(pick c.g 20).toNat < 20:=h3
  replace h4:(pick c.m 3).toNat < 3:=h4
  replace h5:(pick c.t 6).toNat < 6:=h5
  replace h6:(pick c.s 3).toNat < 3:=h6
  have hq:(2 * 2 ^ (pick c.q 3).toNat:Nat)=2∨(2 * 2 ^ (pick c.q 3).toNat:Nat)=4∨(2 * 2 ^ (pick c.q 3).toNat:Nat)=8:=by
   generalize (pick c.q 3).toNat=k at *
   match k,h2 with
   | 0,_=>exact .inl rfl
   | 1,_=>exact .inr (.inl rfl)
   | 2,_=>exact .inr (.inr rfl)
  simp only [rightB,wi,Bool.and_eq_true,Bool.or_eq_true,decide_eq_true_eq,beq_iff_eq]
  omega
theorem made_q8 (c:Cf) : (made c).q=2∨(made c).q=4∨(made c).q=8:=by
 have h2:=pickN_lt c.q 3 (by omega)
 replace h2:(pick c.q 3).toNat < 3:=h2
 show (2 * 2 ^ (pick c.q 3).toNat:Nat)=2∨(2 * 2 ^ (pick c.q 3).toNat:Nat)=4∨(2 * 2 ^ (pick c.q 3).toNat:Nat)=8
 generalize (pick c.q 3).toNat=k at *
 match k,h2 with
 | 0,_=>exact .inl rfl
 | 1,_=>exact .inr (.inl rfl)
 | 2,_=>exact .inr (.inr rfl)
theorem pickL (i m:Int) (h:0 < m) (hm:m≤1000000) : ∃ k:Nat,(pick i m).toNat=k∧(k:Int) < m∧∀ w,Calls Tryz.prog 14 #[.int .i64 i,.int .i64 m] w fun e w'=>e=.returned (.int .i64 (k:Int))∧Below w.heap.size w w':=by
 have hb:=pick_bd i m h
 refine ⟨_,rfl,by omega,fun w=>?_⟩
 have e:(((pick i m).toNat:Nat) : Int)=pick i m:=by omega
 rw [e]
 exact pick_any i m h hm w
set_option maxHeartbeats 8000000 in
theorem made_in (n:Nat) (c:Cf) {ctx:Ev.Ctx} {r:List Ev.Asr} {w:World} (h:Ev.Hold ctx r w) : CallsIn Fence.wide n Tryz.prog 9 #[c.v] w fun e w'=>e=.returned (made c).v∧Ev.Hold ctx r w':=by
 obtain ⟨k1,e1,b1,p1⟩:=pickL c.n 4 (by decide) (by decide)
 obtain ⟨k2,e2,b2,p2⟩:=pickL c.q 3 (by decide) (by decide)
 obtain ⟨k3,e3,b3,p3⟩:=pickL c.g 20 (by decide) (by decide)
 obtain ⟨k4,e4,b4,p4⟩:=pickL c.m 3 (by decide) (by decide)
 obtain ⟨k5,e5,b5,p5⟩:=pickL c.t 6 (by decide) (by decide)
 obtain ⟨k6,e6,b6,p6⟩:=pickL c.s 3 (by decide) (by decide)
 obtain ⟨q2,hq2⟩ : ∃ q2:Nat,2 * 2 ^ k2=q2:=⟨_,rfl⟩
 have hv:(made c).v=.agg #[.int .i64 (1+(k1:Int)),.int .i64 (q2:Int),.int .i64 (1+(k3:Int)),.int .i64 (1+(k1:Int)+1+(k4:Int)),.int .i64 (2+(k5:Int)),.int .i64 (k6:Int)]:=by
  simp only [Cfg.v,made,e1,e2,e3,e4,e5,e6,hq2]
  simp
 rw [hv]
 obtain ⟨b,W1,hb,hW1,g1⟩:=newN [.int .i64 c.n,.int .i64 c.q,.int .i64 c.g,.int .i64 c.m,.int .i64 c.t,.int .i64 c.s] 23 h
 obtain ⟨b2',W2,hb2,hW2,g2⟩:=newN [.int .i64 0,.int .i64 0,.int .i64 0,.int .i64 0,.int .i64 0,.int .i64 0] 23 g1
 have x0:=blkc (hold_up [_] g2) 0 _
 have a1:IntKind.i64.wrap (1+(k1:Int))=1+(k1:Int):=wrap_ok (by omega) (by omega)
 have a3:IntKind.i64.wrap (1+(k3:Int))=1+(k3:Int):=wrap_ok (by omega) (by omega)
 have a4:IntKind.i64.wrap (1+(k1:Int)+1)=1+(k1:Int)+1:=wrap_ok (by omega) (by omega)
 have a5:IntKind.i64.wrap (1+(k1:Int)+1+(k4:Int))=1+(k1:Int)+1+(k4:Int):=wrap_ok (by omega) (by omega)
 have a6:IntKind.i64.wrap (2+(k5:Int))=2+(k5:Int):=wrap_ok (by omega) (by omega)
 have hS:∀ {l:List Ev.Asr} {W:World},Ev.Hold ctx (Ev.blkA b [.int .i64 c.n,.int .i64 c.q,.int .i64 c.g,.int .i64 c.m,.int .i64 c.t,.int .i64 c.s] 23 :: l) W→W.cell? ⟨b,1,none⟩=some (.int .i64 c.q)∧W.cell? ⟨b,2,none⟩=some (.int .i64 c.g)∧W.cell? ⟨b,3,none⟩=some (.int .i64 c.m)∧W.cell? ⟨b,4,none⟩=some (.int .i64 c.t)∧W.cell? ⟨b,5,none⟩=some (.int .i64 c.s):=fun hh=>⟨blkc hh 1 _,blkc hh 2 _,blkc hh 3 _,blkc hh 4 _,blkc hh 5 _⟩
 have hshl:IntKind.i64.wrap (2 * 2 ^ k2)=(q2:Int):=by
  subst hq2
  match k2,b2 with
  | 0,_=>rfl
  | 1,_=>rfl
  | 2,_=>rfl
 refine wen Tryz.func9 30 ?_
 gi_wp2
 refine wcw (p1 _) ?_
 rintro e w3 ⟨rfl,b3'⟩
 have g3:=hold_keep g2 b3'
 have gd:=hold_keep (hold_up [_] g3) (Below.refl _ _).drew
 gi_upto_region 2 with fail
 refine wpIn_wide.2 ?_
 refine wp_region_held_drew (S:=fun W=>W.cell? ⟨b,1,none⟩=some (.int .i64 c.q)∧W.cell? ⟨b,2,none⟩=some (.int .i64 c.g)∧W.cell? ⟨b,3,none⟩=some (.int .i64 c.m)∧W.cell? ⟨b,4,none⟩=some (.int .i64 c.t)∧W.cell? ⟨b,5,none⟩=some (.int .i64 c.s)) (by kernel_rfl) (hS gd) (fun hHeld=>?_)
 (refine wpAnyH_take (i:=0) (v:=(.int .i64 (1+(k1:Int)))) rfl (by kernel_rfl) (by kernel_rfl) (by kernel_rfl) (fun _ _ _ h=>h) (Or.inl ⟨by rfl,fun w hSw=>by (try dsimp only at hSw); go_simp; (try with_reducible rfl)⟩) (by assumption) ?_; (try simp only [Act.put,List.getElem_toArray,List.getElem_cons_succ,List.getElem_cons_zero,List.setIfInBounds_toArray,List.set_cons_zero,List.set_cons_succ]))
 (refine wpAnyH_take (i:=1) (v:=(.pointer (some ⟨b,1,none⟩))) rfl (by kernel_rfl) (by kernel_rfl) (by kernel_rfl) (fun _ _ _ h=>h) (Or.inl ⟨by rfl,fun w hSw=>by (try dsimp only at hSw); go_simp; (try with_reducible rfl)⟩) (by assumption) ?_; (try simp only [Act.put,List.getElem_toArray,List.getElem_cons_succ,List.getElem_cons_zero,List.setIfInBounds_toArray,List.set_cons_zero,List.set_cons_succ]))
 (refine wpAnyH_take (i:=2) (v:=(.int .i64 c.q)) rfl (by kernel_rfl) (by kernel_rfl) (by kernel_rfl) (fun _ _ _ h=>h) (Or.inl ⟨by rfl,fun w hSw=>by (try dsimp only at hSw); go_simp; (try with_reducible rfl)⟩) (by assumption) ?_; (try simp only [Act.put,List.getElem_toArray,List.getElem_cons_succ,List.getElem_cons_zero,List.setIfInBounds_toArray,List.set_cons_zero,List.set_cons_succ]))
 (refine wpAnyH_take (i:=5) (v:=(.pointer (some ⟨b,2,none⟩))) rfl (by kernel_rfl) (by kernel_rfl) (by kernel_rfl) (fun _ _ _ h=>h) (Or.inl ⟨by rfl,fun w hSw=>by (try dsimp only at hSw); go_simp; (try with_reducible rfl)⟩) (by assumption) ?_; (try simp only [Act.put,List.getElem_toArray,List.getElem_cons_succ,List.getElem_cons_zero,List.setIfInBounds_toArray,List.set_cons_zero,List.set_cons_succ]))
 (refine wpAnyH_take (i:=6) (v:=(.int .i64 c.g)) rfl (by kernel_rfl) (by kernel_rfl) (by kernel_rfl) (fun _ _ _ h=>h) (Or.inl ⟨by rfl,fun w hSw=>by (try dsimp only at hSw); go_simp; (try with_reducible rfl)⟩) (by assumption) ?_; (try simp only [Act.put,List.getElem_toArray,List.getElem_cons_succ,List.getElem_cons_zero,List.setIfInBounds_toArray,List.set_cons_zero,List.set_cons_succ]))
 (refine wpAnyH_take (i:=9) (v:=(.int .i64 (1+(k1:Int)))) rfl (by kernel_rfl) (by kernel_rfl) (by kernel_rfl) (fun _ _ _ h=>h) (Or.inl ⟨by rfl,fun w hSw=>by (try dsimp only at hSw); go_simp; (try with_reducible rfl)⟩) (by assumption) ?_; (try simp only [Act.put,List.getElem_toArray,List.getElem_cons_succ,List.getElem_cons_zero,List.setIfInBounds_toArray,List.set_cons_zero,List.set_cons_succ]))
 (refine wpAnyH_take (i:=10) (v:=(.int .i64 (1+(k1:Int)+1))) rfl (by kernel_rfl) (by kernel_rfl) (by kernel_rfl) (fun _ _ _ h=>h) (Or.inl ⟨by rfl,fun w hSw=>by (try dsimp only at hSw); go_simp; (try with_reducible rfl)⟩) (by assumption) ?_; (try simp only [Act.put,List.getElem_toArray,List.getElem_cons_succ,List.getElem_cons_zero,List.setIfInBounds_toArray,List.set_cons_zero,List.set_cons_succ]))
 (refine wpAnyH_take (i:=11) (v:=(.pointer (some ⟨b,3,none⟩))) rfl (by kernel_rfl) (by kernel_rfl) (by kernel_rfl) (fun _ _ _ h=>h) (Or.inl ⟨by rfl,fun w hSw=>by (try dsimp only at hSw); go_simp; (try with_reducible rfl)⟩) (by assumption) ?_; (try simp only [Act.put,List.getElem_toArray,List.getElem_cons_succ,List.getElem_cons_zero,List.setIfInBounds_toArray,List.set_cons_zero,List.set_cons_succ]))
 (refine wpAnyH_take (i:=12) (v:=(.int .i64 c.m)) rfl (by kernel_rfl) (by kernel_rfl) (by kernel_rfl) (fun _ _ _ h=>h) (Or.inl ⟨by rfl,fun w hSw=>by (try dsimp only at hSw); go_simp; (try with_reducible rfl)⟩) (by assumption) ?_; (try simp only [Act.put,List.getElem_toArray,List.getElem_cons_succ,List.getElem_cons_zero,List.setIfInBounds_toArray,List.set_cons_zero,List.set_cons_succ]))
 (refine wpAnyH_take (i:=15) (v:=(.pointer (some ⟨b,4,none⟩))) rfl (by kernel_rfl) (by kernel_rfl) (by kernel_rfl) (fun _ _ _ h=>h) (Or.inl ⟨by rfl,fun w hSw=>by (try dsimp only at hSw); go_simp; (try with_reducible rfl)⟩) (by assumption) ?_; (try simp only [Act.put,List.getElem_toArray,List.getElem_cons_succ,List.getElem_cons_zero,List.setIfInBounds_toArray,List.set_cons_zero,List.set_cons_succ]))
 (refine wpAnyH_take (i:=16) (v:=(.int .i64 c.t)) rfl (by kernel_rfl) (by kernel_rfl) (by kernel_rfl) (fun _ _ _ h=>h) (Or.inl ⟨by rfl,fun w hSw=>by (try dsimp only at hSw); go_simp; (try with_reducible rfl)⟩) (by assumption) ?_; (try simp only [Act.put,List.getElem_toArray,List.getElem_cons_succ,List.getElem_cons_zero,List.setIfInBounds_toArray,List.set_cons_zero,List.set_cons_succ]))
 (refine wpAnyH_take (i:=19) (v:=(.pointer (some ⟨b,5,none⟩))) rfl (by kernel_rfl) (by kernel_rfl) (by kernel_rfl) (fun _ _ _ h=>h) (Or.inl ⟨by rfl,fun w hSw=>by (try dsimp only at hSw); go_simp; (try with_reducible rfl)⟩) (by assumption) ?_; (try simp only [Act.put,List.getElem_toArray,List.getElem_cons_succ,List.getElem_cons_zero,List.setIfInBounds_toArray,List.set_cons_zero,List.set_cons_succ]))
 (refine wpAnyH_take (i:=20) (v:=(.int .i64 c.s)) rfl (by kernel_rfl) (by kernel_rfl) (by kernel_rfl) (fun _ _ _ h=>h) (Or.inl ⟨by rfl,fun w hSw=>by (try dsimp only at hSw); go_simp; (try with_reducible rfl)⟩) (by assumption) ?_; (try simp only [Act.put,List.getElem_toArray,List.getElem_cons_succ,List.getElem_cons_zero,List.setIfInBounds_toArray,List.set_cons_zero,List.set_cons_succ]))
 (refine wpAnyH_ready (rs:=[3]) (by kernel_rfl) (by simp) ?_; refine AllReadyH.cons rfl (fun K hK=>?_) AllReadyH.nil; go_simp)
 (with_reducible refine (p2 w3.drew).mono ?_)
 rintro e w4 ⟨rfl,b4⟩
 have h4:=hold_keep gd b4
 (refine Shut.out hK _ _ (hS h4) (fun hHeld=>?_); clear hK; (try simp only [Act.put,List.getElem_toArray,List.getElem_cons_succ,List.getElem_cons_zero,List.setIfInBounds_toArray,List.set_cons_zero,List.set_cons_succ]))
 (refine wpAnyH_take (i:=4) (v:=(.int .i64 (q2:Int))) rfl (by kernel_rfl) (by kernel_rfl) (by kernel_rfl) (fun _ _ _ h=>h) (Or.inl ⟨by rfl,fun w hSw=>by (try dsimp only at hSw); go_simp; (try with_reducible rfl)⟩) (by assumption) ?_; (try simp only [Act.put,List.getElem_toArray,List.getElem_cons_succ,List.getElem_cons_zero,List.setIfInBounds_toArray,List.set_cons_zero,List.set_cons_succ]))
 (refine wpAnyH_ready (rs:=[7]) (by kernel_rfl) (by simp) ?_; refine AllReadyH.cons rfl (fun K hK=>?_) AllReadyH.nil; go_simp)
 (with_reducible refine (p3 w4).mono ?_)
 rintro e w5 ⟨rfl,b5⟩
 have h5:=hold_keep h4 b5
 (refine Shut.out hK _ _ (hS h5) (fun hHeld=>?_); clear hK; (try simp only [Act.put,List.getElem_toArray,List.getElem_cons_succ,List.getElem_cons_zero,List.setIfInBounds_toArray,List.set_cons_zero,List.set_cons_succ]))
 (refine wpAnyH_take (i:=8) (v:=(.int .i64 (1+(k3:Int)))) rfl (by kernel_rfl) (by kernel_rfl) (by kernel_rfl) (fun _ _ _ h=>h) (Or.inl ⟨by rfl,fun w hSw=>by (try dsimp only at hSw); go_simp; (try with_reducible rfl)⟩) (by assumption) ?_; (try simp only [Act.put,List.getElem_toArray,List.getElem_cons_succ,List.getElem_cons_zero,List.setIfInBounds_toArray,List.set_cons_zero,List.set_cons_succ]))
 (refine wpAnyH_ready (rs:=[13]) (by kernel_rfl) (by simp) ?_; refine AllReadyH.cons rfl (fun K hK=>?_) AllReadyH.nil; go_simp)
 (with_reducible refine (p4 w5).mono ?_)
 rintro e w6 ⟨rfl,b6⟩
 have h6:=hold_keep h5 b6
 (refine Shut.out hK _ _ (hS h6) (fun hHeld=>?_); clear hK; (try simp only [Act.put,List.getElem_toArray,List.getElem_cons_succ,List.getElem_cons_zero,List.setIfInBounds_toArray,List.set_cons_zero,List.set_cons_succ]))
 (refine wpAnyH_take (i:=14) (v:=(.int .i64 (1+(k1:Int)+1+(k4:Int)))) rfl (by kernel_rfl) (by kernel_rfl) (by kernel_rfl) (fun _ _ _ h=>h) (Or.inl ⟨by rfl,fun w hSw=>by (try dsimp only at hSw); go_simp; (try with_reducible rfl)⟩) (by assumption) ?_; (try simp only [Act.put,List.getElem_toArray,List.getElem_cons_succ,List.getElem_cons_zero,List.setIfInBounds_toArray,List.set_cons_zero,List.set_cons_succ]))
 (refine wpAnyH_ready (rs:=[17]) (by kernel_rfl) (by simp) ?_; refine AllReadyH.cons rfl (fun K hK=>?_) AllReadyH.nil; go_simp)
 (with_reducible refine (p5 w6).mono ?_)
 rintro e w7 ⟨rfl,b7⟩
 have h7:=hold_keep h6 b7
 (refine Shut.out hK _ _ (hS h7) (fun hHeld=>?_); clear hK; (try simp only [Act.put,List.getElem_toArray,List.getElem_cons_succ,List.getElem_cons_zero,List.setIfInBounds_toArray,List.set_cons_zero,List.set_cons_succ]))
 (refine wpAnyH_take (i:=18) (v:=(.int .i64 (2+(k5:Int)))) rfl (by kernel_rfl) (by kernel_rfl) (by kernel_rfl) (fun _ _ _ h=>h) (Or.inl ⟨by rfl,fun w hSw=>by (try dsimp only at hSw); go_simp; (try with_reducible rfl)⟩) (by assumption) ?_; (try simp only [Act.put,List.getElem_toArray,List.getElem_cons_succ,List.getElem_cons_zero,List.setIfInBounds_toArray,List.set_cons_zero,List.set_cons_succ]))
 (refine wpAnyH_ready (rs:=[21]) (by kernel_rfl) (by simp) ?_; refine AllReadyH.cons rfl (fun K hK=>?_) AllReadyH.nil; go_simp)
 (with_reducible refine (p6 w7).mono ?_)
 rintro e w8 ⟨rfl,b8⟩
 have h8:=hold_keep h7 b8
 (refine Shut.out hK _ _ (hS h8) (fun hHeld=>?_); clear hK; (try simp only [Act.put,List.getElem_toArray,List.getElem_cons_succ,List.getElem_cons_zero,List.setIfInBounds_toArray,List.set_cons_zero,List.set_cons_succ]))
 (refine wpAnyH_ready (rs:=[22]) (by kernel_rfl) (by simp) ?_; refine AllReadyH.cons rfl (fun K hK=>?_) AllReadyH.nil; go_simp)
 (refine Shut.out hK _ _ (hS h8) (fun hHeld=>?_); clear hK; (try simp only [Act.put,List.getElem_toArray,List.getElem_cons_succ,List.getElem_cons_zero,List.setIfInBounds_toArray,List.set_cons_zero,List.set_cons_succ]))
 obtain ⟨wB,rB,gB⟩:=st_all (t := 23) (cs':=[.int .i64 (1+(k1:Int)),.int .i64 (q2:Int),.int .i64 (1+(k3:Int)),.int .i64 (1+(k1:Int)+1+(k4:Int)),.int .i64 (2+(k5:Int)),.int .i64 (k6:Int)]) (hold_up [_] h8) rfl (by simp [Value.oneCell']) (by kernel_rfl)
 refine wpAnyH_ready (rs:=[23]) (by kernel_rfl) (by simp) ?_
 refine AllReadyH.cons rfl (fun K hK=>?_) AllReadyH.nil
 rw [if_pos (by rfl)]
 refine wp_store_run _ _ _ rfl rB rfl rfl ?_
 replace gB:=hold_dn [_] gB
 (refine Shut.out hK _ _ (hS gB) (fun hHeld=>?_); clear hK; (try simp only [Act.put,List.getElem_toArray,List.getElem_cons_succ,List.getElem_cons_zero,List.setIfInBounds_toArray,List.set_cons_zero,List.set_cons_succ]))
 refine wpAnyH_done (by kernel_rfl) ?_ _
 gi_wp2
 refine post_cell rfl rfl rfl (lv_all (hold_up [_] gB) Tryz.underlying23 rfl (by kernel_rfl)) ⟨rfl,?_⟩
 exact hold_drop (r:=[_,_]) gB
theorem made_ok (c:Cf) (w:World) : Calls Tryz.prog 9 #[c.v] w fun e w'=>e=.returned (made c).v∧Below w.heap.size w w' :=
 callsIn_wide.1 ((made_in 0 c (ctx:=⟨w,fun _=>False⟩) (r:=[]) (Ev.Hold.start (Ev.now_nil w))).mono fun e w' h=>⟨h.1,h.2.below (fun _ h=>h)⟩)
end Go.Proofs.YtkmccgombmogmaaGreat
namespace Go.Proofs.YtkmccgombmogmaaGreat
open Go.RowKit
set_option linter.unusedVariables false
set_option linter.unusedSimpArgs false
set_option maxRecDepth 8000
theorem own_mk {ctx:Ev.Ctx} {l:List Ev.Asr} {e:TypeId} {n:Nat} {v:Value} {xs:List Value} {w w':World} (h:Ev.Hold ctx l w) (ho:w'.ownsRow w.heap.size e 1 v n xs) (hb:Below w.heap.size w w') : Ev.Hold ctx (Ev.slA e 1 v n xs::l) w':=hold_own h ho hb
end Go.Proofs.YtkmccgombmogmaaGreat
namespace Go.Proofs.YtkmccgombmogmaaGreat
open Go.RowKit
set_option linter.unusedVariables false
set_option linter.unusedSimpArgs false
set_option maxRecDepth 8000
section
variable {ctx:Ev.Ctx} {w:World} {r:List Ev.Asr} {b:RB} {c:Cfg} {x:RaceS} {p:Nat} {o:OwnS} {B:Int} {M:MacS}
theorem a_open (h:Ev.Hold ctx (raceA b c x::r) w) : ∃ es,Ev.Hold ctx (r++raceL b c x es) w:=by
 obtain ⟨es,h1⟩:=race_open h
 exact ⟨es,hold_perm List.perm_append_comm h1⟩
theorem a_shut {es:Nat→OwnV} (h:Ev.Hold ctx (r++raceL b c x es) w) : Ev.Hold ctx (raceA b c x::r) w:=race_close (hold_perm List.perm_append_comm h)
theorem abusy (n:Nat) (hp:p < c.n) (ho:x.ow[p]? = some o) (h:Ev.Hold ctx (raceA b c x::r) w) :
  CallsIn Fence.wide n Tryz.prog 12 #[.pointer (some ⟨b.br,0,none⟩),.int .i64 (p:Int)] w fun e w'=>e=.returned (.bool o.mac.isSome)∧w'=w:=by
 obtain ⟨es,h1⟩:=a_open h
 obtain ⟨F,k1,_⟩:=own_mac hp ho h1
 exact busy_in n (race_at h1) hp (row_at hp ho h1 rfl) (mac_val (Ev.Hold.start k1))
theorem abegin (n:Nat) (hlen:x.ow.length=c.n) (ho:x.ow[p]? = some o) (kd cv cg:Int) (h:Ev.Hold ctx (raceA b c x::r) w) :
  CallsIn Fence.wide n Tryz.prog 11 #[.pointer (some ⟨b.br,0,none⟩),.int .i64 (p:Int),.agg #[.int .i64 kd,.int .i64 cv,.int .i64 cg]] w fun e w'=>e=.returned (.int .i64 (begErr c p o kd cv cg))∧Ev.Hold ctx (raceA b c (begRace c x p o kd cv cg)::r) w':=by
 obtain ⟨F,k1,back⟩:=hold_fr [raceA b c x] h
 exact (begin_in n hlen ho kd cv cg k1).mono (fun e w' ⟨e1,hh⟩=>⟨e1,back _ _ hh⟩)
theorem astep (n:Nat) (hI:RaceI c B x) (hB:B+8≤1073741824) (ho:x.ow[p]? = some o) (hM:o.mac=some M) (h:Ev.Hold ctx (raceA b c x::r) w) :
  CallsIn Fence.wide n Tryz.prog 13 #[.pointer (some ⟨b.br,0,none⟩),.int .i64 (p:Int)] w fun e w'=>∃ a k,e=.returned (.tuple #[.agg #[.int .i64 (OutS.k (raceStep c x p o M).2),.int .i64 (OutS.g (raceStep c x p o M).2),.slice a (OutS.l (raceStep c x p o M).2).length k],.bool (raceStep c x p o M).2.isSome])∧Ev.Hold ctx (isA (.slice a (OutS.l (raceStep c x p o M).2).length k) (OutS.l (raceStep c x p o M).2)::raceA b c (raceStep c x p o M).1::r) w':=by
 obtain ⟨F,k1,back⟩:=hold_fr [raceA b c x] h
 refine (step_in n hI hB ho hM k1).mono ?_
 rintro e w' ⟨v,lv,rfl,hh⟩
 obtain ⟨a,k,rfl⟩:=slr_val (hold_slr hh)
 exact ⟨a,k,rfl,back _ _ hh⟩
theorem aidle (n:Nat) (hp:p < c.n) (ho:x.ow[p]? = some o) (hM:o.mac=none) (h:Ev.Hold ctx (raceA b c x::r) w) :
  CallsIn Fence.wide n Tryz.prog 13 #[.pointer (some ⟨b.br,0,none⟩),.int .i64 (p:Int)] w fun e w'=>e=.returned (.tuple #[.agg #[.int .i64 0,.int .i64 0,.slice none 0 0],.bool false])∧Ev.Hold ctx (raceA b c x::r) w':=by
 refine callsIn_of_wp Tryz.func13 rfl trivial ?_ rfl
 simp only [Tryz.ntmps13,List.size_toArray,List.length_cons,List.length_nil,Nat.reduceAdd,Nat.reduceSub,Array.replicate_succ,Array.replicate_zero,List.push_toArray,List.append_toArray,List.nil_append,List.cons_append]
 obtain ⟨W1,hW1⟩ : ∃ W1,w.alloc (.cells #[.int .i64 0,.int .i64 0,.slice none 0 0] 37)=W1:=⟨_,rfl⟩
 have h1:Ev.Hold ctx (Ev.blkA w.heap.size [.int .i64 0,.int .i64 0,.slice none 0 0] 37 :: raceA b c x::r) W1:=by rw [← hW1]; exact hold_new _ _ h
 have hb:=abusy (n - 1) hp ho (hold_swap h1)
 rw [hM] at hb
 have bt:=hold_blk h1
 have t0:W1.cell? ⟨w.heap.size,0,none⟩=some (.int .i64 0):=cell_of bt 0 _ rfl
 have t1:W1.cell? ⟨w.heap.size,1,none⟩=some (.int .i64 0):=cell_of bt 1 _ rfl
 have t2:W1.cell? ⟨w.heap.size,2,none⟩=some (.slice none 0 0):=cell_of bt 2 _ rfl
 have f0:W1.frozen? ⟨w.heap.size,0,none⟩=false:=froz_of bt 0
 have f1:W1.frozen? ⟨w.heap.size,1,none⟩=false:=froz_of bt 1
 have f2:W1.frozen? ⟨w.heap.size,2,none⟩=false:=froz_of bt 2
 have h9:=hold_set 2 (.slice none 0 0) (hold_set 1 (.int .i64 0) (hold_set 0 (.int .i64 0) h1))
 gi_wp2
 refine ⟨trivial,fun h=>by simp [Fence.wide] at h,hb.mono ?_⟩
 rintro e w' ⟨rfl,hw'⟩
 replace hw':=hw'.symm
 subst hw'
 gi_wp2
 exact post_cellT rfl rfl rfl (loadOut _ _ _ _ _ (hold_blk h9)) ⟨rfl,hold_drop (r:=[_]) h9⟩
theorem afits (n:Nat) (hx:x.bad=false) (h:Ev.Hold ctx (raceA b c x::r) w) :
  CallsIn Fence.wide n Tryz.prog 16 #[.pointer (some ⟨b.br,0,none⟩)] w fun e w'=>e=.returned (.bool true)∧w'=w:=by
 refine callsIn_of_wp Tryz.func16 rfl trivial ?_ rfl
 simp only [Tryz.ntmps16,List.size_toArray,List.length_cons,List.length_nil,Nat.reduceAdd,Nat.reduceSub,Array.replicate_succ,Array.replicate_zero,List.push_toArray,List.append_toArray,List.nil_append,List.cons_append]
 obtain ⟨es,h1⟩:=a_open h
 have e9:w.cell? ⟨b.br,9,none⟩=some (.bool false):=cell_of (race_at h1) 9 _ (by rw [← hx]; rfl)
 gi_wp2
 exact bodyPost_ret (results_tmp rfl _ _ _) rfl ⟨rfl,rfl⟩
theorem aring (n:Nat) (hp:p < c.n) (hm:MemOk c x.m) (h:Ev.Hold ctx (raceA b c x::r) w) :
  CallsIn Fence.wide n Tryz.prog 15 #[.pointer (some ⟨b.br,0,none⟩),.int .i64 (p:Int)] w fun e w'=>∃ a k,e=.returned (.slice a (ringL c x.m p).length k)∧Ev.Hold ctx (isA (.slice a (ringL c x.m p).length k) (ringL c x.m p)::raceA b c x::r) w':=by
 obtain ⟨es,h1⟩:=a_open h
 refine (rring_in n hp hm h1).mono ?_
 rintro e w' ⟨a,k,rfl,hh⟩
 exact ⟨a,k,rfl,hold_swap (a_shut (r:=isA _ _::r) hh)⟩
theorem adeque (n:Nat) (hq:c.q≤8) (hp:p < c.n) (ho:x.ow[p]? = some o) (hd:DqOk c o.dq) (h:Ev.Hold ctx (raceA b c x::r) w) :
  CallsIn Fence.wide n Tryz.prog 18 #[.pointer (some ⟨b.br,0,none⟩),.int .i64 (p:Int)] w fun e w'=>∃ a k,e=.returned (.slice a (dqAll c o.dq).length k)∧Ev.Hold ctx (isA (.slice a (dqAll c o.dq).length k) (dqAll c o.dq)::raceA b c x::r) w':=by
 obtain ⟨es,h1⟩:=a_open h
 refine (rdeque_in n hq hp ho hd h1).mono ?_
 rintro e w' ⟨a,k,rfl,hh⟩
 exact ⟨a,k,rfl,hold_swap (a_shut (r:=isA _ _::r) hh)⟩
theorem ahands (n:Nat) (hp:p < c.n) (ho:x.ow[p]? = some o) (hm:MemOk c x.m) (hM:∀ M,o.mac=some M→MacOk c p M) (h:Ev.Hold ctx (raceA b c x::r) w) :
  CallsIn Fence.wide n Tryz.prog 19 #[.pointer (some ⟨b.br,0,none⟩),.int .i64 (p:Int)] w fun e w'=>∃ a k,e=.returned (.slice a (handsO o).length k)∧Ev.Hold ctx (isA (.slice a (handsO o).length k) (handsO o)::raceA b c x::r) w':=by
 obtain ⟨es,h1⟩:=a_open h
 refine (rhands_in n hp ho hm hM h1).mono ?_
 rintro e w' ⟨a,k,rfl,hh⟩
 exact ⟨a,k,rfl,hold_swap (a_shut (r:=isA _ _::r) hh)⟩
theorem anew (n:Nat) (c:Cfg) (h:Ev.Hold ctx r w) :
  CallsIn Fence.wide n Tryz.prog 10 #[c.v] w fun e w'=>∃ b:RB,e=.returned (.tuple #[.pointer (some ⟨b.br,0,none⟩),.int .i64 0])∧Ev.Hold ctx (raceA b c (newRace c)::r) w':=by
 obtain ⟨F,k1,back⟩:=hold_fr (lp:=[]) (rest:=r) h
 refine (new_in n c k1).mono ?_
 rintro e w' ⟨b,rfl,hh⟩
 exact ⟨b,rfl,back _ _ hh⟩
end
end Go.Proofs.YtkmccgombmogmaaGreat
namespace Go.Proofs.YtkmccgombmogmaaGreat
open Go.RowKit
set_option linter.unusedVariables false
set_option linter.unusedSimpArgs false
set_option maxRecDepth 8000
end Go.Proofs.YtkmccgombmogmaaGreat
namespace Go.Proofs.YtkmccgombmogmaaGreat
open Go.RowKit
open Go.Ev (iz uz iN)
set_option linter.unusedVariables false
set_option linter.unusedSimpArgs false
set_option maxRecDepth 8000
theorem infOw:∃ i z,Tryz.prog.info? 114 = some i∧i.size=54∧i.zero=some z∧z.cells.size=54∧i.bytes≤4096:=by
 have h:((Tryz.prog.info? 114).map (fun i=>decide (i.size=54) && decide (i.bytes≤4096) && (match i.zero with | some z=>decide (z.cells.size=54) | none=>false)))=some true:=by kernel_rfl
 cases hi:Tryz.prog.info? 114 with
 | none=>rw [hi] at h; cases h
 | some i =>
  rw [hi] at h
  simp only [Option.map_some,Option.some.injEq,Bool.and_eq_true,decide_eq_true_eq] at h
  cases hz:i.zero with
  | none=>rw [hz] at h; exact absurd h.2 (by decide)
  | some z =>
   rw [hz] at h
   exact ⟨i,z,rfl,h.1.1,hz,by simpa using h.2,h.1.2⟩
theorem appOw {ctx:Ev.Ctx} {w:World} {r:List Ev.Asr} {lv:Value} {n:Nat} {xs:List Value} (hn:n≤8) (h1:∀ x ∈ xs,x.oneCell'=true) (h:Ev.Hold ctx (Ev.slA 114 54 lv n xs::r) w) :
  ∃ a k w',(Builtin.append_ #[54,54] 54 #[.slice none 0 0,lv]).run Tryz.prog w=.ok (.slice a n k) w'∧Ev.Hold ctx (Ev.slA 114 54 (.slice a n k) n xs::Ev.slA 114 54 lv n xs::r) w':=by
 obtain ⟨i,z,hi,hz,h0,hzs,hby⟩:=infOw
 have hs:=hold_slr h
 have h':=h.nilSl (e := 114) (sz:=54)
 obtain ⟨F',m1,m2,m3⟩:=h'.ex
 obtain ⟨Fa,Fl,k1,k2,k3,k4⟩:=Ev.now_uncons m1
 have k1':Ev.SlV 114 i.size (.slice none 0 0) 0 [] Fa w:=by rw [hz]; exact k1
 have hsrc:Src Tryz.prog i.size 54 lv n xs w:=by rw [hz]; exact hs.src Tryz.underlying54 h1
 obtain ⟨v',w',G,r1,r2,r3,r4⟩:=Ev.SlV.append (ty := 54) k1' Tryz.underlying54 hi h0 (by rw [hz]; exact hzs) hsrc (by rw [Nat.zero_add]; have:n * i.bytes≤8 * 4096:=Nat.mul_le_mul hn hby; omega) (by omega)
 have hFl:∀ j,Fl j→w'.heap[j]? = w.heap[j]?:=fun j hj=>r3.block j (k2.lt j hj) (fun hf=>k3 j hf hj)
 have q1:=Ev.now_keep k2 hFl r3.size
 have q0:(Ev.slA 114 54 v' n xs).p (fun _=>none) G w':=by
  show Ev.SlV 114 54 v' n xs G w'
  rw [hz,Nat.zero_add,List.nil_append] at r2
  exact r2
 have q2:=Ev.now_cons (a:=Ev.slA 114 54 v' n xs) (Fa:=G) q0 q1 (fun j hj=>(r4 j hj).1) (fun j hj hl=>by
  rcases (r4 j hj).2 with h | h
  ·exact k3 j h hl
  ·have:=k2.lt j hl
   omega)
 have hfin:Ev.Hold ctx (Ev.slA 114 54 v' n xs::Ev.slA 114 54 lv n xs::r) w':=by
  refine ⟨_,q2,⟨r3.os.trans m2.os,r3.tape.trans m2.tape,r3.output.trans m2.output,Nat.le_trans m2.size r3.size,fun j hj hx=>?_⟩,fun j hj=>?_⟩
  ·refine (r3.block j (Nat.lt_of_lt_of_le hj m2.size) (fun hf=>?_)).trans (m2.block j hj hx)
   rcases m3 j ((k4 j).2 (.inl hf)) with h | h
   ·exact hx h
   ·omega
  ·rcases hj with hj | hj
   ·rcases (r4 j hj).2 with h | h
    ·exact m3 j ((k4 j).2 (.inl h))
    ·exact .inr (Nat.le_trans m2.size h)
   ·exact m3 j ((k4 j).2 (.inr hj))
 obtain ⟨a,k,rfl⟩:=slr_val (hold_slr hfin)
 exact ⟨a,k,w',r1,hfin⟩
def rV (c:Cfg) (rv:Value) (ops:Int) (lv:Value) (pts:Int) : List Value:=[iN c.n,iN c.q,iz c.g,iz c.m,iz c.t,iz c.s,rv,uz ops,lv,iz pts]
abbrev rZ:List Value:=[.int .i64 0,.int .i64 0,.int .i64 0,.int .i64 0,.int .i64 0,.int .i64 0,.slice none 0 0,.int .u64 0,.slice none 0 0,.int .i64 0]
section
variable {ctx:Ev.Ctx} {w:World} {r:List Ev.Asr} {c:Cfg} {rv:Value} {ops pts:Int} {n p:Nat} {pre mid post oc:List Value} {la ra:Option Addr} {lk rn rk:Nat}
set_option maxHeartbeats 4000000 in
theorem with12 (m:Nat) (hn:n≤8) (hp:p < n) (hpre:pre.length=p * 54) (hmid:mid.length=54) (hoc:oc.length=54) (h1:∀ x ∈ oc,x.oneCell'=true) (h2:∀ x ∈ pre++(mid++post),x.oneCell'=true) (h:Ev.Hold ctx (Ev.slA 114 54 (.slice la n lk) n (pre++(mid++post))::r) w) :
  CallsIn Fence.wide m Tryz.prog 52 #[.agg (rV c (.slice ra rn rk) ops (.slice la n lk) pts).toArray,.int .i64 (p:Int),.agg oc.toArray] w fun e w'=>∃ a k,e=.returned (.agg (rV c (.slice ra rn rk) ops (.slice a n k) pts).toArray)∧Ev.Hold ctx (Ev.slA 114 54 (.slice a n k) n (pre++(oc++post))::r) w':=by
 refine callsIn_of_wp Tryz.func52 rfl trivial ?_ rfl
 simp only [Tryz.ntmps52,List.size_toArray,List.length_cons,List.length_nil,Nat.reduceAdd,Nat.reduceSub,Array.replicate_succ,Array.replicate_zero,List.push_toArray,List.append_toArray,List.nil_append,List.cons_append]
 obtain ⟨b1,hb1⟩ : ∃ b1,w.heap.size=b1:=⟨_,rfl⟩
 have g1:=hold_new (rV c (.slice ra rn rk) ops (.slice la n lk) pts) 56 h
 rw [hb1] at g1
 obtain ⟨W1,hW1⟩ : ∃ W1,w.alloc (.cells (rV c (.slice ra rn rk) ops (.slice la n lk) pts).toArray 56)=W1:=⟨_,rfl⟩
 rw [hW1] at g1
 obtain ⟨b2,hb2⟩ : ∃ b2,W1.heap.size=b2:=⟨_,rfl⟩
 have g2:=hold_new oc 114 g1
 rw [hb2] at g2
 obtain ⟨W2,hW2⟩ : ∃ W2,W1.alloc (.cells oc.toArray 114)=W2:=⟨_,rfl⟩
 rw [hW2] at g2
 obtain ⟨b3,hb3⟩ : ∃ b3,W2.heap.size=b3:=⟨_,rfl⟩
 have g3:=hold_new rZ 56 g2
 rw [hb3] at g3
 obtain ⟨W3,hW3⟩ : ∃ W3,W2.alloc (.cells #[.int .i64 0,.int .i64 0,.int .i64 0,.int .i64 0,.int .i64 0,.int .i64 0,.slice none 0 0,.int .u64 0,.slice none 0 0,.int .i64 0] 56)=W3:=⟨_,rfl⟩
 replace g3:Ev.Hold ctx (Ev.blkA b3 rZ 56 :: Ev.blkA b2 oc 114 :: Ev.blkA b1 (rV c (.slice ra rn rk) ops (.slice la n lk) pts) 56 :: Ev.slA 114 54 (.slice la n lk) n (pre++(mid++post))::r) W3:=by rw [← hW3]; exact g3
 have c8:W3.cell? ⟨b1,8,none⟩=some (.slice la n lk):=cell_of (hold_blk (hold_up [_,_] g3)) 8 _ rfl
 obtain ⟨a,k,w4,r1,g4⟩:=appOw hn h2 (hold_up [_,_,_] g3)
 obtain ⟨ba,off,kk,hav,hcc,hll⟩:=sl_some g4 (by omega) (by decide)
 cases hav
 have r2:=ld_blk (pre:=[]) (post:=[]) (o:=0) (t := 114) (by rw [List.append_nil]; exact hold_up [_,_,_] g4) rfl Tryz.underlying114 rfl (by rw [hoc]; kernel_rfl)
 obtain ⟨w5,r3,g5⟩:=st_sl (o:=off+p * 54) (t := 114) g4 (by rw [hpre]) (by rw [hoc,hmid]) h1 (by rw [hoc]; kernel_rfl) (by omega)
 have d8:w5.cell? ⟨b1,8,none⟩=some (.slice la n lk):=cell_of (hold_blk (hold_up [_,_,_,_] g5)) 8 _ rfl
 have f8:w5.frozen? ⟨b1,8,none⟩=false:=froz_of (hold_blk (hold_up [_,_,_,_] g5)) 8
 have g6:=hold_set 8 (.slice (some ⟨ba,off,none⟩) n k) (hold_up [_,_,_,_] g5)
 rw [show (rV c (.slice ra rn rk) ops (.slice la n lk) pts).set 8 (.slice (some ⟨ba,off,none⟩) n k)=rV c (.slice ra rn rk) ops (.slice (some ⟨ba,off,none⟩) n k) pts from rfl] at g6
 have hpI:(p:Int) < (n:Int):=by omega
 have r4:=ld_blk (pre:=[]) (post:=[]) (o:=0) (t := 56) (by rw [List.append_nil]; exact g6) rfl Tryz.underlying56 rfl (by kernel_rfl)
 obtain ⟨w7,r5,g7⟩:=st_blk (pre:=[]) (post:=[]) (o:=0) (t := 56) (mid:=rZ) (mid':=rV c (.slice ra rn rk) ops (.slice (some ⟨ba,off,none⟩) n k) pts) (by rw [List.append_nil]; exact hold_up [_,_,_] g6) rfl rfl (by simp [rV,Value.oneCell']) (by kernel_rfl)
 gi_wp2_with (first
  | (gi_at_builtin; refine wpListIn_append_run rfl _ _ _ rfl r1 ?_)
  | (refine wpListIn_load_run rfl _ _ rfl r2 rfl ?_)
  | (refine wpListIn_store_run rfl _ _ _ rfl r3 rfl rfl ?_)
  | (refine wpListIn_load_run rfl _ _ rfl r4 rfl ?_)
  | (refine wpListIn_store_run rfl _ _ _ rfl r5 rfl rfl ?_))
 refine post_cell rfl rfl rfl (lv_blk (pre:=[]) (post:=[]) (o:=0) (by rw [List.append_nil]; exact g7) rfl Tryz.underlying56 rfl (by kernel_rfl)) ?_
 exact ⟨_,_,rfl,hold_drop (r:=[_,_]) (hold_dn [_,_] (hold_drop (r:=[_,_]) g7))⟩
end
end Go.Proofs.YtkmccgombmogmaaGreat
namespace Go.Proofs.YtkmccgombmogmaaGreat
open Go.RowKit
open Go.Ev (iz iN)
set_option linter.unusedVariables false
set_option linter.unusedSimpArgs false
set_option maxRecDepth 8000
section
variable {ctx:Ev.Ctx} {w:World} {r:List Ev.Asr} {c:Cfg} {dv:Value} {l:List Int}
theorem slV_hi {e:TypeId} {sz n hi:Nat} {v:Value} {xs:List Value} {F:Nat→Prop} (h:Ev.SlV e sz v n xs F w) (hh:hi≤n) : Ev.SlV e sz (Ev.cutV sz v 0 hi) hi (xs.take (hi * sz)) F w:=by
 obtain ⟨h1,h3⟩:=h
 have hle:=Nat.mul_le_mul_right sz hh
 refine ⟨by rw [List.length_take,h1]; omega,?_⟩
 rcases h3 with ⟨he,rfl,hF⟩ | ⟨b,off,c,arr,rfl,hF,hb0,hx,hs,hnc⟩
 ·obtain rfl:hi=0:=by omega
  refine .inl ⟨?_,rfl,hF⟩
  rcases he with rfl | ⟨b,off,rfl⟩
  ·exact .inl rfl
  ·exact .inr ⟨b,off,by simp [Ev.cutV]⟩
 ·refine .inr ⟨b,off,c,arr,?_,hF,hb0,fun i hi'=>?_,hs,by omega⟩
  ·simp only [Ev.cutV,Nat.zero_mul,Ev.addMk,Nat.add_zero,Nat.sub_zero]
   split <;> rfl
  ·rw [hx i (by omega),List.getElem?_take,if_pos hi']
theorem cutHiI (h:Ev.Hold ctx (isA dv l::r) w) {hi:Nat} (hh:hi≤l.length) : Ev.Hold ctx (isA (Ev.cutV 1 dv 0 hi) (l.take hi)::r) w:=by
 refine h.head (fun F h1=>?_)
 have h2:=slV_hi (hi:=hi) (show Ev.SlV 3 1 dv l.length (ints l) F w from h1) hh
 show Ev.SlV 3 1 _ (l.take hi).length (ints (l.take hi)) F w
 rw [show (l.take hi).length=hi by rw [List.length_take]; omega,show ints (l.take hi)=(ints l).take (hi * 1) by rw [Nat.mul_one]; simp [ints,List.map_take]]
 exact h2
theorem cutLoI (h:Ev.Hold ctx (isA dv l::r) w) {lo:Nat} (hh:lo≤l.length) : Ev.Hold ctx (isA (Ev.cutV 1 dv lo l.length) (l.drop lo)::r) w:=by
 have h2:=h.cutLo (lo:=lo) hh
 have e1:Ev.slA 3 1 (Ev.cutV 1 dv lo l.length) (l.length - lo) ((ints l).drop (lo * 1))=isA (Ev.cutV 1 dv lo l.length) (l.drop lo):=by
  unfold isA
  rw [Nat.mul_one,ints_drop,List.length_drop]
 rwa [e1] at h2
theorem japp {u y:Value} {xs ys:List Int} (hn:xs.length+ys.length≤1000000) (hs:Ev.SlR 1 y ys.length (ints ys) w) (h:Ev.Hold ctx (isA u xs::r) w) :
  ∃ a k w',(Builtin.append_ #[35,35] 35 #[u,y]).run Tryz.prog w=.ok (.slice a (xs++ys).length k) w'∧Ev.Hold ctx (isA (.slice a (xs++ys).length k) (xs++ys)::r) w':=by
 obtain ⟨i,hi,hz,h0,hby⟩:=infInt
 have hsrc:Src Tryz.prog i.size 35 y ys.length (ints ys) w:=by rw [hz]; exact hs.src Tryz.underlying35 (one_ints ys)
 obtain ⟨a,k,w',r1,h1⟩:=happ (u:=u) (n:=xs.length) (xs:=ints xs) Tryz.underlying35 hi h0 (by rw [hz]; rfl) hsrc (by rw [hby]; omega) (by omega) (by rw [hz]; exact h)
 rw [hz] at h1
 refine ⟨a,k,w',?_,?_⟩
 ·rw [List.length_append]; exact r1
 ·show Ev.Hold ctx (Ev.slA 3 1 _ (xs++ys).length (ints (xs++ys))::r) w'
  rw [List.length_append,show ints (xs++ys)=ints xs++ints ys by simp [ints]]
  exact h1
theorem join8 (n:Nat) {a b:Value} {xs ys:List Int} (hn:xs.length+ys.length≤1000) (ha:∀ {lq:List Ev.Asr} {W:World},Ev.Hold ctx (lq++r) W→Ev.SlR 1 a xs.length (ints xs) W) (hb:∀ {lq:List Ev.Asr} {W:World},Ev.Hold ctx (lq++r) W→Ev.SlR 1 b ys.length (ints ys) W) (h:Ev.Hold ctx r w) :
  CallsIn Fence.wide n Tryz.prog 77 #[a,b] w fun e w'=>∃ a1 k1,e=.returned (.slice a1 (xs++ys).length k1)∧Ev.Hold ctx (isA (.slice a1 (xs++ys).length k1) (xs++ys)::r) w':=by
 have h0:Ev.Hold ctx (isA (.slice none 0 0) []::r) w:=h.nilSl (e := 3) (sz:=1)
 obtain ⟨a1,k1,w1,r1,h1⟩:=japp (by simp; omega) (ha (lq:=[]) h) h0
 rw [List.nil_append] at r1 h1
 obtain ⟨a2,k2,w2,r2,h2⟩:=japp (by omega) (hb (lq:=[_]) h1) h1
 obtain ⟨N,hN⟩ : ∃ N,(xs++ys).length=N:=⟨_,rfl⟩
 rw [hN] at r2 h2 ⊢
 clear hN
 refine wen Tryz.func77 10 ?_
 gi_upto_region 3 with (gi_at_builtin; refine wpListIn_append_run rfl _ _ _ rfl r1 ?_)
 gi_wp2_with (gi_at_builtin; refine wpListIn_append_run rfl _ _ _ rfl r2 ?_)
 exact bodyPost_ret (results_tmp rfl _ _ _) rfl ⟨a2,k2,rfl,h2⟩
def dputL (q:Nat) (l:List Int) (g:Int) : List Int:=if l.length < q then l++[g] else l.take (l.length - q / 2)
set_option maxHeartbeats 4000000 in
theorem dputH (n:Nat) (hq:c.q≤64) (hl:l.length≤64) (g:Int) (h:Ev.Hold ctx (isA dv l::r) w) :
  CallsIn Fence.wide n Tryz.prog 54 #[.agg #[iN c.q,dv],iz g] w fun e w'=>∃ dv' x,e=.returned (.tuple #[.agg #[iN c.q,dv'],x])∧Ev.Hold ctx (isA dv' (dputL c.q l g)::r) w':=by
 unfold dputL
 obtain ⟨da,dk,rfl⟩:=slr_val (hold_slr h)
 obtain ⟨b1,W1,hb1,hW1,q1⟩:=newN [.int .i64 (c.q:Int),.slice da l.length dk] 103 h
 obtain ⟨b2,W2,hb2,hW2,q2⟩:=newN [.int .i64 0,.slice none 0 0] 103 q1
 have gd:=hold_swap q2
 clear q1 q2
 have y0:=blkc gd 0 _
 have y1:=blkc gd 1 _
 have hd:=hold_keep gd (Below.refl _ _).drew
 have hN:=hold_new [.int .i64 g] 3 hd
 have hS:∀ {R:List Ev.Asr} {W:World},Ev.Hold ctx (Ev.blkA b1 [.int .i64 (c.q:Int),.slice da l.length dk] 103 :: R) W→W.cell? ⟨b1,0,none⟩=some (.int .i64 (c.q:Int))∧W.cell? ⟨b1,1,none⟩=some (.slice da l.length dk):=fun hh=>⟨blkc hh 0 _,blkc hh 1 _⟩
 by_cases hlt:l.length < c.q
 ·rw [if_pos hlt]
  have hlI:(l.length:Int) < (c.q:Int):=by omega
  have hj:=callsIn_wide.1 (join8 0 (a:=(.slice da l.length dk)) (b:=.slice (some ⟨W2.heap.size,0,none⟩) 1 1) (xs:=l) (ys:=[g]) (by simp; omega) (fun {lq W} hh=>hold_slr (hold_drop (r:=lq++[_,_,_]) (by rw [List.append_assoc]; exact hh))) (fun {lq W} hh=>hold_slr (hold_drop (r:=lq) hh)) (show Ev.Hold ctx _ (W2.alloc (.cells #[.int .i64 g] 3)).drew from blk_isA hN))
  obtain ⟨LG,hLG⟩ : ∃ LG,l++[g]=LG:=⟨_,rfl⟩
  rw [hLG] at hj ⊢
  refine wen Tryz.func54 40 ?_
  gi_upto_region 2 with fail
  clear hW1 hW2 hb1 hb2 hLG
  refine wpIn_wide.2 ?_
  go_region_held3 (fun W=>W.cell? ⟨b1,0,none⟩=some (.int .i64 (c.q:Int))∧W.cell? ⟨b1,1,none⟩=some (.slice da l.length dk)) ((first | exact hS hd | exact hS (hold_drop (r:=[_]) hN) | exact hS (hold_drop (r:=[_,_]) h2) | exact hS h4 | fail)) ((first
   | (have hcon:=hj; (with_reducible refine hcon.mono ?_); clear hcon; rintro e w2 ⟨a2,k2,rfl,h2⟩; have h3:=hold_up [_,_,_] h2; have x0:=blkc h3 0 _; have x1:=blkc h3 1 _; have f0:=froz_of (hold_blk h3) 0; have f1:=froz_of (hold_blk h3) 1; have h3x:=hold_set 1 (.slice a2 LG.length k2) (hold_set 0 (.int .i64 (c.q:Int)) h3); have h4:=hold_up [_,_,_] h3x)))
  gi_wp2
  exact post_cellT rfl rfl rfl (lv_all h3x Tryz.underlying103 rfl (by kernel_rfl)) ⟨_,_,rfl,hsel [_,_,_,_,_] h4 [2]⟩
 ·rw [if_neg hlt]
  have hlI:¬ (l.length:Int) < (c.q:Int):=by omega
  obtain ⟨kk,hkk⟩ : ∃ kk,l.length - c.q / 2=kk:=⟨_,rfl⟩
  have hkl:kk≤l.length:=by omega
  obtain ⟨hf,hhf⟩ : ∃ hf:Int,(c.q:Int) / 2=hf:=⟨_,rfl⟩
  have u1:IntKind.i64.wrap hf=hf:=wrap_ok (by omega) (by omega)
  have u2:IntKind.i64.wrap ((l.length:Int) - hf)=(kk:Int):=by rw [show (l.length:Int) - hf=(kk:Int) by omega]; exact wrap_ok (by omega) (by omega)
  rw [hkk]
  clear hkk
  obtain ⟨i0,hi,hz1,hz0,hz2⟩:=infInt
  have hcA:∀ W,(Instr.sliceAt 35 (.slice da l.length dk) none (some (.int .i64 (kk:Int))) none).run Tryz.prog W=.ok (Ev.cutV 1 (.slice da l.length dk) 0 kk) W:=fun W=>Ev.cut_run (kd:=.i64) (lo:=0) (hi:=kk) (.inl ⟨rfl,rfl⟩) rfl (hold_slr h) Tryz.underlying35 hi hz1 (Nat.zero_le _) hkl W
  have hcB:∀ W,(Instr.sliceAt 35 (.slice da l.length dk) (some (.int .i64 (kk:Int))) none none).run Tryz.prog W=.ok (Ev.cutV 1 (.slice da l.length dk) kk l.length) W:=fun W=>Ev.cut_runLo (lo:=kk) (hold_slr h) Tryz.underlying35 hi hz1 hkl W
  have hB:∀ {R:List Ev.Asr} {W:World},Ev.Hold ctx (isA (.slice da l.length dk) l::R) W→Ev.SlR 1 (Ev.cutV 1 (.slice da l.length dk) kk l.length) (l.drop kk).length (ints (l.drop kk)) W:=fun hh=>hold_slr (cutLoI hh hkl)
  obtain ⟨aa,ka,eA⟩:=slr_val (hold_slr (cutHiI h hkl))
  obtain ⟨ab,kb,eB⟩:=slr_val (hB h)
  obtain ⟨na,hna⟩ : ∃ na,(l.take kk).length=na:=⟨_,rfl⟩
  obtain ⟨nb,hnb⟩ : ∃ nb,(l.drop kk).length=nb:=⟨_,rfl⟩
  rw [hna] at eA
  rw [hnb] at eB
  simp only [eA] at hcA
  simp only [eB] at hcB hB
  clear hna hnb
  have hj:=callsIn_wide.1 (join8 0 (a:=.slice ab nb kb) (b:=.slice (some ⟨W2.heap.size,0,none⟩) 1 1) (xs:=l.drop kk) (ys:=[g]) (by simp; omega) (fun {lq W} hh=>hB (hold_drop (r:=lq++[_,_,_]) (by rw [List.append_assoc]; exact hh))) (fun {lq W} hh=>hold_slr (hold_drop (r:=lq) hh)) (show Ev.Hold ctx _ (W2.alloc (.cells #[.int .i64 g] 3)).drew from blk_isA hN))
  obtain ⟨LG,hLG⟩ : ∃ LG,l.drop kk++[g]=LG:=⟨_,rfl⟩
  rw [hLG] at hj
  refine wen Tryz.func54 40 ?_
  gi_upto_region 4 with fail
  clear hW1 hW2 hb1 hb2 hLG hB
  refine wpIn_wide.2 ?_
  go_region_held3 (fun W=>W.cell? ⟨b1,0,none⟩=some (.int .i64 (c.q:Int))∧W.cell? ⟨b1,1,none⟩=some (.slice da l.length dk)) ((first | exact hS hd | exact hS (hold_drop (r:=[_]) hN) | exact hS (hold_drop (r:=[_,_]) h2) | exact hS h4 | fail)) ((first
   | (have hcon:=hj; (with_reducible refine hcon.mono ?_); clear hcon; rintro e w2 ⟨a2,k2,rfl,h2⟩; have h3:=hold_up [_,_,_] h2; have x0:=blkc h3 0 _; have x1:=blkc h3 1 _; have f0:=froz_of (hold_blk h3) 0; have f1:=froz_of (hold_blk h3) 1; have h3x:=hold_set 1 (.slice aa na ka) (hold_set 0 (.int .i64 (c.q:Int)) h3); have h4:=hold_up [_,_,_] h3x)))
  gi_wp2
  exact post_cellT rfl rfl rfl (lv_all h3x Tryz.underlying103 rfl (by kernel_rfl)) ⟨_,_,rfl,(by have h5:=cutHiI (hold_drop (r:=[_,_,_,_]) h4) hkl; rw [eA] at h5; exact h5)⟩
theorem post_cellTT {P:Program} {fn:Func} {R:Ending→World→Prop} {a:Act} {v:Value} {tm tm1 tm2:Tmp} {t:TypeId} {ad:Addr} (hres:fn.results = #[.cell tm t,.tmp tm1,.tmp tm2]) (ha:a.tmps.getD tm undef=.pointer (some ad)) (hd:a.defers=[]) (hl:(loadVar t ad).run P w=.ok v w) (hR:R (.returned (.tuple #[v,a.tmps.getD tm1 undef,a.tmps.getD tm2 undef])) w) : bodyPost P fn R .ret a w:=by
 refine bodyPost_ret ?_ hd hR
 have ha':a.tmps[tm]?.getD undef=.pointer (some ad):=by simpa using ha
 simp [results,hres,ha',Go.asAddr,hl]
set_option maxHeartbeats 4000000 in
theorem dgetH (n:Nat) (hq:c.q≤64) (hl:l.length≤64) (h:Ev.Hold ctx (isA dv l::r) w) :
  CallsIn Fence.wide n Tryz.prog 56 #[.agg #[iN c.q,dv]] w fun e w'=>∃ dv' x y,e=.returned (.tuple #[.agg #[iN c.q,dv'],x,y])∧Ev.Hold ctx (isA dv' (l.drop 1)::r) w':=by
 obtain ⟨da,dk,rfl⟩:=slr_val (hold_slr h)
 obtain ⟨b1,W1,hb1,hW1,q1⟩:=newN [.int .i64 (c.q:Int),.slice da l.length dk] 103 h
 obtain ⟨b2,W2,hb2,hW2,q2⟩:=newN [.int .i64 0,.slice none 0 0] 103 q1
 have gd:=hold_swap q2
 clear q1 q2
 have y0:=blkc gd 0 _
 have y1:=blkc gd 1 _
 have hd:=hold_keep gd (Below.refl _ _).drew
 have hS:∀ {R:List Ev.Asr} {W:World},Ev.Hold ctx (Ev.blkA b1 [.int .i64 (c.q:Int),.slice da l.length dk] 103 :: R) W→W.cell? ⟨b1,0,none⟩=some (.int .i64 (c.q:Int))∧W.cell? ⟨b1,1,none⟩=some (.slice da l.length dk):=fun hh=>⟨blkc hh 0 _,blkc hh 1 _⟩
 by_cases h0:l.length=0
 ·have hlb:((l.length:Int) == 0)=true:=by
   have:(l.length:Int)=0:=by omega
   simpa using this
  have e1:l.drop 1=l:=by rw [List.eq_nil_of_length_eq_zero h0]; rfl
  clear h0
  have x0:=blkc (hold_up [_] gd) 0 _
  have x1:=blkc (hold_up [_] gd) 1 _
  have f0:=froz_of (hold_blk (hold_up [_] gd)) 0
  have f1:=froz_of (hold_blk (hold_up [_] gd)) 1
  have h3x:=hold_set 1 (.slice da l.length dk) (hold_set 0 (.int .i64 (c.q:Int)) (hold_up [_] gd))
  refine wen Tryz.func56 19 ?_
  gi_wp2
  exact post_cellTT rfl rfl rfl (lv_all h3x Tryz.underlying103 rfl (by kernel_rfl)) ⟨_,_,_,rfl,by rw [e1]; exact hold_drop (r:=[_,_]) h3x⟩
 ·have hlb:((l.length:Int) == 0)=false:=by
   have:¬ (l.length:Int)=0:=by omega
   simpa using this
  have hlI:(0:Int) < (l.length:Int):=by omega
  have hk1:1≤l.length:=by omega
  have hlN:0 < l.length:=by omega
  have hnl:¬ l=[]:=fun e=>h0 (by rw [e]; rfl)
  obtain ⟨bl,off,dk2,hv,-,-⟩:=sl_some h (by omega) (by decide)
  cases hv
  obtain ⟨g,hg⟩ : ∃ g,l[0]? = some g:=⟨_,List.getElem?_eq_getElem (by omega)⟩
  have hE:∀ {R:List Ev.Asr} {W:World},Ev.Hold ctx (isA (.slice (some ⟨bl,off,none⟩) l.length dk) l::R) W→W.cell? ⟨bl,off,none⟩=some (.int .i64 g):=fun hh=>by
   obtain ⟨_,_,_,hv,hc,_⟩:=sl_some hh (by omega) (by decide)
   cases hv
   have h0:=hc 0 (by omega)
   rw [Nat.add_zero] at h0
   rw [h0]
   simp [ints,hg]
  obtain ⟨i0,hi,hz1,hz0,hz2⟩:=infInt
  have hcB:∀ W,(Instr.sliceAt 35 (.slice (some ⟨bl,off,none⟩) l.length dk) (some (.int .i64 1)) none none).run Tryz.prog W=.ok (Ev.cutV 1 (.slice (some ⟨bl,off,none⟩) l.length dk) 1 l.length) W:=fun W=>Ev.cut_runLo (lo:=1) (hold_slr h) Tryz.underlying35 hi hz1 hk1 W
  obtain ⟨ab,kb,eB⟩:=slr_val (hold_slr (cutLoI h (lo:=1) hk1))
  simp only [eB] at hcB
  obtain ⟨nb,hnb⟩ : ∃ nb,(l.drop 1).length=nb:=⟨_,rfl⟩
  rw [hnb] at eB
  simp only [hnb] at hcB
  clear hnb
  have x0:=blkc (hold_up [_] hd) 0 _
  have x1:=blkc (hold_up [_] hd) 1 _
  have f0:=froz_of (hold_blk (hold_up [_] hd)) 0
  have f1:=froz_of (hold_blk (hold_up [_] hd)) 1
  have x2:=blkc (hold_up [_] gd) 0 _
  have x3:=blkc (hold_up [_] gd) 1 _
  have f2:=froz_of (hold_blk (hold_up [_] gd)) 0
  have f3:=froz_of (hold_blk (hold_up [_] gd)) 1
  have h3x:=hold_set 1 (.slice ab nb kb) (hold_set 0 (.int .i64 (c.q:Int)) (hold_up [_] hd))
  have h4:=hold_up [_] h3x
  have e0:=hE (hold_drop (r:=[_,_]) gd)
  refine wen Tryz.func56 19 ?_
  gi_upto_region 3 with fail
  clear hW1 hW2 hb1 hb2
  refine wpIn_wide.2 ?_
  go_region_held3 (fun W=>W.cell? ⟨b1,0,none⟩=some (.int .i64 (c.q:Int))∧W.cell? ⟨b1,1,none⟩=some (.slice (some ⟨bl,off,none⟩) l.length dk)∧W.cell? ⟨bl,off,none⟩=some (.int .i64 g)) ((first | exact ⟨blkc hd 0 _,blkc hd 1 _,hE (hold_drop (r:=[_,_]) hd)⟩ | exact ⟨blkc h4 0 _,blkc h4 1 _,hE (hold_drop (r:=[_,_]) h4)⟩ | fail)) (fail)
  all_goals
   gi_wp2
   exact post_cellTT rfl rfl rfl (lv_all h3x Tryz.underlying103 rfl (by kernel_rfl)) ⟨_,_,_,rfl,(by have h5:=cutLoI (hold_drop (r:=[_,_]) h4) hk1; rw [eB] at h5; exact h5)⟩
set_option maxHeartbeats 4000000 in
theorem dstealH (n:Nat) (hq:c.q≤64) (hl:l.length≤64) (h:Ev.Hold ctx (isA dv l::r) w) :
  CallsIn Fence.wide n Tryz.prog 89 #[.agg #[iN c.q,dv]] w fun e w'=>∃ dv' x,e=.returned (.tuple #[.agg #[iN c.q,dv'],x])∧Ev.Hold ctx (isA dv' (l.drop (l.length - l.length / 2))::r) w':=by
 obtain ⟨da,dk,rfl⟩:=slr_val (hold_slr h)
 obtain ⟨b1,W1,hb1,hW1,q1⟩:=newN [.int .i64 (c.q:Int),.slice da l.length dk] 103 h
 obtain ⟨b2,W2,hb2,hW2,q2⟩:=newN [.int .i64 0,.slice none 0 0] 103 q1
 have gd:=hold_swap q2
 clear q1 q2
 have y0:=blkc gd 0 _
 have y1:=blkc gd 1 _
 have hd:=hold_keep gd (Below.refl _ _).drew
 have hS:∀ {R:List Ev.Asr} {W:World},Ev.Hold ctx (Ev.blkA b1 [.int .i64 (c.q:Int),.slice da l.length dk] 103 :: R) W→W.cell? ⟨b1,0,none⟩=some (.int .i64 (c.q:Int))∧W.cell? ⟨b1,1,none⟩=some (.slice da l.length dk):=fun hh=>⟨blkc hh 0 _,blkc hh 1 _⟩
 obtain ⟨kk,hkk⟩ : ∃ kk,l.length - l.length / 2=kk:=⟨_,rfl⟩
 have hkl:kk≤l.length:=by omega
 obtain ⟨hf,hhf⟩ : ∃ hf:Int,(l.length:Int) / 2=hf:=⟨_,rfl⟩
 have u1:IntKind.i64.wrap hf=hf:=wrap_ok (by omega) (by omega)
 have u2:IntKind.i64.wrap ((l.length:Int) - hf)=(kk:Int):=by rw [show (l.length:Int) - hf=(kk:Int) by omega]; exact wrap_ok (by omega) (by omega)
 rw [hkk]
 clear hkk
 obtain ⟨i0,hi,hz1,hz0,hz2⟩:=infInt
 have hcA:∀ W,(Instr.sliceAt 35 (.slice da l.length dk) none (some (.int .i64 (kk:Int))) none).run Tryz.prog W=.ok (Ev.cutV 1 (.slice da l.length dk) 0 kk) W:=fun W=>Ev.cut_run (kd:=.i64) (lo:=0) (hi:=kk) (.inl ⟨rfl,rfl⟩) rfl (hold_slr h) Tryz.underlying35 hi hz1 (Nat.zero_le _) hkl W
 have hcB:∀ W,(Instr.sliceAt 35 (.slice da l.length dk) (some (.int .i64 (kk:Int))) none none).run Tryz.prog W=.ok (Ev.cutV 1 (.slice da l.length dk) kk l.length) W:=fun W=>Ev.cut_runLo (lo:=kk) (hold_slr h) Tryz.underlying35 hi hz1 hkl W
 have hB:∀ {R:List Ev.Asr} {W:World},Ev.Hold ctx (isA (.slice da l.length dk) l::R) W→Ev.SlR 1 (Ev.cutV 1 (.slice da l.length dk) kk l.length) (l.drop kk).length (ints (l.drop kk)) W:=fun hh=>hold_slr (cutLoI hh hkl)
 obtain ⟨aa,ka,eA⟩:=slr_val (hold_slr (cutHiI h hkl))
 obtain ⟨ab,kb,eB⟩:=slr_val (hB h)
 obtain ⟨na,hna⟩ : ∃ na,(l.take kk).length=na:=⟨_,rfl⟩
 obtain ⟨nb,hnb⟩ : ∃ nb,(l.drop kk).length=nb:=⟨_,rfl⟩
 rw [hna] at eA
 rw [hnb] at eB
 simp only [eA] at hcA
 simp only [eB] at hcB hB
 clear hna hnb
 have x0:=blkc (hold_up [_] hd) 0 _
 have x1:=blkc (hold_up [_] hd) 1 _
 have f0:=froz_of (hold_blk (hold_up [_] hd)) 0
 have f1:=froz_of (hold_blk (hold_up [_] hd)) 1
 have x2:=blkc (hold_up [_] gd) 0 _
 have x3:=blkc (hold_up [_] gd) 1 _
 have f2:=froz_of (hold_blk (hold_up [_] gd)) 0
 have f3:=froz_of (hold_blk (hold_up [_] gd)) 1
 have h3x:=hold_set 1 (.slice ab nb kb) (hold_set 0 (.int .i64 (c.q:Int)) (hold_up [_] hd))
 have h4:=hold_up [_] h3x
 refine wen Tryz.func89 23 ?_
 gi_upto_region 2 with fail
 clear hW1 hW2 hb1 hb2 hB
 refine wpIn_wide.2 ?_
 go_region_held3 (fun W=>W.cell? ⟨b1,0,none⟩=some (.int .i64 (c.q:Int))∧W.cell? ⟨b1,1,none⟩=some (.slice da l.length dk)) ((first | exact hS hd | exact hS h4 | fail)) (fail)
 gi_wp2
 exact post_cellT rfl rfl rfl (lv_all h3x Tryz.underlying103 rfl (by kernel_rfl)) ⟨_,_,rfl,(by have h5:=cutLoI (hold_drop (r:=[_,_]) h4) hkl; rw [eB] at h5; exact h5)⟩
set_option maxHeartbeats 4000000 in
theorem dlayH (n:Nat) {u:Value} {k:List Int} (hu:∀ {lq:List Ev.Asr} {W:World},Ev.Hold ctx (lq++r) W→Ev.SlR 1 u k.length (ints k) W) (hq:c.q≤64) (hl:l.length≤c.q) (hk:k.length≤64) (h:Ev.Hold ctx (isA dv l::r) w) :
  CallsIn Fence.wide n Tryz.prog 90 #[.agg #[iN c.q,dv],u] w fun e w'=>∃ dv' x,e=.returned (.tuple #[.agg #[iN c.q,dv'],x])∧Ev.Hold ctx (isA dv' (l++k.take (min k.length (c.q - l.length)))::r) w':=by
 obtain ⟨da,dk,rfl⟩:=slr_val (hold_slr h)
 obtain ⟨b1,W1,hb1,hW1,q1⟩:=newN [.int .i64 (c.q:Int),.slice da l.length dk] 103 h
 obtain ⟨b2,W2,hb2,hW2,q2⟩:=newN [.int .i64 0,.slice none 0 0] 103 q1
 have gd:=hold_swap q2
 clear q1 q2
 have y0:=blkc gd 0 _
 have y1:=blkc gd 1 _
 have hd:=hold_keep gd (Below.refl _ _).drew
 have hS:∀ {R:List Ev.Asr} {W:World},Ev.Hold ctx (Ev.blkA b1 [.int .i64 (c.q:Int),.slice da l.length dk] 103 :: R) W→W.cell? ⟨b1,0,none⟩=some (.int .i64 (c.q:Int))∧W.cell? ⟨b1,1,none⟩=some (.slice da l.length dk):=fun hh=>⟨blkc hh 0 _,blkc hh 1 _⟩
 obtain ⟨ua,uk,rfl⟩:=slr_val (hu (lq:=[_]) h)
 obtain ⟨kk,hkk⟩ : ∃ kk,min k.length (c.q - l.length)=kk:=⟨_,rfl⟩
 have hkl:kk≤k.length:=by omega
 have u1:IntKind.i64.wrap ((c.q:Int) - (l.length:Int))=(c.q:Int) - (l.length:Int):=wrap_ok (by omega) (by omega)
 have u2:min (k.length:Int) ((c.q:Int) - (l.length:Int))=(kk:Int):=by omega
 rw [hkk]
 clear hkk
 obtain ⟨i0,hi,hz1,hz0,hz2⟩:=infInt
 have hcA:∀ W,(Instr.sliceAt 35 (.slice ua k.length uk) none (some (.int .i64 (kk:Int))) none).run Tryz.prog W=.ok (Ev.cutV 1 (.slice ua k.length uk) 0 kk) W:=fun W=>Ev.cut_run (kd:=.i64) (lo:=0) (hi:=kk) (.inl ⟨rfl,rfl⟩) rfl (hu (lq:=[_]) h) Tryz.underlying35 hi hz1 (Nat.zero_le _) hkl W
 have hB:∀ {lq:List Ev.Asr} {W:World},Ev.Hold ctx (lq++r) W→Ev.SlR 1 (Ev.cutV 1 (.slice ua k.length uk) 0 kk) (k.take kk).length (ints (k.take kk)) W:=fun {lq W} hh=>by
  have h1:=(hu hh).cut (lo:=0) (hi:=kk) (Nat.zero_le _) hkl
  rw [Nat.zero_mul,List.drop_zero,Nat.mul_one,Nat.sub_zero] at h1
  rw [List.length_take,Nat.min_eq_left hkl,show ints (k.take kk)=(ints k).take kk by simp [ints,List.map_take]]
  exact h1
 obtain ⟨CU,hCU⟩ : ∃ CU,Ev.cutV 1 (.slice ua k.length uk) 0 kk=CU:=⟨_,rfl⟩
 simp only [hCU] at hcA hB
 have hj:=callsIn_wide.1 (join8 0 (a:=(.slice da l.length dk)) (b:=CU) (xs:=l) (ys:=k.take kk) (by simp; omega) (fun {lq W} hh=>hold_slr (hold_drop (r:=lq++[_,_]) (by rw [List.append_assoc]; exact hh))) (fun {lq W} hh=>hB (lq:=lq++[_,_,_]) (by rw [List.append_assoc]; exact hh)) hd)
 obtain ⟨LG,hLG⟩ : ∃ LG,l++k.take kk=LG:=⟨_,rfl⟩
 rw [hLG] at hj ⊢
 refine wen Tryz.func90 24 ?_
 gi_upto_region 2 with fail
 clear hW1 hW2 hb1 hb2 hLG hB hCU hu
 refine wpIn_wide.2 ?_
 go_region_held3 (fun W=>W.cell? ⟨b1,0,none⟩=some (.int .i64 (c.q:Int))∧W.cell? ⟨b1,1,none⟩=some (.slice da l.length dk)) ((first | exact hS hd | exact hS (hold_drop (r:=[_]) h2) | exact hS h4 | fail)) ((first
  | (have hcon:=hj; (with_reducible refine hcon.mono ?_); clear hcon; rintro e w2 ⟨a2,k2,rfl,h2⟩; have h3:=hold_up [_,_] h2; have x0:=blkc h3 0 _; have x1:=blkc h3 1 _; have f0:=froz_of (hold_blk h3) 0; have f1:=froz_of (hold_blk h3) 1; have h3x:=hold_set 1 (.slice a2 LG.length k2) (hold_set 0 (.int .i64 (c.q:Int)) h3); have h4:=hold_up [_,_] h3x)))
 gi_wp2
 exact post_cellT rfl rfl rfl (lv_all h3x Tryz.underlying103 rfl (by kernel_rfl)) ⟨_,_,rfl,hsel [_,_,_,_] h4 [2]⟩
end
end Go.Proofs.YtkmccgombmogmaaGreat
