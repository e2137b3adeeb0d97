/- Part of a proof: see the last text. -/
import Derived.Test.YtimhpaijbbegaaaZw2
namespace Go.Proofs.Ytimhpaijbbegaaa
open Go.RowKit
set_option linter.unusedVariables false
set_option linter.unusedSimpArgs false
theorem fldWait (x0 x1 x2 x3 x4 x5 x6 x7:Value) (w:World) : (Instr.field 70 (.agg #[x0,x1,x2,x3,x4,x5,x6,x7]) 0).run Try.prog w=.ok (.agg #[x0,x1,x2,x3]) w:=by kernel_rfl
theorem fldCt0 (x0 x1 x2 x3:Value) (w:World) : (Instr.field 28 (.agg #[x0,x1,x2,x3]) 0).run Try.prog w=.ok x0 w:=by kernel_rfl
theorem fldCt1 (x0 x1 x2 x3:Value) (w:World) : (Instr.field 28 (.agg #[x0,x1,x2,x3]) 1).run Try.prog w=.ok x1 w:=by kernel_rfl
theorem fldCt2 (x0 x1 x2 x3:Value) (w:World) : (Instr.field 28 (.agg #[x0,x1,x2,x3]) 2).run Try.prog w=.ok x2 w:=by kernel_rfl
theorem fldCt3 (x0 x1 x2 x3:Value) (w:World) : (Instr.field 28 (.agg #[x0,x1,x2,x3]) 3).run Try.prog w=.ok x3 w:=by kernel_rfl
set_option maxRecDepth 4000 in
theorem wSince_in (m:Nat) (B:Nat) (v:Value) (c:Ct) (L:List Wt) (g:Int) (w:World) (hB:w.heap[B]? = some (Obj.cells #[v,iZ c.si,iZ c.by_,iZ c.mv,.bool c.bk] 30 (0,0))) (hv:MpAt w.heap.size w v L) (ha:Apart L) (hl:∀ x ∈ L,wfG x.g) (hg:wfG g) :
  CallsIn Fence.wide m Try.prog 16 #[.pointer (some ⟨B,0,none⟩),iZ g] w fun e w'=>e=.returned (iZ (pw ((ofW L g).getD (w0 g))).si)∧Below w.heap.size w w':=by
 refine callsIn_of_wp Try.func16 rfl trivial ?_ rfl
 simp only [Try.ntmps16,List.size_toArray,List.length_cons,List.length_nil,Nat.reduceAdd,Nat.reduceSub,Array.replicate_succ,Array.replicate_zero,List.push_toArray,List.append_toArray,List.nil_append,List.cons_append]
 dsimp only [iZ]
 gi_wp2
 refine ⟨trivial,fun h=>by simp [Fence.wide] at h,(wof_in (m - 1) B v c L g w hB hv ha hl hg).mono ?_⟩
 obtain ⟨y,hy⟩ : ∃ y,pw ((ofW L g).getD (w0 g))=y:=⟨_,rfl⟩
 rw [hy]
 obtain ⟨si,by_,mv,bk,li,⟨xk,xa,xh⟩⟩:=y
 rintro e w' ⟨rfl,hb⟩
 dsimp only [Wp.cs,iZ,iM]
 have q1:=fldWait
 have q2:=fldCt0
 gi_wp2
 exact bodyPost_ret (results_tmp rfl _ _ _) rfl ⟨by rw [hy]; rfl,hb⟩
set_option maxRecDepth 4000 in
theorem wBypassed_in (m:Nat) (B:Nat) (v:Value) (c:Ct) (L:List Wt) (g:Int) (w:World) (hB:w.heap[B]? = some (Obj.cells #[v,iZ c.si,iZ c.by_,iZ c.mv,.bool c.bk] 30 (0,0))) (hv:MpAt w.heap.size w v L) (ha:Apart L) (hl:∀ x ∈ L,wfG x.g) (hg:wfG g) :
  CallsIn Fence.wide m Try.prog 17 #[.pointer (some ⟨B,0,none⟩),iZ g] w fun e w'=>e=.returned (iZ (pw ((ofW L g).getD (w0 g))).by_)∧Below w.heap.size w w':=by
 refine callsIn_of_wp Try.func17 rfl trivial ?_ rfl
 simp only [Try.ntmps17,List.size_toArray,List.length_cons,List.length_nil,Nat.reduceAdd,Nat.reduceSub,Array.replicate_succ,Array.replicate_zero,List.push_toArray,List.append_toArray,List.nil_append,List.cons_append]
 dsimp only [iZ]
 gi_wp2
 refine ⟨trivial,fun h=>by simp [Fence.wide] at h,(wof_in (m - 1) B v c L g w hB hv ha hl hg).mono ?_⟩
 obtain ⟨y,hy⟩ : ∃ y,pw ((ofW L g).getD (w0 g))=y:=⟨_,rfl⟩
 rw [hy]
 obtain ⟨si,by_,mv,bk,li,⟨xk,xa,xh⟩⟩:=y
 rintro e w' ⟨rfl,hb⟩
 dsimp only [Wp.cs,iZ,iM]
 have q1:=fldWait
 have q2:=fldCt1
 gi_wp2
 exact bodyPost_ret (results_tmp rfl _ _ _) rfl ⟨by rw [hy]; rfl,hb⟩
set_option maxRecDepth 4000 in
theorem wMoves_in (m:Nat) (B:Nat) (v:Value) (c:Ct) (L:List Wt) (g:Int) (w:World) (hB:w.heap[B]? = some (Obj.cells #[v,iZ c.si,iZ c.by_,iZ c.mv,.bool c.bk] 30 (0,0))) (hv:MpAt w.heap.size w v L) (ha:Apart L) (hl:∀ x ∈ L,wfG x.g) (hg:wfG g) :
  CallsIn Fence.wide m Try.prog 18 #[.pointer (some ⟨B,0,none⟩),iZ g] w fun e w'=>e=.returned (iZ (pw ((ofW L g).getD (w0 g))).mv)∧Below w.heap.size w w':=by
 refine callsIn_of_wp Try.func18 rfl trivial ?_ rfl
 simp only [Try.ntmps18,List.size_toArray,List.length_cons,List.length_nil,Nat.reduceAdd,Nat.reduceSub,Array.replicate_succ,Array.replicate_zero,List.push_toArray,List.append_toArray,List.nil_append,List.cons_append]
 dsimp only [iZ]
 gi_wp2
 refine ⟨trivial,fun h=>by simp [Fence.wide] at h,(wof_in (m - 1) B v c L g w hB hv ha hl hg).mono ?_⟩
 obtain ⟨y,hy⟩ : ∃ y,pw ((ofW L g).getD (w0 g))=y:=⟨_,rfl⟩
 rw [hy]
 obtain ⟨si,by_,mv,bk,li,⟨xk,xa,xh⟩⟩:=y
 rintro e w' ⟨rfl,hb⟩
 dsimp only [Wp.cs,iZ,iM]
 have q1:=fldWait
 have q2:=fldCt2
 gi_wp2
 exact bodyPost_ret (results_tmp rfl _ _ _) rfl ⟨by rw [hy]; rfl,hb⟩
set_option maxRecDepth 4000 in
theorem wBack_in (m:Nat) (B:Nat) (v:Value) (c:Ct) (L:List Wt) (g:Int) (w:World) (hB:w.heap[B]? = some (Obj.cells #[v,iZ c.si,iZ c.by_,iZ c.mv,.bool c.bk] 30 (0,0))) (hv:MpAt w.heap.size w v L) (ha:Apart L) (hl:∀ x ∈ L,wfG x.g) (hg:wfG g) :
  CallsIn Fence.wide m Try.prog 19 #[.pointer (some ⟨B,0,none⟩),iZ g] w fun e w'=>e=.returned (.bool (pw ((ofW L g).getD (w0 g))).bk)∧Below w.heap.size w w':=by
 refine callsIn_of_wp Try.func19 rfl trivial ?_ rfl
 simp only [Try.ntmps19,List.size_toArray,List.length_cons,List.length_nil,Nat.reduceAdd,Nat.reduceSub,Array.replicate_succ,Array.replicate_zero,List.push_toArray,List.append_toArray,List.nil_append,List.cons_append]
 dsimp only [iZ]
 gi_wp2
 refine ⟨trivial,fun h=>by simp [Fence.wide] at h,(wof_in (m - 1) B v c L g w hB hv ha hl hg).mono ?_⟩
 obtain ⟨y,hy⟩ : ∃ y,pw ((ofW L g).getD (w0 g))=y:=⟨_,rfl⟩
 rw [hy]
 obtain ⟨si,by_,mv,bk,li,⟨xk,xa,xh⟩⟩:=y
 rintro e w' ⟨rfl,hb⟩
 dsimp only [Wp.cs,iZ,iM]
 have q1:=fldWait
 have q2:=fldCt3
 gi_wp2
 exact bodyPost_ret (results_tmp rfl _ _ _) rfl ⟨by rw [hy]; rfl,hb⟩
theorem results_tmps4 {P:Program} {fn:Func} {w:World} {t1 t2 t3 t4:Tmp} (hres:fn.results = #[.tmp t1,.tmp t2,.tmp t3,.tmp t4]) (tm:Array Value) : (results fn tm).run P w=.ok (.tuple #[tm.getD t1 undef,tm.getD t2 undef,tm.getD t3 undef,tm.getD t4 undef]) w:=by
 simp [results,hres]
set_option maxRecDepth 4000 in
set_option maxHeartbeats 2000000 in
theorem wMost_in (m:Nat) (B:Nat) (v:Value) (c:Ct) (w:World) (hB:w.heap[B]? = some (Obj.cells #[v,iZ c.si,iZ c.by_,iZ c.mv,.bool c.bk] 30 (0,0))) :
  CallsIn Fence.wide m Try.prog 12 #[.pointer (some ⟨B,0,none⟩)] w fun e w'=>e=.returned (.tuple #[iZ c.si,iZ c.by_,iZ c.mv,.bool c.bk])∧Below w.heap.size w w':=by
 refine callsIn_of_wp Try.func12 rfl trivial ?_ rfl
 simp only [Try.ntmps12,List.size_toArray,List.length_cons,List.length_nil,Nat.reduceAdd,Nat.reduceSub,Array.replicate_succ,Array.replicate_zero,List.push_toArray,List.append_toArray,List.nil_append,List.cons_append]
 have c1:=cell_of hB 1 _ rfl
 have c2:=cell_of hB 2 _ rfl
 have c3:=cell_of hB 3 _ rfl
 have c4:=cell_of hB 4 _ rfl
 dsimp only [iZ] at c1 c2 c3 c4 ⊢
 gi_wp2
 refine wpIn_wide.2 ?_
 have hBd:Below w.heap.size w w.drew:=(Below.refl _ w).drew
 go_region_held3 (fun w'=>w'.cell? ⟨B,1,none⟩=some (.int .i64 c.si)∧w'.cell? ⟨B,2,none⟩=some (.int .i64 c.by_)∧w'.cell? ⟨B,3,none⟩=some (.int .i64 c.mv)∧w'.cell? ⟨B,4,none⟩=some (.bool c.bk)∧Below w.heap.size w w') ((exact ⟨c1,c2,c3,c4,hBd⟩)) ((first | (fail)))
 gi_wp2
 exact bodyPost_ret (results_tmps4 rfl _) rfl ⟨rfl,hBd⟩
set_option maxRecDepth 4000 in
set_option maxHeartbeats 2000000 in
theorem wFits_in (m:Nat) (B:Nat) (v:Value) (c:Ct) (k0 k1 k2 k3 k4 k5:Value) (G Q:Int) (w:World) (hB:w.heap[B]? = some (Obj.cells #[v,iZ c.si,iZ c.by_,iZ c.mv,.bool c.bk] 30 (0,0))) (hG:0≤G∧G < 1000) (hQ:0≤Q∧Q < 1000) :
  CallsIn Fence.wide m Try.prog 13 #[.pointer (some ⟨B,0,none⟩),.agg #[k0,iZ Q,iZ G,k3,k4,k5]] w fun e w'=>e=.returned (.bool (!c.bk && decide (c.mv≤1) && decide (c.by_≤G+2 * Q)))∧Below w.heap.size w w':=by
 refine callsIn_of_wp Try.func13 rfl trivial ?_ rfl
 simp only [Try.ntmps13,List.size_toArray,List.length_cons,List.length_nil,Nat.reduceAdd,Nat.reduceSub,Array.replicate_succ,Array.replicate_zero,List.push_toArray,List.append_toArray,List.nil_append,List.cons_append]
 obtain ⟨W1,hW1⟩ : ∃ W1,w.alloc (.cells #[k0,iZ Q,iZ G,k3,k4,k5] 24)=W1:=⟨_,rfl⟩
 have hb1:Below w.heap.size w W1:=hW1 ▸ (Below.refl _ w).alloc (Nat.le_refl _) _
 have hlt:B < w.heap.size:=(Array.getElem?_eq_some_iff.1 hB).1
 have hz:W1.heap[w.heap.size]? = some (Obj.cells #[k0,iZ Q,iZ G,k3,k4,k5] 24 (0,0)):=by rw [← hW1]; exact World.alloc_heap_new _ _
 have hB1:=(hb1.block B hlt).trans hB
 have c1:=cell_of hB1 1 _ rfl
 have c2:=cell_of hB1 2 _ rfl
 have c3:=cell_of hB1 3 _ rfl
 have c4:=cell_of hB1 4 _ rfl
 have d1:=cell_of hz 1 _ rfl
 have d2:=cell_of hz 2 _ rfl
 dsimp only [iZ] at c1 c2 c3 c4 d1 d2 hW1 ⊢
 have w1:IntKind.i64.wrap (2 * Q)=2 * Q:=IntWalk.i64_in _ (by omega)
 have w2:IntKind.i64.wrap (G+2 * Q)=G+2 * Q:=IntWalk.i64_in _ (by omega)
 obtain ⟨si,by_,mv,bk⟩:=c
 dsimp only at c1 c2 c3 c4 ⊢
 gi_wp2
 refine wpIn_wide.2 ?_
 have hBd:Below w.heap.size w W1.drew:=hb1.drew
 cases bk
 case true =>
  refine wp_region_held_drew (S:=(fun w'=>w'.cell? ⟨B,2,none⟩=some (.int .i64 by_)∧w'.cell? ⟨B,3,none⟩=some (.int .i64 mv)∧w'.cell? ⟨B,4,none⟩=some (.bool true)∧w'.cell? ⟨w.heap.size,1,none⟩=some (.int .i64 Q)∧w'.cell? ⟨w.heap.size,2,none⟩=some (.int .i64 G)∧Below w.heap.size w w')) (by kernel_rfl) ?_ (fun hHeld=>?_)
  ·exact ⟨c2,c3,c4,d1,d2,hBd⟩
  refine wpAnyH_take (i:=0) (v:=?va0) rfl (by kernel_rfl) (by kernel_rfl) (by kernel_rfl) (fun _ _ _ h=>h) (Or.inl ⟨by kernel_rfl,?ya0⟩) (by assumption) ?ra0
  case ya0=>first | ((intro w hSw; (try dsimp only at hSw); go_simp); done) | ((intro w hSw; (try dsimp only at hSw); go_simp); with_reducible rfl)
  simp only [Act.put,List.getElem_toArray,List.getElem_cons_succ,List.getElem_cons_zero,List.setIfInBounds_toArray,List.set_cons_zero,List.set_cons_succ]
  refine wpAnyH_take (i:=1) (v:=?va1) rfl (by kernel_rfl) (by kernel_rfl) (by kernel_rfl) (fun _ _ _ h=>h) (Or.inl ⟨by kernel_rfl,?ya1⟩) (by assumption) ?ra1
  case ya1=>first | ((intro w hSw; (try dsimp only at hSw); go_simp); done) | ((intro w hSw; (try dsimp only at hSw); go_simp); with_reducible rfl)
  simp only [Act.put,List.getElem_toArray,List.getElem_cons_succ,List.getElem_cons_zero,List.setIfInBounds_toArray,List.set_cons_zero,List.set_cons_succ]
  refine wpAnyH_take (i:=2) (v:=?va2) rfl (by kernel_rfl) (by kernel_rfl) (by kernel_rfl) (fun _ _ _ h=>h) (Or.inl ⟨by kernel_rfl,?ya2⟩) (by assumption) ?ra2
  case ya2=>first | ((intro w hSw; (try dsimp only at hSw); go_simp); done) | ((intro w hSw; (try dsimp only at hSw); go_simp); with_reducible rfl)
  simp only [Act.put,List.getElem_toArray,List.getElem_cons_succ,List.getElem_cons_zero,List.setIfInBounds_toArray,List.set_cons_zero,List.set_cons_succ]
  refine wpAnyH_take (i:=3) (v:=?va3) rfl (by kernel_rfl) (by kernel_rfl) (by kernel_rfl) (fun _ _ _ h=>h) (Or.inl ⟨by kernel_rfl,?ya3⟩) (by assumption) ?ra3
  case ya3=>first | ((intro w hSw; (try dsimp only at hSw); go_simp); done) | ((intro w hSw; (try dsimp only at hSw); go_simp); with_reducible rfl)
  simp only [Act.put,List.getElem_toArray,List.getElem_cons_succ,List.getElem_cons_zero,List.setIfInBounds_toArray,List.set_cons_zero,List.set_cons_succ]
  refine wpAnyH_take (i:=4) (v:=?va4) rfl (by kernel_rfl) (by kernel_rfl) (by kernel_rfl) (fun _ _ _ h=>h) (Or.inl ⟨by kernel_rfl,?ya4⟩) (by assumption) ?ra4
  case ya4=>first | ((intro w hSw; (try dsimp only at hSw); go_simp); done) | ((intro w hSw; (try dsimp only at hSw); go_simp); with_reducible rfl)
  simp only [Act.put,List.getElem_toArray,List.getElem_cons_succ,List.getElem_cons_zero,List.setIfInBounds_toArray,List.set_cons_zero,List.set_cons_succ]
  refine wpAnyH_take (i:=5) (v:=?va5) rfl (by kernel_rfl) (by kernel_rfl) (by kernel_rfl) (fun _ _ _ h=>h) (Or.inl ⟨by kernel_rfl,?ya5⟩) (by assumption) ?ra5
  case ya5=>first | ((intro w hSw; (try dsimp only at hSw); go_simp); done) | ((intro w hSw; (try dsimp only at hSw); go_simp); with_reducible rfl)
  simp only [Act.put,List.getElem_toArray,List.getElem_cons_succ,List.getElem_cons_zero,List.setIfInBounds_toArray,List.set_cons_zero,List.set_cons_succ]
  refine wpAnyH_take (i:=6) (v:=?va6) rfl (by kernel_rfl) (by kernel_rfl) (by kernel_rfl) (fun _ _ _ h=>h) (Or.inl ⟨by kernel_rfl,?ya6⟩) (by assumption) ?ra6
  case ya6=>first | ((intro w hSw; (try dsimp only at hSw); go_simp); done) | ((intro w hSw; (try dsimp only at hSw); go_simp); with_reducible rfl)
  simp only [Act.put,List.getElem_toArray,List.getElem_cons_succ,List.getElem_cons_zero,List.setIfInBounds_toArray,List.set_cons_zero,List.set_cons_succ]
  refine wpAnyH_take (i:=7) (v:=?va7) rfl (by kernel_rfl) (by kernel_rfl) (by kernel_rfl) (fun _ _ _ h=>h) (Or.inl ⟨by kernel_rfl,?ya7⟩) (by assumption) ?ra7
  case ya7=>first | ((intro w hSw; (try dsimp only at hSw); go_simp); done) | ((intro w hSw; (try dsimp only at hSw); go_simp); with_reducible rfl)
  simp only [Act.put,List.getElem_toArray,List.getElem_cons_succ,List.getElem_cons_zero,List.setIfInBounds_toArray,List.set_cons_zero,List.set_cons_succ]
  refine wpAnyH_take (i:=8) (v:=?va8) rfl (by kernel_rfl) (by kernel_rfl) (by kernel_rfl) (fun _ _ _ h=>h) (Or.inl ⟨by kernel_rfl,?ya8⟩) (by assumption) ?ra8
  case ya8=>first | ((intro w hSw; (try dsimp only at hSw); go_simp); done) | ((intro w hSw; (try dsimp only at hSw); go_simp); with_reducible rfl)
  simp only [Act.put,List.getElem_toArray,List.getElem_cons_succ,List.getElem_cons_zero,List.setIfInBounds_toArray,List.set_cons_zero,List.set_cons_succ]
  refine wpAnyH_take (i:=9) (v:=?va9) rfl (by kernel_rfl) (by kernel_rfl) (by kernel_rfl) (fun _ _ _ h=>h) (Or.inl ⟨by kernel_rfl,?ya9⟩) (by assumption) ?ra9
  case ya9=>first | ((intro w hSw; (try dsimp only at hSw); go_simp); done) | ((intro w hSw; (try dsimp only at hSw); go_simp); with_reducible rfl)
  simp only [Act.put,List.getElem_toArray,List.getElem_cons_succ,List.getElem_cons_zero,List.setIfInBounds_toArray,List.set_cons_zero,List.set_cons_succ]
  refine wpAnyH_take (i:=10) (v:=undef) rfl (by kernel_rfl) (by kernel_rfl) (by kernel_rfl) (fun _ _ _ h=>h) (Or.inr ⟨by kernel_rfl,rfl⟩) (by assumption) ?_
  simp only [Act.put,List.getElem_toArray,List.getElem_cons_succ,List.getElem_cons_zero,List.setIfInBounds_toArray,List.set_cons_zero,List.set_cons_succ]
  refine wpAnyH_take (i:=11) (v:=undef) rfl (by kernel_rfl) (by kernel_rfl) (by kernel_rfl) (fun _ _ _ h=>h) (Or.inr ⟨by kernel_rfl,rfl⟩) (by assumption) ?_
  simp only [Act.put,List.getElem_toArray,List.getElem_cons_succ,List.getElem_cons_zero,List.setIfInBounds_toArray,List.set_cons_zero,List.set_cons_succ]
  refine wpAnyH_take (i:=12) (v:=undef) rfl (by kernel_rfl) (by kernel_rfl) (by kernel_rfl) (fun _ _ _ h=>h) (Or.inr ⟨by kernel_rfl,rfl⟩) (by assumption) ?_
  simp only [Act.put,List.getElem_toArray,List.getElem_cons_succ,List.getElem_cons_zero,List.setIfInBounds_toArray,List.set_cons_zero,List.set_cons_succ]
  refine wpAnyH_take (i:=13) (v:=undef) rfl (by kernel_rfl) (by kernel_rfl) (by kernel_rfl) (fun _ _ _ h=>h) (Or.inr ⟨by kernel_rfl,rfl⟩) (by assumption) ?_
  simp only [Act.put,List.getElem_toArray,List.getElem_cons_succ,List.getElem_cons_zero,List.setIfInBounds_toArray,List.set_cons_zero,List.set_cons_succ]
  refine wpAnyH_take (i:=14) (v:=undef) rfl (by kernel_rfl) (by kernel_rfl) (by kernel_rfl) (fun _ _ _ h=>h) (Or.inr ⟨by kernel_rfl,rfl⟩) (by assumption) ?_
  simp only [Act.put,List.getElem_toArray,List.getElem_cons_succ,List.getElem_cons_zero,List.setIfInBounds_toArray,List.set_cons_zero,List.set_cons_succ]
  refine wpAnyH_take (i:=15) (v:=undef) rfl (by kernel_rfl) (by kernel_rfl) (by kernel_rfl) (fun _ _ _ h=>h) (Or.inr ⟨by kernel_rfl,rfl⟩) (by assumption) ?_
  simp only [Act.put,List.getElem_toArray,List.getElem_cons_succ,List.getElem_cons_zero,List.setIfInBounds_toArray,List.set_cons_zero,List.set_cons_succ]
  refine wpAnyH_take (i:=16) (v:=?va16) rfl (by kernel_rfl) (by kernel_rfl) (by kernel_rfl) (fun _ _ _ h=>h) (Or.inl ⟨by kernel_rfl,?ya16⟩) (by assumption) ?ra16
  case ya16=>first | ((intro w hSw; (try dsimp only at hSw); go_simp); done) | ((intro w hSw; (try dsimp only at hSw); go_simp); with_reducible rfl)
  simp only [Act.put,List.getElem_toArray,List.getElem_cons_succ,List.getElem_cons_zero,List.setIfInBounds_toArray,List.set_cons_zero,List.set_cons_succ]
  refine wpAnyH_take (i:=17) (v:=?va17) rfl (by kernel_rfl) (by kernel_rfl) (by kernel_rfl) (fun _ _ _ h=>h) (Or.inl ⟨by kernel_rfl,?ya17⟩) (by assumption) ?ra17
  case ya17=>first | ((intro w hSw; (try dsimp only at hSw); go_simp); done) | ((intro w hSw; (try dsimp only at hSw); go_simp); with_reducible rfl)
  simp only [Act.put,List.getElem_toArray,List.getElem_cons_succ,List.getElem_cons_zero,List.setIfInBounds_toArray,List.set_cons_zero,List.set_cons_succ]
  refine wpAnyH_take (i:=18) (v:=undef) rfl (by kernel_rfl) (by kernel_rfl) (by kernel_rfl) (fun _ _ _ h=>h) (Or.inr ⟨by kernel_rfl,rfl⟩) (by assumption) ?_
  simp only [Act.put,List.getElem_toArray,List.getElem_cons_succ,List.getElem_cons_zero,List.setIfInBounds_toArray,List.set_cons_zero,List.set_cons_succ]
  refine wpAnyH_take (i:=19) (v:=undef) rfl (by kernel_rfl) (by kernel_rfl) (by kernel_rfl) (fun _ _ _ h=>h) (Or.inr ⟨by kernel_rfl,rfl⟩) (by assumption) ?_
  simp only [Act.put,List.getElem_toArray,List.getElem_cons_succ,List.getElem_cons_zero,List.setIfInBounds_toArray,List.set_cons_zero,List.set_cons_succ]
  refine wpAnyH_take (i:=20) (v:=undef) rfl (by kernel_rfl) (by kernel_rfl) (by kernel_rfl) (fun _ _ _ h=>h) (Or.inr ⟨by kernel_rfl,rfl⟩) (by assumption) ?_
  simp only [Act.put,List.getElem_toArray,List.getElem_cons_succ,List.getElem_cons_zero,List.setIfInBounds_toArray,List.set_cons_zero,List.set_cons_succ]
  refine wpAnyH_take (i:=21) (v:=undef) rfl (by kernel_rfl) (by kernel_rfl) (by kernel_rfl) (fun _ _ _ h=>h) (Or.inr ⟨by kernel_rfl,rfl⟩) (by assumption) ?_
  simp only [Act.put,List.getElem_toArray,List.getElem_cons_succ,List.getElem_cons_zero,List.setIfInBounds_toArray,List.set_cons_zero,List.set_cons_succ]
  refine wpAnyH_take (i:=22) (v:=undef) rfl (by kernel_rfl) (by kernel_rfl) (by kernel_rfl) (fun _ _ _ h=>h) (Or.inr ⟨by kernel_rfl,rfl⟩) (by assumption) ?_
  simp only [Act.put,List.getElem_toArray,List.getElem_cons_succ,List.getElem_cons_zero,List.setIfInBounds_toArray,List.set_cons_zero,List.set_cons_succ]
  refine wpAnyH_take (i:=23) (v:=undef) rfl (by kernel_rfl) (by kernel_rfl) (by kernel_rfl) (fun _ _ _ h=>h) (Or.inr ⟨by kernel_rfl,rfl⟩) (by assumption) ?_
  simp only [Act.put,List.getElem_toArray,List.getElem_cons_succ,List.getElem_cons_zero,List.setIfInBounds_toArray,List.set_cons_zero,List.set_cons_succ]
  refine wpAnyH_take (i:=24) (v:=undef) rfl (by kernel_rfl) (by kernel_rfl) (by kernel_rfl) (fun _ _ _ h=>h) (Or.inr ⟨by kernel_rfl,rfl⟩) (by assumption) ?_
  simp only [Act.put,List.getElem_toArray,List.getElem_cons_succ,List.getElem_cons_zero,List.setIfInBounds_toArray,List.set_cons_zero,List.set_cons_succ]
  refine wpAnyH_take (i:=25) (v:=undef) rfl (by kernel_rfl) (by kernel_rfl) (by kernel_rfl) (fun _ _ _ h=>h) (Or.inr ⟨by kernel_rfl,rfl⟩) (by assumption) ?_
  simp only [Act.put,List.getElem_toArray,List.getElem_cons_succ,List.getElem_cons_zero,List.setIfInBounds_toArray,List.set_cons_zero,List.set_cons_succ]
  refine wpAnyH_take (i:=26) (v:=undef) rfl (by kernel_rfl) (by kernel_rfl) (by kernel_rfl) (fun _ _ _ h=>h) (Or.inr ⟨by kernel_rfl,rfl⟩) (by assumption) ?_
  simp only [Act.put,List.getElem_toArray,List.getElem_cons_succ,List.getElem_cons_zero,List.setIfInBounds_toArray,List.set_cons_zero,List.set_cons_succ]
  refine wpAnyH_take (i:=27) (v:=undef) rfl (by kernel_rfl) (by kernel_rfl) (by kernel_rfl) (fun _ _ _ h=>h) (Or.inr ⟨by kernel_rfl,rfl⟩) (by assumption) ?_
  simp only [Act.put,List.getElem_toArray,List.getElem_cons_succ,List.getElem_cons_zero,List.setIfInBounds_toArray,List.set_cons_zero,List.set_cons_succ]
  refine wpAnyH_take (i:=28) (v:=undef) rfl (by kernel_rfl) (by kernel_rfl) (by kernel_rfl) (fun _ _ _ h=>h) (Or.inr ⟨by kernel_rfl,rfl⟩) (by assumption) ?_
  simp only [Act.put,List.getElem_toArray,List.getElem_cons_succ,List.getElem_cons_zero,List.setIfInBounds_toArray,List.set_cons_zero,List.set_cons_succ]
  refine wpAnyH_take (i:=29) (v:=undef) rfl (by kernel_rfl) (by kernel_rfl) (by kernel_rfl) (fun _ _ _ h=>h) (Or.inr ⟨by kernel_rfl,rfl⟩) (by assumption) ?_
  simp only [Act.put,List.getElem_toArray,List.getElem_cons_succ,List.getElem_cons_zero,List.setIfInBounds_toArray,List.set_cons_zero,List.set_cons_succ]
  refine wpAnyH_take (i:=30) (v:=?va30) rfl (by kernel_rfl) (by kernel_rfl) (by kernel_rfl) (fun _ _ _ h=>h) (Or.inl ⟨by kernel_rfl,?ya30⟩) (by assumption) ?ra30
  case ya30=>first | ((intro w hSw; (try dsimp only at hSw); go_simp); done) | ((intro w hSw; (try dsimp only at hSw); go_simp); with_reducible rfl)
  simp only [Act.put,List.getElem_toArray,List.getElem_cons_succ,List.getElem_cons_zero,List.setIfInBounds_toArray,List.set_cons_zero,List.set_cons_succ]
  refine wpAnyH_take (i:=31) (v:=?va31) rfl (by kernel_rfl) (by kernel_rfl) (by kernel_rfl) (fun _ _ _ h=>h) (Or.inl ⟨by kernel_rfl,?ya31⟩) (by assumption) ?ra31
  case ya31=>first | ((intro w hSw; (try dsimp only at hSw); go_simp); done) | ((intro w hSw; (try dsimp only at hSw); go_simp); with_reducible rfl)
  simp only [Act.put,List.getElem_toArray,List.getElem_cons_succ,List.getElem_cons_zero,List.setIfInBounds_toArray,List.set_cons_zero,List.set_cons_succ]
  refine wpAnyH_take (i:=32) (v:=?va32) rfl (by kernel_rfl) (by kernel_rfl) (by kernel_rfl) (fun _ _ _ h=>h) (Or.inl ⟨by kernel_rfl,?ya32⟩) (by assumption) ?ra32
  case ya32=>first | ((intro w hSw; (try dsimp only at hSw); go_simp); done) | ((intro w hSw; (try dsimp only at hSw); go_simp); with_reducible rfl)
  simp only [Act.put,List.getElem_toArray,List.getElem_cons_succ,List.getElem_cons_zero,List.setIfInBounds_toArray,List.set_cons_zero,List.set_cons_succ]
  refine wpAnyH_done (by kernel_rfl) ?_ _
  gi_wp2
  exact bodyPost_ret (results_tmp rfl _ _ _) rfl ⟨by simp,hBd⟩
 case false =>
  by_cases hm:mv≤1
  ·skip
   refine wp_region_held_drew (S:=(fun w'=>w'.cell? ⟨B,2,none⟩=some (.int .i64 by_)∧w'.cell? ⟨B,3,none⟩=some (.int .i64 mv)∧w'.cell? ⟨B,4,none⟩=some (.bool false)∧w'.cell? ⟨w.heap.size,1,none⟩=some (.int .i64 Q)∧w'.cell? ⟨w.heap.size,2,none⟩=some (.int .i64 G)∧Below w.heap.size w w')) (by kernel_rfl) ?_ (fun hHeld=>?_)
   ·exact ⟨c2,c3,c4,d1,d2,hBd⟩
   refine wpAnyH_take (i:=0) (v:=?vb0) rfl (by kernel_rfl) (by kernel_rfl) (by kernel_rfl) (fun _ _ _ h=>h) (Or.inl ⟨by kernel_rfl,?yb0⟩) (by assumption) ?rb0
   case yb0=>first | ((intro w hSw; (try dsimp only at hSw); go_simp); done) | ((intro w hSw; (try dsimp only at hSw); go_simp); with_reducible rfl)
   simp only [Act.put,List.getElem_toArray,List.getElem_cons_succ,List.getElem_cons_zero,List.setIfInBounds_toArray,List.set_cons_zero,List.set_cons_succ]
   refine wpAnyH_take (i:=1) (v:=?vb1) rfl (by kernel_rfl) (by kernel_rfl) (by kernel_rfl) (fun _ _ _ h=>h) (Or.inl ⟨by kernel_rfl,?yb1⟩) (by assumption) ?rb1
   case yb1=>first | ((intro w hSw; (try dsimp only at hSw); go_simp); done) | ((intro w hSw; (try dsimp only at hSw); go_simp); with_reducible rfl)
   simp only [Act.put,List.getElem_toArray,List.getElem_cons_succ,List.getElem_cons_zero,List.setIfInBounds_toArray,List.set_cons_zero,List.set_cons_succ]
   refine wpAnyH_take (i:=2) (v:=?vb2) rfl (by kernel_rfl) (by kernel_rfl) (by kernel_rfl) (fun _ _ _ h=>h) (Or.inl ⟨by kernel_rfl,?yb2⟩) (by assumption) ?rb2
   case yb2=>first | ((intro w hSw; (try dsimp only at hSw); go_simp); done) | ((intro w hSw; (try dsimp only at hSw); go_simp); with_reducible rfl)
   simp only [Act.put,List.getElem_toArray,List.getElem_cons_succ,List.getElem_cons_zero,List.setIfInBounds_toArray,List.set_cons_zero,List.set_cons_succ]
   refine wpAnyH_take (i:=3) (v:=?vb3) rfl (by kernel_rfl) (by kernel_rfl) (by kernel_rfl) (fun _ _ _ h=>h) (Or.inl ⟨by kernel_rfl,?yb3⟩) (by assumption) ?rb3
   case yb3=>first | ((intro w hSw; (try dsimp only at hSw); go_simp); done) | ((intro w hSw; (try dsimp only at hSw); go_simp); with_reducible rfl)
   simp only [Act.put,List.getElem_toArray,List.getElem_cons_succ,List.getElem_cons_zero,List.setIfInBounds_toArray,List.set_cons_zero,List.set_cons_succ]
   refine wpAnyH_take (i:=4) (v:=?vb4) rfl (by kernel_rfl) (by kernel_rfl) (by kernel_rfl) (fun _ _ _ h=>h) (Or.inl ⟨by kernel_rfl,?yb4⟩) (by assumption) ?rb4
   case yb4=>first | ((intro w hSw; (try dsimp only at hSw); go_simp); done) | ((intro w hSw; (try dsimp only at hSw); go_simp); with_reducible rfl)
   simp only [Act.put,List.getElem_toArray,List.getElem_cons_succ,List.getElem_cons_zero,List.setIfInBounds_toArray,List.set_cons_zero,List.set_cons_succ]
   refine wpAnyH_take (i:=5) (v:=?vb5) rfl (by kernel_rfl) (by kernel_rfl) (by kernel_rfl) (fun _ _ _ h=>h) (Or.inl ⟨by kernel_rfl,?yb5⟩) (by assumption) ?rb5
   case yb5=>first | ((intro w hSw; (try dsimp only at hSw); go_simp); done) | ((intro w hSw; (try dsimp only at hSw); go_simp); with_reducible rfl)
   simp only [Act.put,List.getElem_toArray,List.getElem_cons_succ,List.getElem_cons_zero,List.setIfInBounds_toArray,List.set_cons_zero,List.set_cons_succ]
   refine wpAnyH_take (i:=6) (v:=?vb6) rfl (by kernel_rfl) (by kernel_rfl) (by kernel_rfl) (fun _ _ _ h=>h) (Or.inl ⟨by kernel_rfl,?yb6⟩) (by assumption) ?rb6
   case yb6=>first | ((intro w hSw; (try dsimp only at hSw); go_simp); done) | ((intro w hSw; (try dsimp only at hSw); go_simp); with_reducible rfl)
   simp only [Act.put,List.getElem_toArray,List.getElem_cons_succ,List.getElem_cons_zero,List.setIfInBounds_toArray,List.set_cons_zero,List.set_cons_succ]
   refine wpAnyH_take (i:=7) (v:=?vb7) rfl (by kernel_rfl) (by kernel_rfl) (by kernel_rfl) (fun _ _ _ h=>h) (Or.inl ⟨by kernel_rfl,?yb7⟩) (by assumption) ?rb7
   case yb7=>first | ((intro w hSw; (try dsimp only at hSw); go_simp); done) | ((intro w hSw; (try dsimp only at hSw); go_simp); with_reducible rfl)
   simp only [Act.put,List.getElem_toArray,List.getElem_cons_succ,List.getElem_cons_zero,List.setIfInBounds_toArray,List.set_cons_zero,List.set_cons_succ]
   refine wpAnyH_take (i:=8) (v:=?vb8) rfl (by kernel_rfl) (by kernel_rfl) (by kernel_rfl) (fun _ _ _ h=>h) (Or.inl ⟨by kernel_rfl,?yb8⟩) (by assumption) ?rb8
   case yb8=>first | ((intro w hSw; (try dsimp only at hSw); go_simp); done) | ((intro w hSw; (try dsimp only at hSw); go_simp); with_reducible rfl)
   simp only [Act.put,List.getElem_toArray,List.getElem_cons_succ,List.getElem_cons_zero,List.setIfInBounds_toArray,List.set_cons_zero,List.set_cons_succ]
   refine wpAnyH_take (i:=9) (v:=?vb9) rfl (by kernel_rfl) (by kernel_rfl) (by kernel_rfl) (fun _ _ _ h=>h) (Or.inl ⟨by kernel_rfl,?yb9⟩) (by assumption) ?rb9
   case yb9=>first | ((intro w hSw; (try dsimp only at hSw); go_simp); done) | ((intro w hSw; (try dsimp only at hSw); go_simp); with_reducible rfl)
   simp only [Act.put,List.getElem_toArray,List.getElem_cons_succ,List.getElem_cons_zero,List.setIfInBounds_toArray,List.set_cons_zero,List.set_cons_succ]
   refine wpAnyH_take (i:=10) (v:=?vb10) rfl (by kernel_rfl) (by kernel_rfl) (by kernel_rfl) (fun _ _ _ h=>h) (Or.inl ⟨by kernel_rfl,?yb10⟩) (by assumption) ?rb10
   case yb10=>first | ((intro w hSw; (try dsimp only at hSw); go_simp); done) | ((intro w hSw; (try dsimp only at hSw); go_simp); with_reducible rfl)
   simp only [Act.put,List.getElem_toArray,List.getElem_cons_succ,List.getElem_cons_zero,List.setIfInBounds_toArray,List.set_cons_zero,List.set_cons_succ]
   refine wpAnyH_take (i:=11) (v:=?vb11) rfl (by kernel_rfl) (by kernel_rfl) (by kernel_rfl) (fun _ _ _ h=>h) (Or.inl ⟨by kernel_rfl,?yb11⟩) (by assumption) ?rb11
   case yb11=>first | ((intro w hSw; (try dsimp only at hSw); go_simp); done) | ((intro w hSw; (try dsimp only at hSw); go_simp); with_reducible rfl)
   simp only [Act.put,List.getElem_toArray,List.getElem_cons_succ,List.getElem_cons_zero,List.setIfInBounds_toArray,List.set_cons_zero,List.set_cons_succ]
   refine wpAnyH_take (i:=12) (v:=?vb12) rfl (by kernel_rfl) (by kernel_rfl) (by kernel_rfl) (fun _ _ _ h=>h) (Or.inl ⟨by kernel_rfl,?yb12⟩) (by assumption) ?rb12
   case yb12=>first | ((intro w hSw; (try dsimp only at hSw); go_simp); done) | ((intro w hSw; (try dsimp only at hSw); go_simp); with_reducible rfl)
   simp only [Act.put,List.getElem_toArray,List.getElem_cons_succ,List.getElem_cons_zero,List.setIfInBounds_toArray,List.set_cons_zero,List.set_cons_succ]
   refine wpAnyH_take (i:=13) (v:=?vb13) rfl (by kernel_rfl) (by kernel_rfl) (by kernel_rfl) (fun _ _ _ h=>h) (Or.inl ⟨by kernel_rfl,?yb13⟩) (by assumption) ?rb13
   case yb13=>first | ((intro w hSw; (try dsimp only at hSw); go_simp); done) | ((intro w hSw; (try dsimp only at hSw); go_simp); with_reducible rfl)
   simp only [Act.put,List.getElem_toArray,List.getElem_cons_succ,List.getElem_cons_zero,List.setIfInBounds_toArray,List.set_cons_zero,List.set_cons_succ]
   refine wpAnyH_take (i:=14) (v:=?vb14) rfl (by kernel_rfl) (by kernel_rfl) (by kernel_rfl) (fun _ _ _ h=>h) (Or.inl ⟨by kernel_rfl,?yb14⟩) (by assumption) ?rb14
   case yb14=>first | ((intro w hSw; (try dsimp only at hSw); go_simp); done) | ((intro w hSw; (try dsimp only at hSw); go_simp); with_reducible rfl)
   simp only [Act.put,List.getElem_toArray,List.getElem_cons_succ,List.getElem_cons_zero,List.setIfInBounds_toArray,List.set_cons_zero,List.set_cons_succ]
   refine wpAnyH_take (i:=15) (v:=?vb15) rfl (by kernel_rfl) (by kernel_rfl) (by kernel_rfl) (fun _ _ _ h=>h) (Or.inl ⟨by kernel_rfl,?yb15⟩) (by assumption) ?rb15
   case yb15=>first | ((intro w hSw; (try dsimp only at hSw); go_simp); done) | ((intro w hSw; (try dsimp only at hSw); go_simp); with_reducible rfl)
   simp only [Act.put,List.getElem_toArray,List.getElem_cons_succ,List.getElem_cons_zero,List.setIfInBounds_toArray,List.set_cons_zero,List.set_cons_succ]
   refine wpAnyH_take (i:=16) (v:=?vb16) rfl (by kernel_rfl) (by kernel_rfl) (by kernel_rfl) (fun _ _ _ h=>h) (Or.inl ⟨by kernel_rfl,?yb16⟩) (by assumption) ?rb16
   case yb16=>first | ((intro w hSw; (try dsimp only at hSw); go_simp); done) | ((intro w hSw; (try dsimp only at hSw); go_simp); with_reducible rfl)
   simp only [Act.put,List.getElem_toArray,List.getElem_cons_succ,List.getElem_cons_zero,List.setIfInBounds_toArray,List.set_cons_zero,List.set_cons_succ]
   refine wpAnyH_take (i:=17) (v:=?vb17) rfl (by kernel_rfl) (by kernel_rfl) (by kernel_rfl) (fun _ _ _ h=>h) (Or.inl ⟨by kernel_rfl,?yb17⟩) (by assumption) ?rb17
   case yb17=>first | ((intro w hSw; (try dsimp only at hSw); go_simp); done) | ((intro w hSw; (try dsimp only at hSw); go_simp); with_reducible rfl)
   simp only [Act.put,List.getElem_toArray,List.getElem_cons_succ,List.getElem_cons_zero,List.setIfInBounds_toArray,List.set_cons_zero,List.set_cons_succ]
   refine wpAnyH_take (i:=18) (v:=?vb18) rfl (by kernel_rfl) (by kernel_rfl) (by kernel_rfl) (fun _ _ _ h=>h) (Or.inl ⟨by kernel_rfl,?yb18⟩) (by assumption) ?rb18
   case yb18=>first | ((intro w hSw; (try dsimp only at hSw); go_simp); done) | ((intro w hSw; (try dsimp only at hSw); go_simp); with_reducible rfl)
   simp only [Act.put,List.getElem_toArray,List.getElem_cons_succ,List.getElem_cons_zero,List.setIfInBounds_toArray,List.set_cons_zero,List.set_cons_succ]
   refine wpAnyH_take (i:=19) (v:=?vb19) rfl (by kernel_rfl) (by kernel_rfl) (by kernel_rfl) (fun _ _ _ h=>h) (Or.inl ⟨by kernel_rfl,?yb19⟩) (by assumption) ?rb19
   case yb19=>first | ((intro w hSw; (try dsimp only at hSw); go_simp); done) | ((intro w hSw; (try dsimp only at hSw); go_simp); with_reducible rfl)
   simp only [Act.put,List.getElem_toArray,List.getElem_cons_succ,List.getElem_cons_zero,List.setIfInBounds_toArray,List.set_cons_zero,List.set_cons_succ]
   refine wpAnyH_take (i:=20) (v:=?vb20) rfl (by kernel_rfl) (by kernel_rfl) (by kernel_rfl) (fun _ _ _ h=>h) (Or.inl ⟨by kernel_rfl,?yb20⟩) (by assumption) ?rb20
   case yb20=>first | ((intro w hSw; (try dsimp only at hSw); go_simp); done) | ((intro w hSw; (try dsimp only at hSw); go_simp); with_reducible rfl)
   simp only [Act.put,List.getElem_toArray,List.getElem_cons_succ,List.getElem_cons_zero,List.setIfInBounds_toArray,List.set_cons_zero,List.set_cons_succ]
   refine wpAnyH_take (i:=21) (v:=?vb21) rfl (by kernel_rfl) (by kernel_rfl) (by kernel_rfl) (fun _ _ _ h=>h) (Or.inl ⟨by kernel_rfl,?yb21⟩) (by assumption) ?rb21
   case yb21=>first | ((intro w hSw; (try dsimp only at hSw); go_simp); done) | ((intro w hSw; (try dsimp only at hSw); go_simp); with_reducible rfl)
   simp only [Act.put,List.getElem_toArray,List.getElem_cons_succ,List.getElem_cons_zero,List.setIfInBounds_toArray,List.set_cons_zero,List.set_cons_succ]
   refine wpAnyH_take (i:=22) (v:=?vb22) rfl (by kernel_rfl) (by kernel_rfl) (by kernel_rfl) (fun _ _ _ h=>h) (Or.inl ⟨by kernel_rfl,?yb22⟩) (by assumption) ?rb22
   case yb22=>first | ((intro w hSw; (try dsimp only at hSw); go_simp); done) | ((intro w hSw; (try dsimp only at hSw); go_simp); with_reducible rfl)
   simp only [Act.put,List.getElem_toArray,List.getElem_cons_succ,List.getElem_cons_zero,List.setIfInBounds_toArray,List.set_cons_zero,List.set_cons_succ]
   refine wpAnyH_take (i:=23) (v:=?vb23) rfl (by kernel_rfl) (by kernel_rfl) (by kernel_rfl) (fun _ _ _ h=>h) (Or.inl ⟨by kernel_rfl,?yb23⟩) (by assumption) ?rb23
   case yb23=>first | ((intro w hSw; (try dsimp only at hSw); go_simp); done) | ((intro w hSw; (try dsimp only at hSw); go_simp); with_reducible rfl)
   simp only [Act.put,List.getElem_toArray,List.getElem_cons_succ,List.getElem_cons_zero,List.setIfInBounds_toArray,List.set_cons_zero,List.set_cons_succ]
   refine wpAnyH_take (i:=24) (v:=?vb24) rfl (by kernel_rfl) (by kernel_rfl) (by kernel_rfl) (fun _ _ _ h=>h) (Or.inl ⟨by kernel_rfl,?yb24⟩) (by assumption) ?rb24
   case yb24=>first | ((intro w hSw; (try dsimp only at hSw); go_simp); done) | ((intro w hSw; (try dsimp only at hSw); go_simp); with_reducible rfl)
   simp only [Act.put,List.getElem_toArray,List.getElem_cons_succ,List.getElem_cons_zero,List.setIfInBounds_toArray,List.set_cons_zero,List.set_cons_succ]
   refine wpAnyH_take (i:=25) (v:=?vb25) rfl (by kernel_rfl) (by kernel_rfl) (by kernel_rfl) (fun _ _ _ h=>h) (Or.inl ⟨by kernel_rfl,?yb25⟩) (by assumption) ?rb25
   case yb25=>first | ((intro w hSw; (try dsimp only at hSw); go_simp); done) | ((intro w hSw; (try dsimp only at hSw); go_simp); with_reducible rfl)
   simp only [Act.put,List.getElem_toArray,List.getElem_cons_succ,List.getElem_cons_zero,List.setIfInBounds_toArray,List.set_cons_zero,List.set_cons_succ]
   refine wpAnyH_take (i:=26) (v:=?vb26) rfl (by kernel_rfl) (by kernel_rfl) (by kernel_rfl) (fun _ _ _ h=>h) (Or.inl ⟨by kernel_rfl,?yb26⟩) (by assumption) ?rb26
   case yb26=>first | ((intro w hSw; (try dsimp only at hSw); go_simp); done) | ((intro w hSw; (try dsimp only at hSw); go_simp); with_reducible rfl)
   simp only [Act.put,List.getElem_toArray,List.getElem_cons_succ,List.getElem_cons_zero,List.setIfInBounds_toArray,List.set_cons_zero,List.set_cons_succ]
   refine wpAnyH_take (i:=27) (v:=?vb27) rfl (by kernel_rfl) (by kernel_rfl) (by kernel_rfl) (fun _ _ _ h=>h) (Or.inl ⟨by kernel_rfl,?yb27⟩) (by assumption) ?rb27
   case yb27=>first | ((intro w hSw; (try dsimp only at hSw); go_simp); done) | ((intro w hSw; (try dsimp only at hSw); go_simp); with_reducible rfl)
   simp only [Act.put,List.getElem_toArray,List.getElem_cons_succ,List.getElem_cons_zero,List.setIfInBounds_toArray,List.set_cons_zero,List.set_cons_succ]
   refine wpAnyH_take (i:=28) (v:=?vb28) rfl (by kernel_rfl) (by kernel_rfl) (by kernel_rfl) (fun _ _ _ h=>h) (Or.inl ⟨by kernel_rfl,?yb28⟩) (by assumption) ?rb28
   case yb28=>first | ((intro w hSw; (try dsimp only at hSw); go_simp); done) | ((intro w hSw; (try dsimp only at hSw); go_simp); with_reducible rfl)
   simp only [Act.put,List.getElem_toArray,List.getElem_cons_succ,List.getElem_cons_zero,List.setIfInBounds_toArray,List.set_cons_zero,List.set_cons_succ]
   refine wpAnyH_take (i:=29) (v:=?vb29) rfl (by kernel_rfl) (by kernel_rfl) (by kernel_rfl) (fun _ _ _ h=>h) (Or.inl ⟨by kernel_rfl,?yb29⟩) (by assumption) ?rb29
   case yb29=>first | ((intro w hSw; (try dsimp only at hSw); go_simp); done) | ((intro w hSw; (try dsimp only at hSw); go_simp); with_reducible rfl)
   simp only [Act.put,List.getElem_toArray,List.getElem_cons_succ,List.getElem_cons_zero,List.setIfInBounds_toArray,List.set_cons_zero,List.set_cons_succ]
   refine wpAnyH_take (i:=30) (v:=?vb30) rfl (by kernel_rfl) (by kernel_rfl) (by kernel_rfl) (fun _ _ _ h=>h) (Or.inl ⟨by kernel_rfl,?yb30⟩) (by assumption) ?rb30
   case yb30=>first | ((intro w hSw; (try dsimp only at hSw); go_simp); done) | ((intro w hSw; (try dsimp only at hSw); go_simp); with_reducible rfl)
   simp only [Act.put,List.getElem_toArray,List.getElem_cons_succ,List.getElem_cons_zero,List.setIfInBounds_toArray,List.set_cons_zero,List.set_cons_succ]
   refine wpAnyH_take (i:=31) (v:=?vb31) rfl (by kernel_rfl) (by kernel_rfl) (by kernel_rfl) (fun _ _ _ h=>h) (Or.inl ⟨by kernel_rfl,?yb31⟩) (by assumption) ?rb31
   case yb31=>first | ((intro w hSw; (try dsimp only at hSw); go_simp); done) | ((intro w hSw; (try dsimp only at hSw); go_simp); with_reducible rfl)
   simp only [Act.put,List.getElem_toArray,List.getElem_cons_succ,List.getElem_cons_zero,List.setIfInBounds_toArray,List.set_cons_zero,List.set_cons_succ]
   refine wpAnyH_take (i:=32) (v:=?vb32) rfl (by kernel_rfl) (by kernel_rfl) (by kernel_rfl) (fun _ _ _ h=>h) (Or.inl ⟨by kernel_rfl,?yb32⟩) (by assumption) ?rb32
   case yb32=>first | ((intro w hSw; (try dsimp only at hSw); go_simp); done) | ((intro w hSw; (try dsimp only at hSw); go_simp); with_reducible rfl)
   simp only [Act.put,List.getElem_toArray,List.getElem_cons_succ,List.getElem_cons_zero,List.setIfInBounds_toArray,List.set_cons_zero,List.set_cons_succ]
   refine wpAnyH_done (by kernel_rfl) ?_ _
   gi_wp2
   exact bodyPost_ret (results_tmp rfl _ _ _) rfl ⟨by simp [hm],hBd⟩
  ·skip
   refine wp_region_held_drew (S:=(fun w'=>w'.cell? ⟨B,2,none⟩=some (.int .i64 by_)∧w'.cell? ⟨B,3,none⟩=some (.int .i64 mv)∧w'.cell? ⟨B,4,none⟩=some (.bool false)∧w'.cell? ⟨w.heap.size,1,none⟩=some (.int .i64 Q)∧w'.cell? ⟨w.heap.size,2,none⟩=some (.int .i64 G)∧Below w.heap.size w w')) (by kernel_rfl) ?_ (fun hHeld=>?_)
   ·exact ⟨c2,c3,c4,d1,d2,hBd⟩
   refine wpAnyH_take (i:=0) (v:=?vc0) rfl (by kernel_rfl) (by kernel_rfl) (by kernel_rfl) (fun _ _ _ h=>h) (Or.inl ⟨by kernel_rfl,?yc0⟩) (by assumption) ?rc0
   case yc0=>first | ((intro w hSw; (try dsimp only at hSw); go_simp); done) | ((intro w hSw; (try dsimp only at hSw); go_simp); with_reducible rfl)
   simp only [Act.put,List.getElem_toArray,List.getElem_cons_succ,List.getElem_cons_zero,List.setIfInBounds_toArray,List.set_cons_zero,List.set_cons_succ]
   refine wpAnyH_take (i:=1) (v:=?vc1) rfl (by kernel_rfl) (by kernel_rfl) (by kernel_rfl) (fun _ _ _ h=>h) (Or.inl ⟨by kernel_rfl,?yc1⟩) (by assumption) ?rc1
   case yc1=>first | ((intro w hSw; (try dsimp only at hSw); go_simp); done) | ((intro w hSw; (try dsimp only at hSw); go_simp); with_reducible rfl)
   simp only [Act.put,List.getElem_toArray,List.getElem_cons_succ,List.getElem_cons_zero,List.setIfInBounds_toArray,List.set_cons_zero,List.set_cons_succ]
   refine wpAnyH_take (i:=2) (v:=?vc2) rfl (by kernel_rfl) (by kernel_rfl) (by kernel_rfl) (fun _ _ _ h=>h) (Or.inl ⟨by kernel_rfl,?yc2⟩) (by assumption) ?rc2
   case yc2=>first | ((intro w hSw; (try dsimp only at hSw); go_simp); done) | ((intro w hSw; (try dsimp only at hSw); go_simp); with_reducible rfl)
   simp only [Act.put,List.getElem_toArray,List.getElem_cons_succ,List.getElem_cons_zero,List.setIfInBounds_toArray,List.set_cons_zero,List.set_cons_succ]
   refine wpAnyH_take (i:=3) (v:=?vc3) rfl (by kernel_rfl) (by kernel_rfl) (by kernel_rfl) (fun _ _ _ h=>h) (Or.inl ⟨by kernel_rfl,?yc3⟩) (by assumption) ?rc3
   case yc3=>first | ((intro w hSw; (try dsimp only at hSw); go_simp); done) | ((intro w hSw; (try dsimp only at hSw); go_simp); with_reducible rfl)
   simp only [Act.put,List.getElem_toArray,List.getElem_cons_succ,List.getElem_cons_zero,List.setIfInBounds_toArray,List.set_cons_zero,List.set_cons_succ]
   refine wpAnyH_take (i:=4) (v:=?vc4) rfl (by kernel_rfl) (by kernel_rfl) (by kernel_rfl) (fun _ _ _ h=>h) (Or.inl ⟨by kernel_rfl,?yc4⟩) (by assumption) ?rc4
   case yc4=>first | ((intro w hSw; (try dsimp only at hSw); go_simp); done) | ((intro w hSw; (try dsimp only at hSw); go_simp); with_reducible rfl)
   simp only [Act.put,List.getElem_toArray,List.getElem_cons_succ,List.getElem_cons_zero,List.setIfInBounds_toArray,List.set_cons_zero,List.set_cons_succ]
   refine wpAnyH_take (i:=5) (v:=?vc5) rfl (by kernel_rfl) (by kernel_rfl) (by kernel_rfl) (fun _ _ _ h=>h) (Or.inl ⟨by kernel_rfl,?yc5⟩) (by assumption) ?rc5
   case yc5=>first | ((intro w hSw; (try dsimp only at hSw); go_simp); done) | ((intro w hSw; (try dsimp only at hSw); go_simp); with_reducible rfl)
   simp only [Act.put,List.getElem_toArray,List.getElem_cons_succ,List.getElem_cons_zero,List.setIfInBounds_toArray,List.set_cons_zero,List.set_cons_succ]
   refine wpAnyH_take (i:=6) (v:=?vc6) rfl (by kernel_rfl) (by kernel_rfl) (by kernel_rfl) (fun _ _ _ h=>h) (Or.inl ⟨by kernel_rfl,?yc6⟩) (by assumption) ?rc6
   case yc6=>first | ((intro w hSw; (try dsimp only at hSw); go_simp); done) | ((intro w hSw; (try dsimp only at hSw); go_simp); with_reducible rfl)
   simp only [Act.put,List.getElem_toArray,List.getElem_cons_succ,List.getElem_cons_zero,List.setIfInBounds_toArray,List.set_cons_zero,List.set_cons_succ]
   refine wpAnyH_take (i:=7) (v:=?vc7) rfl (by kernel_rfl) (by kernel_rfl) (by kernel_rfl) (fun _ _ _ h=>h) (Or.inl ⟨by kernel_rfl,?yc7⟩) (by assumption) ?rc7
   case yc7=>first | ((intro w hSw; (try dsimp only at hSw); go_simp); done) | ((intro w hSw; (try dsimp only at hSw); go_simp); with_reducible rfl)
   simp only [Act.put,List.getElem_toArray,List.getElem_cons_succ,List.getElem_cons_zero,List.setIfInBounds_toArray,List.set_cons_zero,List.set_cons_succ]
   refine wpAnyH_take (i:=8) (v:=?vc8) rfl (by kernel_rfl) (by kernel_rfl) (by kernel_rfl) (fun _ _ _ h=>h) (Or.inl ⟨by kernel_rfl,?yc8⟩) (by assumption) ?rc8
   case yc8=>first | ((intro w hSw; (try dsimp only at hSw); go_simp); done) | ((intro w hSw; (try dsimp only at hSw); go_simp); with_reducible rfl)
   simp only [Act.put,List.getElem_toArray,List.getElem_cons_succ,List.getElem_cons_zero,List.setIfInBounds_toArray,List.set_cons_zero,List.set_cons_succ]
   refine wpAnyH_take (i:=9) (v:=?vc9) rfl (by kernel_rfl) (by kernel_rfl) (by kernel_rfl) (fun _ _ _ h=>h) (Or.inl ⟨by kernel_rfl,?yc9⟩) (by assumption) ?rc9
   case yc9=>first | ((intro w hSw; (try dsimp only at hSw); go_simp); done) | ((intro w hSw; (try dsimp only at hSw); go_simp); with_reducible rfl)
   simp only [Act.put,List.getElem_toArray,List.getElem_cons_succ,List.getElem_cons_zero,List.setIfInBounds_toArray,List.set_cons_zero,List.set_cons_succ]
   refine wpAnyH_take (i:=10) (v:=?vc10) rfl (by kernel_rfl) (by kernel_rfl) (by kernel_rfl) (fun _ _ _ h=>h) (Or.inl ⟨by kernel_rfl,?yc10⟩) (by assumption) ?rc10
   case yc10=>first | ((intro w hSw; (try dsimp only at hSw); go_simp); done) | ((intro w hSw; (try dsimp only at hSw); go_simp); with_reducible rfl)
   simp only [Act.put,List.getElem_toArray,List.getElem_cons_succ,List.getElem_cons_zero,List.setIfInBounds_toArray,List.set_cons_zero,List.set_cons_succ]
   refine wpAnyH_take (i:=11) (v:=?vc11) rfl (by kernel_rfl) (by kernel_rfl) (by kernel_rfl) (fun _ _ _ h=>h) (Or.inl ⟨by kernel_rfl,?yc11⟩) (by assumption) ?rc11
   case yc11=>first | ((intro w hSw; (try dsimp only at hSw); go_simp); done) | ((intro w hSw; (try dsimp only at hSw); go_simp); with_reducible rfl)
   simp only [Act.put,List.getElem_toArray,List.getElem_cons_succ,List.getElem_cons_zero,List.setIfInBounds_toArray,List.set_cons_zero,List.set_cons_succ]
   refine wpAnyH_take (i:=12) (v:=?vc12) rfl (by kernel_rfl) (by kernel_rfl) (by kernel_rfl) (fun _ _ _ h=>h) (Or.inl ⟨by kernel_rfl,?yc12⟩) (by assumption) ?rc12
   case yc12=>first | ((intro w hSw; (try dsimp only at hSw); go_simp); done) | ((intro w hSw; (try dsimp only at hSw); go_simp); with_reducible rfl)
   simp only [Act.put,List.getElem_toArray,List.getElem_cons_succ,List.getElem_cons_zero,List.setIfInBounds_toArray,List.set_cons_zero,List.set_cons_succ]
   refine wpAnyH_take (i:=13) (v:=?vc13) rfl (by kernel_rfl) (by kernel_rfl) (by kernel_rfl) (fun _ _ _ h=>h) (Or.inl ⟨by kernel_rfl,?yc13⟩) (by assumption) ?rc13
   case yc13=>first | ((intro w hSw; (try dsimp only at hSw); go_simp); done) | ((intro w hSw; (try dsimp only at hSw); go_simp); with_reducible rfl)
   simp only [Act.put,List.getElem_toArray,List.getElem_cons_succ,List.getElem_cons_zero,List.setIfInBounds_toArray,List.set_cons_zero,List.set_cons_succ]
   refine wpAnyH_take (i:=14) (v:=?vc14) rfl (by kernel_rfl) (by kernel_rfl) (by kernel_rfl) (fun _ _ _ h=>h) (Or.inl ⟨by kernel_rfl,?yc14⟩) (by assumption) ?rc14
   case yc14=>first | ((intro w hSw; (try dsimp only at hSw); go_simp); done) | ((intro w hSw; (try dsimp only at hSw); go_simp); with_reducible rfl)
   simp only [Act.put,List.getElem_toArray,List.getElem_cons_succ,List.getElem_cons_zero,List.setIfInBounds_toArray,List.set_cons_zero,List.set_cons_succ]
   refine wpAnyH_take (i:=15) (v:=?vc15) rfl (by kernel_rfl) (by kernel_rfl) (by kernel_rfl) (fun _ _ _ h=>h) (Or.inl ⟨by kernel_rfl,?yc15⟩) (by assumption) ?rc15
   case yc15=>first | ((intro w hSw; (try dsimp only at hSw); go_simp); done) | ((intro w hSw; (try dsimp only at hSw); go_simp); with_reducible rfl)
   simp only [Act.put,List.getElem_toArray,List.getElem_cons_succ,List.getElem_cons_zero,List.setIfInBounds_toArray,List.set_cons_zero,List.set_cons_succ]
   refine wpAnyH_take (i:=16) (v:=?vc16) rfl (by kernel_rfl) (by kernel_rfl) (by kernel_rfl) (fun _ _ _ h=>h) (Or.inl ⟨by kernel_rfl,?yc16⟩) (by assumption) ?rc16
   case yc16=>first | ((intro w hSw; (try dsimp only at hSw); go_simp); done) | ((intro w hSw; (try dsimp only at hSw); go_simp); with_reducible rfl)
   simp only [Act.put,List.getElem_toArray,List.getElem_cons_succ,List.getElem_cons_zero,List.setIfInBounds_toArray,List.set_cons_zero,List.set_cons_succ]
   refine wpAnyH_take (i:=17) (v:=?vc17) rfl (by kernel_rfl) (by kernel_rfl) (by kernel_rfl) (fun _ _ _ h=>h) (Or.inl ⟨by kernel_rfl,?yc17⟩) (by assumption) ?rc17
   case yc17=>first | ((intro w hSw; (try dsimp only at hSw); go_simp); done) | ((intro w hSw; (try dsimp only at hSw); go_simp); with_reducible rfl)
   simp only [Act.put,List.getElem_toArray,List.getElem_cons_succ,List.getElem_cons_zero,List.setIfInBounds_toArray,List.set_cons_zero,List.set_cons_succ]
   refine wpAnyH_take (i:=18) (v:=undef) rfl (by kernel_rfl) (by kernel_rfl) (by kernel_rfl) (fun _ _ _ h=>h) (Or.inr ⟨by kernel_rfl,rfl⟩) (by assumption) ?_
   simp only [Act.put,List.getElem_toArray,List.getElem_cons_succ,List.getElem_cons_zero,List.setIfInBounds_toArray,List.set_cons_zero,List.set_cons_succ]
   refine wpAnyH_take (i:=19) (v:=undef) rfl (by kernel_rfl) (by kernel_rfl) (by kernel_rfl) (fun _ _ _ h=>h) (Or.inr ⟨by kernel_rfl,rfl⟩) (by assumption) ?_
   simp only [Act.put,List.getElem_toArray,List.getElem_cons_succ,List.getElem_cons_zero,List.setIfInBounds_toArray,List.set_cons_zero,List.set_cons_succ]
   refine wpAnyH_take (i:=20) (v:=undef) rfl (by kernel_rfl) (by kernel_rfl) (by kernel_rfl) (fun _ _ _ h=>h) (Or.inr ⟨by kernel_rfl,rfl⟩) (by assumption) ?_
   simp only [Act.put,List.getElem_toArray,List.getElem_cons_succ,List.getElem_cons_zero,List.setIfInBounds_toArray,List.set_cons_zero,List.set_cons_succ]
   refine wpAnyH_take (i:=21) (v:=undef) rfl (by kernel_rfl) (by kernel_rfl) (by kernel_rfl) (fun _ _ _ h=>h) (Or.inr ⟨by kernel_rfl,rfl⟩) (by assumption) ?_
   simp only [Act.put,List.getElem_toArray,List.getElem_cons_succ,List.getElem_cons_zero,List.setIfInBounds_toArray,List.set_cons_zero,List.set_cons_succ]
   refine wpAnyH_take (i:=22) (v:=undef) rfl (by kernel_rfl) (by kernel_rfl) (by kernel_rfl) (fun _ _ _ h=>h) (Or.inr ⟨by kernel_rfl,rfl⟩) (by assumption) ?_
   simp only [Act.put,List.getElem_toArray,List.getElem_cons_succ,List.getElem_cons_zero,List.setIfInBounds_toArray,List.set_cons_zero,List.set_cons_succ]
   refine wpAnyH_take (i:=23) (v:=undef) rfl (by kernel_rfl) (by kernel_rfl) (by kernel_rfl) (fun _ _ _ h=>h) (Or.inr ⟨by kernel_rfl,rfl⟩) (by assumption) ?_
   simp only [Act.put,List.getElem_toArray,List.getElem_cons_succ,List.getElem_cons_zero,List.setIfInBounds_toArray,List.set_cons_zero,List.set_cons_succ]
   refine wpAnyH_take (i:=24) (v:=undef) rfl (by kernel_rfl) (by kernel_rfl) (by kernel_rfl) (fun _ _ _ h=>h) (Or.inr ⟨by kernel_rfl,rfl⟩) (by assumption) ?_
   simp only [Act.put,List.getElem_toArray,List.getElem_cons_succ,List.getElem_cons_zero,List.setIfInBounds_toArray,List.set_cons_zero,List.set_cons_succ]
   refine wpAnyH_take (i:=25) (v:=undef) rfl (by kernel_rfl) (by kernel_rfl) (by kernel_rfl) (fun _ _ _ h=>h) (Or.inr ⟨by kernel_rfl,rfl⟩) (by assumption) ?_
   simp only [Act.put,List.getElem_toArray,List.getElem_cons_succ,List.getElem_cons_zero,List.setIfInBounds_toArray,List.set_cons_zero,List.set_cons_succ]
   refine wpAnyH_take (i:=26) (v:=undef) rfl (by kernel_rfl) (by kernel_rfl) (by kernel_rfl) (fun _ _ _ h=>h) (Or.inr ⟨by kernel_rfl,rfl⟩) (by assumption) ?_
   simp only [Act.put,List.getElem_toArray,List.getElem_cons_succ,List.getElem_cons_zero,List.setIfInBounds_toArray,List.set_cons_zero,List.set_cons_succ]
   refine wpAnyH_take (i:=27) (v:=undef) rfl (by kernel_rfl) (by kernel_rfl) (by kernel_rfl) (fun _ _ _ h=>h) (Or.inr ⟨by kernel_rfl,rfl⟩) (by assumption) ?_
   simp only [Act.put,List.getElem_toArray,List.getElem_cons_succ,List.getElem_cons_zero,List.setIfInBounds_toArray,List.set_cons_zero,List.set_cons_succ]
   refine wpAnyH_take (i:=28) (v:=undef) rfl (by kernel_rfl) (by kernel_rfl) (by kernel_rfl) (fun _ _ _ h=>h) (Or.inr ⟨by kernel_rfl,rfl⟩) (by assumption) ?_
   simp only [Act.put,List.getElem_toArray,List.getElem_cons_succ,List.getElem_cons_zero,List.setIfInBounds_toArray,List.set_cons_zero,List.set_cons_succ]
   refine wpAnyH_take (i:=29) (v:=undef) rfl (by kernel_rfl) (by kernel_rfl) (by kernel_rfl) (fun _ _ _ h=>h) (Or.inr ⟨by kernel_rfl,rfl⟩) (by assumption) ?_
   simp only [Act.put,List.getElem_toArray,List.getElem_cons_succ,List.getElem_cons_zero,List.setIfInBounds_toArray,List.set_cons_zero,List.set_cons_succ]
   refine wpAnyH_take (i:=30) (v:=?vc30) rfl (by kernel_rfl) (by kernel_rfl) (by kernel_rfl) (fun _ _ _ h=>h) (Or.inl ⟨by kernel_rfl,?yc30⟩) (by assumption) ?rc30
   case yc30=>first | ((intro w hSw; (try dsimp only at hSw); go_simp); done) | ((intro w hSw; (try dsimp only at hSw); go_simp); with_reducible rfl)
   simp only [Act.put,List.getElem_toArray,List.getElem_cons_succ,List.getElem_cons_zero,List.setIfInBounds_toArray,List.set_cons_zero,List.set_cons_succ]
   refine wpAnyH_take (i:=31) (v:=?vc31) rfl (by kernel_rfl) (by kernel_rfl) (by kernel_rfl) (fun _ _ _ h=>h) (Or.inl ⟨by kernel_rfl,?yc31⟩) (by assumption) ?rc31
   case yc31=>first | ((intro w hSw; (try dsimp only at hSw); go_simp); done) | ((intro w hSw; (try dsimp only at hSw); go_simp); with_reducible rfl)
   simp only [Act.put,List.getElem_toArray,List.getElem_cons_succ,List.getElem_cons_zero,List.setIfInBounds_toArray,List.set_cons_zero,List.set_cons_succ]
   refine wpAnyH_take (i:=32) (v:=?vc32) rfl (by kernel_rfl) (by kernel_rfl) (by kernel_rfl) (fun _ _ _ h=>h) (Or.inl ⟨by kernel_rfl,?yc32⟩) (by assumption) ?rc32
   case yc32=>first | ((intro w hSw; (try dsimp only at hSw); go_simp); done) | ((intro w hSw; (try dsimp only at hSw); go_simp); with_reducible rfl)
   simp only [Act.put,List.getElem_toArray,List.getElem_cons_succ,List.getElem_cons_zero,List.setIfInBounds_toArray,List.set_cons_zero,List.set_cons_succ]
   refine wpAnyH_done (by kernel_rfl) ?_ _
   gi_wp2
   exact bodyPost_ret (results_tmp rfl _ _ _) rfl ⟨by simp; intro h; omega,hBd⟩
end Go.Proofs.Ytimhpaijbbegaaa
