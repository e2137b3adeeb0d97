/- Part of a proof: see the last text. -/
import Derived.Test.YtimhpaijbbegaaaZw0
import Derived.Test.YtimhpaijbbegaaaZw3
namespace Go.Proofs.Ytimhpaijbbegaaa
open Go.RowKit
set_option linter.unusedVariables false
set_option linter.unusedSimpArgs false
theorem heap_al5 (w:World) (o1 o2 o3 o4 o5:Obj) : (((((w.alloc o1).alloc o2).alloc o3).alloc o4).alloc o5).heap[w.heap.size+1]? = some o2:=heap_keep _ _ (heap_keep _ _ (heap_al3 _ _ _ _))
theorem below_al5 (w:World) (o1 o2 o3 o4 o5:Obj) : Below w.heap.size w (((((w.alloc o1).alloc o2).alloc o3).alloc o4).alloc o5):=((below_al3 w o1 o2 o3).alloc (by simp; omega) _).alloc (by simp; omega) _
set_option maxHeartbeats 4000000 in
theorem on_in (m:Nat) (hm:1≤m) (x:Wp) (b:Int) (hx:-1≤x.si∧x.si≤b∧0≤x.by_∧x.by_≤b * 1000∧0≤x.mv∧x.mv≤b∧x.p.kd≤4∧x.p.at_≤1000∧x.p.ah≤1000) (hb:b≤1000) (lv:Value) (o:Option Pl) (hk:∀ p,o=some p→p.kd≤4∧p.at_≤1000∧p.ah≤1000) (w:World) (hl:PlAt w lv o) :
  CallsIn Fence.wide m Try.prog 27 #[.agg x.cs.toArray,lv] w fun e w'=>e=.returned (.agg (onP x o).cs.toArray)∧Below w.heap.size w w':=by
 refine callsIn_of_wp Try.func27 rfl trivial ?_ rfl
 simp only [Try.ntmps27,List.size_toArray,List.length_cons,List.length_nil,Nat.reduceAdd,Nat.reduceSub,Array.replicate_succ,Array.replicate_zero,List.push_toArray,List.append_toArray,List.nil_append,List.cons_append]
 obtain ⟨si,by_,mv,bk,li,⟨xk,xa,xh⟩⟩:=x
 obtain ⟨h1,h2,h3,h4,h5,h6,h8⟩:=hx
 dsimp only at h1 h2 h3 h4 h5 h6 h8
 obtain ⟨rv,hrv⟩ : ∃ rv,Value.agg (onP ⟨si,by_,mv,bk,li,⟨xk,xa,xh⟩⟩ o).cs.toArray=rv:=⟨_,rfl⟩
 rw [hrv]
 cases o with
 | none =>
  obtain ⟨a,c,rfl⟩:=hl
  dsimp only [Wp.cs,iM,iZ]
  gi_wp2
  refine post_cell rfl rfl rfl (loadWp _ _ _ _ _ _ _ _ _ _ (heap_al3 _ _ _ _)) ⟨?_,below_al3 _ _ _ _⟩
  rw [← hrv]
  rfl
 | some p =>
  obtain ⟨kd,at_,ah⟩:=p
  obtain ⟨k1,k2,k3⟩:=hk _ rfl
  obtain ⟨bl,off,n,c,rfl,c1,c2,c3,hlt⟩:=hl
  dsimp only at k1 k2 k3
  dsimp only [Wp.cs,iM,iZ] at c1 c2 c3 ⊢
  have hlt:bl < w.heap.size:=hlt
  have d1:∀ o1 o2 o3,(((w.alloc o1).alloc o2).alloc o3).cell? ⟨bl,off,none⟩=some (.int .i64 (kd:Int)):=fun o1 o2 o3=>((below_al3 w o1 o2 o3).cell (p:=⟨bl,off,none⟩) hlt).trans c1
  have d2:∀ o1 o2 o3,(((w.alloc o1).alloc o2).alloc o3).cell? ⟨bl,off+1,none⟩=some (.int .i64 (at_:Int)):=fun o1 o2 o3=>((below_al3 w o1 o2 o3).cell (p:=⟨bl,off+1,none⟩) hlt).trans c2
  have d3:∀ o1 o2 o3,(((w.alloc o1).alloc o2).alloc o3).cell? ⟨bl,off+2,none⟩=some (.int .i64 (ah:Int)):=fun o1 o2 o3=>((below_al3 w o1 o2 o3).cell (p:=⟨bl,off+2,none⟩) hlt).trans c3
  have n2:((n:Int)+1 == 0)=false:=by
   rw [beq_eq_false_iff_ne]
   omega
  rcases (by omega:kd=0∨kd=1∨kd=2∨kd=3∨kd=4) with rfl | rfl | rfl | rfl | rfl
  ·gi_wp2_with (refine ⟨trivial,?_⟩; gi_at_call 40; refine (list_in _ _ _ _ _).mono ?_; rintro e w' ⟨rfl,rfl⟩)
   refine post_cell rfl rfl rfl (loadWp _ _ _ _ _ _ _ _ _ _ (heap_al5 _ _ _ _ _ _)) ⟨?_,below_al5 _ _ _ _ _ _⟩
   rw [← hrv]
   simp [onP,Wp.cs]
  ·by_cases hq:0 < li
   ·have hq':(0:Int) < (li:Int):=by omega
    gi_wp2_with (refine ⟨trivial,?_⟩; gi_at_call 40; refine (list_in _ _ _ _ _).mono ?_; rintro e w' ⟨rfl,rfl⟩)
    refine post_cell rfl rfl rfl (loadWp _ _ _ _ _ _ _ _ _ _ (heap_al5 _ _ _ _ _ _)) ⟨?_,below_al5 _ _ _ _ _ _⟩
    rw [← hrv]
    simp [onP,Wp.cs,hq]
   ·have hq':¬ (0:Int) < (li:Int):=by omega
    gi_wp2_with (refine ⟨trivial,?_⟩; gi_at_call 40; refine (list_in _ _ _ _ _).mono ?_; rintro e w' ⟨rfl,rfl⟩)
    refine post_cell rfl rfl rfl (loadWp _ _ _ _ _ _ _ _ _ _ (heap_al5 _ _ _ _ _ _)) ⟨?_,below_al5 _ _ _ _ _ _⟩
    rw [← hrv]
    simp [onP,Wp.cs,hq]
  ·skip
   by_cases q2:xk=2
   ·subst q2
    by_cases q3:at_=xa
    ·subst q3
     gi_wp2_with (refine ⟨trivial,?_⟩; gi_at_call 40; refine (list_in _ _ _ _ _).mono ?_; rintro e w' ⟨rfl,rfl⟩)
     all_goals
      refine post_cell rfl rfl rfl (loadWp _ _ _ _ _ _ _ _ _ _ (heap_al5 _ _ _ _ _ _)) ⟨?_,below_al5 _ _ _ _ _ _⟩
      rw [← hrv]
      simp [onP,Wp.cs]
      omega
    ·have q4:((at_:Int) == (xa:Int))=false:=by rw [beq_eq_false_iff_ne]; omega
     have q4b:((xa:Int) == (at_:Int))=false:=by rw [beq_eq_false_iff_ne]; omega
     have q6:¬ (xa:Int)=(at_:Int):=by omega
     gi_wp2_with (refine ⟨trivial,?_⟩; gi_at_call 40; refine (list_in _ _ _ _ _).mono ?_; rintro e w' ⟨rfl,rfl⟩)
     refine post_cell rfl rfl rfl (loadWp _ _ _ _ _ _ _ _ _ _ (heap_al5 _ _ _ _ _ _)) ⟨?_,below_al5 _ _ _ _ _ _⟩
     rw [← hrv]
     simp [onP,Wp.cs,q3]
   ·have q4:((xk:Int) == 2)=false:=by rw [beq_eq_false_iff_ne]; omega
    have q5:¬ 2=xk:=fun e=>q2 e.symm
    have q6:¬ (xk:Int)=2:=by omega
    gi_wp2_with (refine ⟨trivial,?_⟩; gi_at_call 40; refine (list_in _ _ _ _ _).mono ?_; rintro e w' ⟨rfl,rfl⟩)
    refine post_cell rfl rfl rfl (loadWp _ _ _ _ _ _ _ _ _ _ (heap_al5 _ _ _ _ _ _)) ⟨?_,below_al5 _ _ _ _ _ _⟩
    rw [← hrv]
    simp [onP,Wp.cs,q2,q5]
  ·by_cases hq:li=2
   ·subst hq
    by_cases q2:xk=3
    ·subst q2
     by_cases q3:at_=xa
     ·subst q3
      gi_wp2_with (refine ⟨trivial,?_⟩; gi_at_call 40; refine (list_in _ _ _ _ _).mono ?_; rintro e w' ⟨rfl,rfl⟩)
      all_goals
       refine post_cell rfl rfl rfl (loadWp _ _ _ _ _ _ _ _ _ _ (heap_al5 _ _ _ _ _ _)) ⟨?_,below_al5 _ _ _ _ _ _⟩
       rw [← hrv]
       simp [onP,Wp.cs]
       omega
     ·have q4:((at_:Int) == (xa:Int))=false:=by rw [beq_eq_false_iff_ne]; omega
      have q4b:((xa:Int) == (at_:Int))=false:=by rw [beq_eq_false_iff_ne]; omega
      have q6:¬ (xa:Int)=(at_:Int):=by omega
      gi_wp2_with (refine ⟨trivial,?_⟩; gi_at_call 40; refine (list_in _ _ _ _ _).mono ?_; rintro e w' ⟨rfl,rfl⟩)
      refine post_cell rfl rfl rfl (loadWp _ _ _ _ _ _ _ _ _ _ (heap_al5 _ _ _ _ _ _)) ⟨?_,below_al5 _ _ _ _ _ _⟩
      rw [← hrv]
      simp [onP,Wp.cs,q3]
    ·have q4:((xk:Int) == 3)=false:=by rw [beq_eq_false_iff_ne]; omega
     have q5:¬ 3=xk:=fun e=>q2 e.symm
     have q6:¬ (xk:Int)=3:=by omega
     gi_wp2_with (refine ⟨trivial,?_⟩; gi_at_call 40; refine (list_in _ _ _ _ _).mono ?_; rintro e w' ⟨rfl,rfl⟩)
     refine post_cell rfl rfl rfl (loadWp _ _ _ _ _ _ _ _ _ _ (heap_al5 _ _ _ _ _ _)) ⟨?_,below_al5 _ _ _ _ _ _⟩
     rw [← hrv]
     simp [onP,Wp.cs,q2,q5]
   ·have hq2:((li:Int) == 2)=false:=by rw [beq_eq_false_iff_ne]; omega
    by_cases q2:xk=3
    ·subst q2
     by_cases q3:at_=xa
     ·subst q3
      gi_wp2_with (refine ⟨trivial,?_⟩; gi_at_call 40; refine (list_in _ _ _ _ _).mono ?_; rintro e w' ⟨rfl,rfl⟩)
      all_goals
       refine post_cell rfl rfl rfl (loadWp _ _ _ _ _ _ _ _ _ _ (heap_al5 _ _ _ _ _ _)) ⟨?_,below_al5 _ _ _ _ _ _⟩
       rw [← hrv]
       simp [onP,Wp.cs,hq]
       omega
     ·have q4:((at_:Int) == (xa:Int))=false:=by rw [beq_eq_false_iff_ne]; omega
      have q4b:((xa:Int) == (at_:Int))=false:=by rw [beq_eq_false_iff_ne]; omega
      have q6:¬ (xa:Int)=(at_:Int):=by omega
      gi_wp2_with (refine ⟨trivial,?_⟩; gi_at_call 40; refine (list_in _ _ _ _ _).mono ?_; rintro e w' ⟨rfl,rfl⟩)
      refine post_cell rfl rfl rfl (loadWp _ _ _ _ _ _ _ _ _ _ (heap_al5 _ _ _ _ _ _)) ⟨?_,below_al5 _ _ _ _ _ _⟩
      rw [← hrv]
      simp [onP,Wp.cs,hq,q3]
    ·have q4:((xk:Int) == 3)=false:=by rw [beq_eq_false_iff_ne]; omega
     have q5:¬ 3=xk:=fun e=>q2 e.symm
     have q6:¬ (xk:Int)=3:=by omega
     gi_wp2_with (refine ⟨trivial,?_⟩; gi_at_call 40; refine (list_in _ _ _ _ _).mono ?_; rintro e w' ⟨rfl,rfl⟩)
     refine post_cell rfl rfl rfl (loadWp _ _ _ _ _ _ _ _ _ _ (heap_al5 _ _ _ _ _ _)) ⟨?_,below_al5 _ _ _ _ _ _⟩
     rw [← hrv]
     simp [onP,Wp.cs,hq,q2,q5]
  ·gi_wp2_with (refine ⟨trivial,?_⟩; gi_at_call 40; refine (list_in _ _ _ _ _).mono ?_; rintro e w' ⟨rfl,rfl⟩)
   refine post_cell rfl rfl rfl (loadWp _ _ _ _ _ _ _ _ _ _ (heap_al5 _ _ _ _ _ _)) ⟨?_,below_al5 _ _ _ _ _ _⟩
   rw [← hrv]
   simp [onP,Wp.cs]
end Go.Proofs.Ytimhpaijbbegaaa
namespace Go.Proofs.Ytimhpaijbbegaaa
open Go.RowKit
set_option linter.unusedVariables false
set_option linter.unusedSimpArgs false
theorem ofW_g (L:List Wt) (g:Int) : ((ofW L g).getD (w0 g)).g=g:=by
 unfold ofW
 cases e:L.find? fun x=>x.g == g with
 | none=>rfl
 | some x=>simpa using List.find?_some e
theorem stepW_g (x:Wt) (o:Option Pl) : (stepW x o).g=x.g:=by cases o <;> rfl
theorem lookTo_mem {L:List Wt} {c:Ct} {s:Sn} : ∀ {k:Nat} {x:Wt},x ∈ (lookTo L c s k).1→0≤x.g∧x.g < (k:Int)
 | 0,x,h=>by cases h
 | k+1,x,h=>by
  have h':x ∈ (if s.st.getD k 0=1 then ((lookTo L c s k).1++[stepW ((ofW L k).getD (w0 k)) (picks k s.items).head?],mostC (lookTo L c s k).2 ⟨(stepW ((ofW L k).getD (w0 k)) (picks k s.items).head?).si,(stepW ((ofW L k).getD (w0 k)) (picks k s.items).head?).by_,(stepW ((ofW L k).getD (w0 k)) (picks k s.items).head?).mv,(stepW ((ofW L k).getD (w0 k)) (picks k s.items).head?).bk⟩) else lookTo L c s k).1:=h
  split at h'
  ·rcases List.mem_append.1 h' with h' | h'
   ·have:=lookTo_mem h'
    omega
   ·rw [List.mem_singleton.1 h',stepW_g,ofW_g]
    omega
  ·have:=lookTo_mem h'
   omega
theorem lookTo_apart (L:List Wt) (c:Ct) (s:Sn) (k:Nat) : Apart (lookTo L c s k).1:=by
 induction k with
 | zero=>exact List.Pairwise.nil
 | succ k ih =>
  show Apart (if s.st.getD k 0=1 then _ else _:List Wt×Ct).1
  split
  ·refine List.pairwise_append.2 ⟨ih,by simp,fun x hx y hy=>?_⟩
   rw [List.mem_singleton.1 hy,stepW_g,ofW_g]
   have:=lookTo_mem hx
   omega
  ·exact ih
theorem lookTo_ok {L:List Wt} {c:Ct} {s:Sn} {b:Int} (hO:∀ x ∈ L,x.Ok b) (hb0:0≤b) (hf:s.few) (k:Nat) : ∀ x ∈ (lookTo L c s k).1,x.Ok (b+1):=by
 induction k with
 | zero=>intro x h; cases h
 | succ k ih =>
  intro x h
  have h':x ∈ (if s.st.getD k 0=1 then ((lookTo L c s k).1++[stepW ((ofW L k).getD (w0 k)) (picks k s.items).head?],mostC (lookTo L c s k).2 ⟨(stepW ((ofW L k).getD (w0 k)) (picks k s.items).head?).si,(stepW ((ofW L k).getD (w0 k)) (picks k s.items).head?).by_,(stepW ((ofW L k).getD (w0 k)) (picks k s.items).head?).mv,(stepW ((ofW L k).getD (w0 k)) (picks k s.items).head?).bk⟩) else lookTo L c s k).1:=h
  split at h'
  ·rcases List.mem_append.1 h' with h' | h'
   ·exact ih x h'
   ·rw [List.mem_singleton.1 h']
    exact (ofW_ok hO hb0 _ _).step (picks_ok hf _)
  ·exact ih x h'
theorem slK_of {n n':Nat} {W:World} {v:Value} {l:List Int} (h:SlM 1 n W v l.length (iV l)) (hn:n≤n') : SlK n' W v (iV l):=by
 rcases h.2 with ⟨e,a,c,rfl⟩ | ⟨b,off,c,rfl,hb,hc⟩
 ·have:l=[]:=List.eq_nil_of_length_eq_zero e
  subst this
  exact .inl ⟨rfl,a,c,rfl⟩
 ·exact .inr ⟨b,off,c,by simp,.inl (Nat.lt_of_lt_of_le hb hn),fun j hj=>hc j (by simpa using hj)⟩
theorem slK_of' {n n':Nat} {W:World} {v:Value} {k:Nat} {xs:List Value} (h:SlM 1 n W v k xs) (hn:n≤n') : SlK n' W v xs:=by
 have hl:=h.1
 rw [Nat.mul_one] at hl
 rcases h.2 with ⟨e,a,c,rfl⟩ | ⟨b,off,c,rfl,hb,hc⟩
 ·have:xs=[]:=List.eq_nil_of_length_eq_zero (by omega)
  subst this
  exact .inl ⟨rfl,a,c,rfl⟩
 ·exact .inr ⟨b,off,c,by rw [hl],.inl (Nat.lt_of_lt_of_le hb hn),fun j hj=>hc j (by omega)⟩
theorem rwK_of {n n':Nat} {W:World} {v:Value} {rs:List (List Int)} (h:RwM n W v rs) (hn:n≤n') : RwK n' W v rs:=by
 obtain ⟨vs,h1,h2,h3⟩:=h
 refine ⟨vs,h1,slK_of' h2 hn,fun k hk=>?_⟩
 obtain ⟨u,e,hu⟩:=h3 k hk
 rw [List.getD_eq_getElem?_getD,e,List.getD_eq_getElem?_getD,List.getElem?_eq_getElem hk]
 exact slK_of hu hn
theorem run_mk (w:World) : (Instr.makeMap 26 none).run Try.prog w=.ok (.map (some w.heap.size)) (w.alloc (.map #[] 0)):=by
 have ht:Try.prog.underlying 26 = some (.map 3 70):=Try.underlying26
 simp [Instr.makeMap,run_underlying ht,Result.andThen]
structure Btw (X:Nat→Prop) (w w':World) : Prop where
 os:w'.os=w.os
 tape:w'.tape=w.tape
 output:w'.output=w.output
 size:w.heap.size≤w'.heap.size
 block:∀ k,k < w.heap.size→¬ X k→w'.heap[k]? = w.heap[k]?
theorem Btw.refl (X:Nat→Prop) (w:World) : Btw X w w:=⟨rfl,rfl,rfl,Nat.le_refl _,fun _ _ _=>rfl⟩
theorem Btw.trans {X:Nat→Prop} {a b c:World} (h:Btw X a b) (k:Btw X b c) : Btw X a c :=
 ⟨k.os.trans h.os,k.tape.trans h.tape,k.output.trans h.output,Nat.le_trans h.size k.size,fun j hj hx=>(k.block j (Nat.lt_of_lt_of_le hj h.size) hx).trans (h.block j hj hx)⟩
theorem Btw.of {X:Nat→Prop} {w w':World} (h:Below w.heap.size w w') : Btw X w w':=⟨h.os,h.tape,h.output,h.size,fun k hk _=>h.block k hk⟩
theorem Btw.mono {X Y:Nat→Prop} {a b:World} (h:Btw X a b) (hx:∀ j,X j→Y j) : Btw Y a b:=⟨h.os,h.tape,h.output,h.size,fun k hk hy=>h.block k hk fun e=>hy (hx _ e)⟩
theorem Btw.below {X:Nat→Prop} {a w w':World} (h:Btw X a w) (k:Below w.heap.size w w') : Btw X a w':=h.trans (.of k)
theorem Btw.setCell {X:Nat→Prop} {a w:World} (h:Btw X a w) (p:Addr) (u:Value) (hX:X p.block∨a.heap.size≤p.block) : Btw X a (w.setCell p u) :=
 ⟨h.os,h.tape,h.output,by simp only [World.setCell,Array.size_modify]; exact h.size,fun k hk hx=>(Below.heap_setCell w p u k (fun e=>hX.elim (fun h1=>hx (e ▸ h1)) (fun h1=>by omega))).trans (h.block k hk hx)⟩
theorem Btw.setAt {X:Nat→Prop} {a w:World} (h:Btw X a w) (b:Nat) (o:Obj) (hX:X b) : Btw X a { w with heap:=w.heap.setIfInBounds b o } :=
 ⟨h.os,h.tape,h.output,by simp only [Array.size_setIfInBounds]; exact h.size,fun k hk hx=>by
  have:b ≠ k:=fun e=>hx (e ▸ hX)
  simp only [Array.getElem?_setIfInBounds_ne this]
  exact h.block k hk hx⟩
def SnX (X:Nat→Prop) (w:World) (v0 v1 v2 v3 v4 v5:Value) (s:Sn) : Prop:=∀ w',Btw X w w'→SnM w.heap.size w' v0 v1 v2 v3 v4 v5 s
structure LookAt (B:Nat) (W1 wr:World) (v:Value) (c:Ct) (b4:Nat) (l:List Wt) : Prop where
 btw:Btw (fun j=>j=B∨j=b4) W1 wr
 xB:wr.heap[B]? = some (Obj.cells #[v,iZ c.si,iZ c.by_,iZ c.mv,.bool c.bk] 30 (0,0))
 x4:wr.heap[b4]? = some (.map (mpE 0 l).toArray l.length)
theorem set_eight {W:World} {b:Nat} {t:TypeId} {fr:Nat×Nat} {x0 x1 x2 x3 x4 x5 x6 x7:Value} (h:W.heap[b]? = some (Obj.cells #[x0,x1,x2,x3,x4,x5,x6,x7] t fr)) (z0 z1 z2 z3 z4 z5 z6 z7:Value) :
  ((((((((W.setCell ⟨b,0,none⟩ z0).setCell ⟨b,1,none⟩ z1).setCell ⟨b,2,none⟩ z2).setCell ⟨b,3,none⟩ z3).setCell ⟨b,4,none⟩ z4).setCell ⟨b,5,none⟩ z5).setCell ⟨b,6,none⟩ z6).setCell ⟨b,7,none⟩ z7).heap[b]? = some (Obj.cells #[z0,z1,z2,z3,z4,z5,z6,z7] t fr):=by
 have:=(set_at (set_at (set_at (set_at (set_at (set_at (set_at (set_at h 0 z0) 1 z1) 2 z2) 3 z3) 4 z4) 5 z5) 6 z6) 7 z7)
 simp only [List.setIfInBounds_toArray,List.set_cons_zero,List.set_cons_succ] at this
 exact this
theorem alloc_lt (w:World) (o:Obj) : w.heap.size < (w.alloc o).heap.size:=by simp
theorem Btw.low {B b4:Nat} {w W1 wr:World} (h1:Below w.heap.size w W1) (h:Btw (fun j=>j=B∨j=b4) W1 wr) (h4:w.heap.size≤b4) : Btw (fun j=>j=B) w wr :=
 ⟨h.os.trans h1.os,h.tape.trans h1.tape,h.output.trans h1.output,Nat.le_trans h1.size h.size,fun j hj hx=>(h.block j (Nat.lt_of_lt_of_le hj h1.size) (fun e=>e.elim hx (fun e=>by omega))).trans (h1.block j hj)⟩
theorem MpAt.btw {B:Nat} {w w':World} {v:Value} {L:List Wt} {xs:Array Value} {t:TypeId} {fr:Nat×Nat} (h:MpAt w.heap.size w v L) (hB:w.heap[B]? = some (Obj.cells xs t fr)) (hb:Btw (fun j=>j=B) w w') : MpAt w.heap.size w' v L:=by
 rcases h with h | ⟨b,e,h1,h2⟩
 ·exact .inl h
 ·refine .inr ⟨b,e,h1,(hb.block b h1 (fun e=>?_)).trans h2⟩
  rw [e,hB] at h2
  cases h2
set_option maxRecDepth 4000 in
set_option maxHeartbeats 8000000 in
theorem wLook_in (m B:Nat) (v v0 v1 v2 v3 v4 v5:Value) (L:List Wt) (c:Ct) (s:Sn) (hf:s.few) (b:Int) (hb:b≤100) (hb0:0≤b) (hO:∀ x ∈ L,x.Ok b) (hA:Apart L) (hG:∀ x ∈ L,wfG x.g) (w:World) (hB:w.heap[B]? = some (Obj.cells #[v,iZ c.si,iZ c.by_,iZ c.mv,.bool c.bk] 30 (0,0))) (hL:MpAt w.heap.size w v L) (hs:SnX (fun j=>j=B) w v0 v1 v2 v3 v4 v5 s) :
  CallsIn Fence.wide m Try.prog 9 #[.pointer (some ⟨B,0,none⟩),.agg #[v0,v1,v2,v3,v4,v5]] w fun e w' =>
   e=.returned (.tuple #[])∧Btw (fun j=>j=B) w w'∧∃ b4,w.heap.size≤b4∧w'.heap[B]? = some (Obj.cells #[.map (some b4),iZ (lookTo L c s s.st.length).2.si,iZ (lookTo L c s s.st.length).2.by_,iZ (lookTo L c s s.st.length).2.mv,.bool (lookTo L c s s.st.length).2.bk] 30 (0,0)) ∧
    w'.heap[b4]? = some (.map (mpE 0 (lookTo L c s s.st.length).1).toArray (lookTo L c s s.st.length).1.length):=by
 refine callsIn_of_wp Try.func9 rfl trivial ?_ rfl
 simp only [Try.ntmps9,List.size_toArray,List.length_cons,List.length_nil,Nat.reduceAdd,Nat.reduceSub,Array.replicate_succ,Array.replicate_zero,List.push_toArray,List.append_toArray,List.nil_append,List.cons_append]
 have hBl:B < w.heap.size:=(Array.getElem?_eq_some_iff.1 hB).1
 obtain ⟨a0,c0,rfl⟩:=(hs w (.refl _ _)).st.val
 obtain ⟨W1,hW1⟩ : ∃ W1,(w.alloc (.cells #[.slice a0 s.st.length c0,v1,v2,v3,v4,v5] 38)).alloc (.map #[] 0)=W1:=⟨_,rfl⟩
 have hBw:Below w.heap.size w W1:=by rw [← hW1]; exact below_al2 _ _ _
 have hW1s:W1.heap.size=w.heap.size+1+1:=by rw [← hW1]; simp
 have h13:W1.heap[w.heap.size]? = some (Obj.cells #[.slice a0 s.st.length c0,v1,v2,v3,v4,v5] 38 (0,0)):=by rw [← hW1]; exact heap_keep _ _ (World.alloc_heap_new _ _)
 have h14:W1.heap[w.heap.size+1]? = some (.map #[] 0):=by rw [← hW1]; exact heap_al2 _ _ _
 have h1B:=(hBw.block B hBl).trans hB
 have e30:=cell_of h13 0 _ rfl
 have hstl:s.st.length≤20:=hf.1
 dsimp only [iZ]
 have hmk:∀ w:World,(Instr.makeMap 26 none).run Try.prog w=.ok (.map (some w.heap.size)) (w.alloc (.map #[] 0)):=fun w=>run_mk w
 gi_wp2
 gi_loopw [14] (fun p wr=>∃ k:Nat,p=.int .i64 (k:Int)∧k≤s.st.length∧LookAt B W1 wr v (lookTo L c s k).2 (w.heap.size+1) (lookTo L c s k).1) (fun p _=>s.st.length - (intOf p).toNat)
 case atStart=>exact ⟨0,rfl,Nat.zero_le _,.refl _ _,h1B,h14⟩
 case round =>
  obtain ⟨k,rfl,hk,hbt,hxB,hx4⟩:=hrel
  have hlm:∀ x ∈ (lookTo L c s k).1,0≤x.g∧x.g < (k:Int):=fun x hx=>lookTo_mem hx
  obtain ⟨l,c1,hlc⟩ : ∃ l c1,lookTo L c s k=(l,c1):=⟨_,_,rfl⟩
  rw [hlc] at hlm hxB hx4
  obtain ⟨s1,b1,m1,k1⟩:=c1
  dsimp only at hlm hxB hx4
  by_cases hlt:k < s.st.length
  ·have hlI:(k:Int) < (s.st.length:Int):=by omega
   have hlow:=Btw.low hBw hbt (Nat.le_succ _)
   have hsn:=hs wr hlow
   obtain ⟨bb,off,cp,hv,hbb,hc⟩:=hsn.st.get hlt
   cases hv
   obtain ⟨x,hx⟩ : ∃ x,s.st[k]=x:=⟨_,rfl⟩
   rw [hx] at hc
   have hgx:s.st.getD k 0=x:=by rw [List.getD_eq_getElem?_getD,List.getElem?_eq_getElem hlt,hx]; rfl
   by_cases hx1:x=1
   ·subst hx1
    have hwr3:w.heap.size < wr.heap.size:=by have:=hbt.size; omega
    have h3:=(hbt.block w.heap.size (by omega) (by intro e; rcases e with e | e <;> omega)).trans h13
    have hmp:MpAt w.heap.size wr v L:=hL.btw hB hlow
    obtain ⟨y,hy⟩ : ∃ y,(ofW L (k:Int)).getD (w0 k)=y:=⟨_,rfl⟩
    have yO:y.Ok b:=by rw [← hy]; exact ofW_ok hO hb0 _ _
    obtain ⟨z,hz⟩ : ∃ z,stepW y (picks (k:Int) s.items).head? = z:=⟨_,rfl⟩
    have hpz:onP (pw y) (picks (k:Int) s.items).head? = pw z:=by rw [← hz,pw_step]
    obtain ⟨q,hq⟩ : ∃ q,pw y=q:=⟨_,rfl⟩
    obtain ⟨u,hu⟩ : ∃ u,pw z=u:=⟨_,rfl⟩
    rw [hq,hu] at hpz
    have qO:-1≤q.si∧q.si≤b∧0≤q.by_∧q.by_≤b * 1000∧0≤q.mv∧q.mv≤b∧q.p.kd≤4∧q.p.at_≤1000∧q.p.ah≤1000:=by
     rw [← hq]
     obtain ⟨⟨o1,o2⟩,⟨o3,o4⟩,⟨o5,o6⟩,o7,o8,o9,oa⟩:=yO
     refine ⟨o1,o2,o3,o4,o5,o6,?_⟩
     unfold pw
     dsimp only
     split
     ·exact ⟨o8,o9,oa⟩
     ·exact ⟨Nat.zero_le _,Nat.zero_le _,Nat.zero_le _⟩
    obtain ⟨qsi,qby,qmv,qbk,qli,⟨qkd,qat,qah⟩⟩:=q
    obtain ⟨usi,uby,umv,ubk,uli,⟨ukd,uat,uah⟩⟩:=u
    obtain ⟨f0,f1,⟨f2,f2'⟩,f3,⟨f4,f4'⟩,f5⟩:=id hf
    have hns:s.nx.length≤1000∧s.gl.length≤1000∧(s.ri.length≤1000∧∀ r ∈ s.ri,r.length≤1000)∧s.ha.length≤1000∧∀ r ∈ s.ha,r.length≤1000 :=
     ⟨by omega,by omega,⟨by omega,fun r hr=>by have:=f2' r hr; omega⟩,by omega,fun r hr=>by have:=f4' r hr; omega⟩
    have hS6:∀ w',Below wr.heap.size wr w'→(w'.cell? ⟨w.heap.size,0,none⟩=some (.slice (some ⟨bb,off,none⟩) s.st.length c0)∧w'.cell? ⟨w.heap.size,1,none⟩=some v1∧w'.cell? ⟨w.heap.size,2,none⟩=some v2∧w'.cell? ⟨w.heap.size,3,none⟩=some v3∧w'.cell? ⟨w.heap.size,4,none⟩=some v4∧w'.cell? ⟨w.heap.size,5,none⟩=some v5∧Below wr.heap.size wr w'):=by
     intro w' hw'
     have q:=fun (i:Nat) (u:Value) hi=>(hw'.cell (p:=⟨w.heap.size,i,none⟩) hwr3).trans (cell_of h3 i u hi)
     exact ⟨q 0 _ rfl,q 1 _ rfl,q 2 _ rfl,q 3 _ rfl,q 4 _ rfl,q 5 _ rfl,hw'⟩
    have hSB:∀ w',(w'.cell? ⟨w.heap.size,0,none⟩=some (.slice (some ⟨bb,off,none⟩) s.st.length c0)∧w'.cell? ⟨w.heap.size,1,none⟩=some v1∧w'.cell? ⟨w.heap.size,2,none⟩=some v2∧w'.cell? ⟨w.heap.size,3,none⟩=some v3∧w'.cell? ⟨w.heap.size,4,none⟩=some v4∧w'.cell? ⟨w.heap.size,5,none⟩=some v5∧Below wr.heap.size wr w')→Below wr.heap.size wr w':=fun w' h=>h.2.2.2.2.2.2
    have hSB2:∀ w',Below wr.heap.size wr w'→(w'.heap[B]? = some (Obj.cells #[v,iZ s1,iZ b1,iZ m1,.bool k1] 30 (0,0))∧MpAt w'.heap.size w' v L)∧SlK w'.heap.size w' v1 (iV s.nx)∧RwK w'.heap.size w' v2 s.ri∧SlK w'.heap.size w' v3 (iV s.gl)∧RwK w'.heap.size w' v4 s.ha:=by
     intro w' h
     have hle:w.heap.size≤w'.heap.size:=Nat.le_trans (Nat.le_of_lt hwr3) h.size
     have hk':=hsn.keep (h.mono (Nat.le_of_lt hwr3))
     exact ⟨⟨(h.block B (by omega)).trans hxB,(hmp.keep (h.mono (Nat.le_of_lt hwr3))).up hle⟩,slK_of hk'.nx hle,rwK_of hk'.ri hle,slK_of hk'.gl hle,rwK_of hk'.ha hle⟩
    have hBd:Below wr.heap.size wr wr.drew:=(Below.refl _ _).drew
    have hkg:wfG (k:Int):=by unfold wfG; omega
    gi_wp2
    refine wpIn_wide.2 ?_
    go_region_held3 (fun w'=>w'.cell? ⟨w.heap.size,0,none⟩=some (.slice (some ⟨bb,off,none⟩) s.st.length c0)∧w'.cell? ⟨w.heap.size,1,none⟩=some v1∧w'.cell? ⟨w.heap.size,2,none⟩=some v2∧w'.cell? ⟨w.heap.size,3,none⟩=some v3∧w'.cell? ⟨w.heap.size,4,none⟩=some v4∧w'.cell? ⟨w.heap.size,5,none⟩=some v5∧Below wr.heap.size wr w') ((refine hS6 _ ?_; first | with_reducible assumption | with_reducible exact hB5.alloc hB5.size _ | with_reducible exact hB3.alloc hB3.size _ | with_reducible exact hB2.alloc hB2.size _ | with_reducible exact ((Below.refl _ wr).alloc (Nat.le_refl _) _).drew | (with_reducible refine ((((((((hB5.setCell ?_ _).setCell ?_ _).setCell ?_ _).setCell ?_ _).setCell ?_ _).setCell ?_ _).setCell ?_ _).setCell ?_ _) <;> first | exact hB3.size | exact hB2.size | exact Nat.le_refl _) | fail)) ((first
     | (go_at_call 26; have hcw:Below wr.heap.size wr _:=hSB _ (by assumption); refine (callsIn_wide.1 (wof_in 0 B v ⟨s1,b1,m1,k1⟩ L k _ (hSB2 _ hcw).1.1 (hSB2 _ hcw).1.2 hA hG hkg)).mono ?_; rintro e w2 ⟨he,hb2⟩; rw [hy,hq] at he; dsimp only [Wp.cs,iZ,iM] at he; subst he; have hB2:=hcw.trans (hb2.mono hcw.size); (first | (with_reducible have hcc:Below wr.drew.heap.size wr.drew w2:=hb2) | (have ht7:w2.heap[wr.heap.size]? = some (Obj.cells #[.int .i64 0,.int .i64 0,.int .i64 0,.bool false,.int .i64 0,.int .i64 0,.int .i64 0,.int .i64 0] 70 (0,0)):=(hb2.block wr.heap.size (alloc_lt wr _)).trans (World.alloc_heap_new wr (.cells #[.int .i64 0,.int .i64 0,.int .i64 0,.bool false,.int .i64 0,.int .i64 0,.int .i64 0,.int .i64 0] 70))));  skip)
     | (go_at_call 20; have hcw:Below wr.heap.size wr _:=hSB _ (by assumption); refine (callsIn_wide.1 (places_in _ v1 v2 v3 v4 v5 s.nx s.gl s.ri s.ha k hns _ (hSB2 _ hcw).2.1 (hSB2 _ hcw).2.2.1 (hSB2 _ hcw).2.2.2.1 (hSB2 _ hcw).2.2.2.2)).mono ?_; rintro e w3 ⟨u3,rfl,hu3,hb3⟩; have hB3:=hcw.trans (hb3.mono hcw.size); (first | (with_reducible have hcc:Below w2.heap.size w2 w3:=hb3) | (with_reducible have ht7:=(hb3.block w2.heap.size (alloc_lt w2 _)).trans (World.alloc_heap_new w2 (.cells #[.int .i64 0,.int .i64 0,.int .i64 0,.bool false,.int .i64 0,.int .i64 0,.int .i64 0,.int .i64 0] 70)); try dsimp only [World.drew] at ht7)); (first | (fail_if_success (with_reducible have hcc:Below w2.heap.size w2 w3:=hb3)) | (first | (with_reducible have hcc:Below wr.drew.heap.size wr.drew w2:=hb2) | (with_reducible have ht7:=(hb3.block _ (Array.getElem?_eq_some_iff.1 ht7).1).trans ht7))); skip)
     | (go_at_call 27; have hcw:Below wr.heap.size wr _:=hSB _ (by assumption); refine (callsIn_wide.1 (on_in 1 (Nat.le_refl _) ⟨qsi,qby,qmv,qbk,qli,⟨qkd,qat,qah⟩⟩ b qO (by omega) u3 _ (picks_ok hf k) _ (by first | exact plAt_own hu3 | exact plAt_own (hu3.alloc _)))).mono ?_; rintro e w5 ⟨he,hb5⟩; have he:=he.trans (congrArg (fun t:Wp=>Ending.returned (.agg t.cs.toArray)) hpz); dsimp only [Wp.cs,iZ,iM] at he; subst he; have hB5:=hcw.trans (hb5.mono hcw.size); (first | (with_reducible have hcc:Below w3.heap.size w3 w5:=hb5) | (with_reducible have ht7:=(hb5.block w3.heap.size (alloc_lt w3 _)).trans (World.alloc_heap_new w3 (.cells #[.int .i64 0,.int .i64 0,.int .i64 0,.bool false,.int .i64 0,.int .i64 0,.int .i64 0,.int .i64 0] 70)); try dsimp only [World.drew] at ht7)); (first | (fail_if_success (with_reducible have hcc:Below w3.heap.size w3 w5:=hb5)) | (first | ((with_reducible have hcc:Below wr.drew.heap.size wr.drew w2:=hb2); (with_reducible have hcc:Below w2.heap.size w2 w3:=hb3)) | (with_reducible have ht7:=(hb5.block _ (Array.getElem?_eq_some_iff.1 ht7).1).trans ht7))); (first | ((with_reducible have hcc:Below wr.drew.heap.size wr.drew w2:=hb2); (with_reducible have hcc:Below w2.heap.size w2 w3:=hb3); (with_reducible have hcc:Below w3.heap.size w3 w5:=hb5)) | (have d0:=cell_of ht7 0 _ rfl; have q0:=froz_of ht7 0; have d1:=cell_of ht7 1 _ rfl; have q1:=froz_of ht7 1; have d2:=cell_of ht7 2 _ rfl; have q2:=froz_of ht7 2; have d3:=cell_of ht7 3 _ rfl; have q3:=froz_of ht7 3; have d4:=cell_of ht7 4 _ rfl; have q4:=froz_of ht7 4; have d5:=cell_of ht7 5 _ rfl; have q5:=froz_of ht7 5; have d6:=cell_of ht7 6 _ rfl; have q6:=froz_of ht7 6; have d7:=cell_of ht7 7 _ rfl; have q7:=froz_of ht7 7)); skip)))
    obtain ⟨w7,hw7⟩ : ∃ w7,w5.alloc (.cells #[.int .i64 usi,.int .i64 uby,.int .i64 umv,.bool ubk,.int .i64 (uli:Int),.int .i64 (ukd:Int),.int .i64 (uat:Int),.int .i64 (uah:Int)] 70)=w7:=⟨_,rfl⟩
    have hle7:wr.heap.size≤w5.heap.size:=hB5.size
    have hB7:Below wr.heap.size wr w7:=by rw [← hw7]; exact hB5.alloc hB5.size _
    have ht8:w7.heap[w5.heap.size]? = some (Obj.cells #[.int .i64 usi,.int .i64 uby,.int .i64 umv,.bool ubk,.int .i64 (uli:Int),.int .i64 (ukd:Int),.int .i64 (uat:Int),.int .i64 (uah:Int)] 70 (0,0)):=by rw [← hw7]; exact World.alloc_heap_new _ _
    rw [hw7]
    clear hw7
    obtain ⟨b7,hb7⟩ : ∃ b7,w5.heap.size=b7:=⟨_,rfl⟩
    rw [hb7] at ht8 hle7 ⊢
    rotate_left
    obtain ⟨w7,hw7⟩ : ∃ w7,((((((((w5.setCell ⟨w3.heap.size,0,none⟩ (.int .i64 usi)).setCell ⟨w3.heap.size,1,none⟩ (.int .i64 uby)).setCell ⟨w3.heap.size,2,none⟩ (.int .i64 umv)).setCell ⟨w3.heap.size,3,none⟩ (.bool ubk)).setCell ⟨w3.heap.size,4,none⟩ (.int .i64 (uli:Int))).setCell ⟨w3.heap.size,5,none⟩ (.int .i64 (ukd:Int))).setCell ⟨w3.heap.size,6,none⟩ (.int .i64 (uat:Int))).setCell ⟨w3.heap.size,7,none⟩ (.int .i64 (uah:Int)))=w7:=⟨_,rfl⟩
    have hle7:wr.heap.size≤w3.heap.size:=hB3.size
    have hB7:Below wr.heap.size wr w7:=by rw [← hw7]; exact ((((((((hB5.setCell hle7 _).setCell hle7 _).setCell hle7 _).setCell hle7 _).setCell hle7 _).setCell hle7 _).setCell hle7 _).setCell hle7 _)
    have ht8:=set_eight ht7 (.int .i64 usi) (.int .i64 uby) (.int .i64 umv) (.bool ubk) (.int .i64 (uli:Int)) (.int .i64 (ukd:Int)) (.int .i64 (uat:Int)) (.int .i64 (uah:Int))
    rw [hw7] at ht8 ⊢
    clear hw7
    obtain ⟨b7,hb7⟩ : ∃ b7,w3.heap.size=b7:=⟨_,rfl⟩
    rw [hb7] at ht8 hle7 ⊢
    rotate_left
    obtain ⟨w7,hw7⟩ : ∃ w7,((((((((w5.setCell ⟨w2.heap.size,0,none⟩ (.int .i64 usi)).setCell ⟨w2.heap.size,1,none⟩ (.int .i64 uby)).setCell ⟨w2.heap.size,2,none⟩ (.int .i64 umv)).setCell ⟨w2.heap.size,3,none⟩ (.bool ubk)).setCell ⟨w2.heap.size,4,none⟩ (.int .i64 (uli:Int))).setCell ⟨w2.heap.size,5,none⟩ (.int .i64 (ukd:Int))).setCell ⟨w2.heap.size,6,none⟩ (.int .i64 (uat:Int))).setCell ⟨w2.heap.size,7,none⟩ (.int .i64 (uah:Int)))=w7:=⟨_,rfl⟩
    have hle7:wr.heap.size≤w2.heap.size:=hB2.size
    have hB7:Below wr.heap.size wr w7:=by rw [← hw7]; exact ((((((((hB5.setCell hle7 _).setCell hle7 _).setCell hle7 _).setCell hle7 _).setCell hle7 _).setCell hle7 _).setCell hle7 _).setCell hle7 _)
    have ht8:=set_eight ht7 (.int .i64 usi) (.int .i64 uby) (.int .i64 umv) (.bool ubk) (.int .i64 (uli:Int)) (.int .i64 (ukd:Int)) (.int .i64 (uat:Int)) (.int .i64 (uah:Int))
    rw [hw7] at ht8 ⊢
    clear hw7
    obtain ⟨b7,hb7⟩ : ∃ b7,w2.heap.size=b7:=⟨_,rfl⟩
    rw [hb7] at ht8 hle7 ⊢
    rotate_left
    obtain ⟨w7,hw7⟩ : ∃ w7,((((((((w5.setCell ⟨wr.heap.size,0,none⟩ (.int .i64 usi)).setCell ⟨wr.heap.size,1,none⟩ (.int .i64 uby)).setCell ⟨wr.heap.size,2,none⟩ (.int .i64 umv)).setCell ⟨wr.heap.size,3,none⟩ (.bool ubk)).setCell ⟨wr.heap.size,4,none⟩ (.int .i64 (uli:Int))).setCell ⟨wr.heap.size,5,none⟩ (.int .i64 (ukd:Int))).setCell ⟨wr.heap.size,6,none⟩ (.int .i64 (uat:Int))).setCell ⟨wr.heap.size,7,none⟩ (.int .i64 (uah:Int)))=w7:=⟨_,rfl⟩
    have hle7:wr.heap.size≤wr.heap.size:=Nat.le_refl _
    have hB7:Below wr.heap.size wr w7:=by rw [← hw7]; exact ((((((((hB5.setCell hle7 _).setCell hle7 _).setCell hle7 _).setCell hle7 _).setCell hle7 _).setCell hle7 _).setCell hle7 _).setCell hle7 _)
    have ht8:=set_eight ht7 (.int .i64 usi) (.int .i64 uby) (.int .i64 umv) (.bool ubk) (.int .i64 (uli:Int)) (.int .i64 (ukd:Int)) (.int .i64 (uat:Int)) (.int .i64 (uah:Int))
    rw [hw7] at ht8 ⊢
    clear hw7
    obtain ⟨b7,hb7⟩ : ∃ b7,wr.heap.size=b7:=⟨_,rfl⟩
    rw [hb7] at ht8 hle7 ⊢
    rotate_left
    all_goals
     have hzg:z.g=(k:Int):=by rw [← hz,stepW_g,← hy,ofW_g]
     have hx47:=(hB7.block (w.heap.size+1) (by have:=hbt.size; omega)).trans hx4
     have hput:=run_put (w:=w7) hx47 (fun x hx=>by have:=hlm x hx; unfold wfG; omega) (x:=z) (by rw [hzg]; exact hkg) (fun y hy=>by have:=hlm y hy; omega)
     rw [hu,hzg] at hput
     dsimp only [Wp.cs,iZ,iM] at hput
     have hszb:w.heap.size+1 < w7.heap.size:=by have h1:=hB7.size; have h2:=hbt.size; omega
     have hb7l:b7 < w7.heap.size:=(Array.getElem?_eq_some_iff.1 ht8).1
     have hbt2:=hbt.size
     have hbt7:Btw (fun j=>j=B∨j=w.heap.size+1) W1 { w7 with heap:=w7.heap.setIfInBounds (w.heap.size+1) (.map (mpE 0 (l++[z])).toArray (l++[z]).length) }:=(hbt.below hB7).setAt _ _ (.inr rfl)
     obtain ⟨w8,hw8⟩ : ∃ w8,{ w7 with heap:=w7.heap.setIfInBounds (w.heap.size+1) (.map (mpE 0 (l++[z])).toArray (l++[z]).length) }=w8:=⟨_,rfl⟩
     have h84:w8.heap[w.heap.size+1]? = some (.map (mpE 0 (l++[z])).toArray (l++[z]).length):=by rw [← hw8]; simp [hszb]
     have h8o:∀ j,j ≠ w.heap.size+1→w8.heap[j]? = w7.heap[j]?:=by
      intro j hj
      rw [← hw8]
      exact Array.getElem?_setIfInBounds_ne (fun e=>hj e.symm)
     have h87:=(h8o b7 (by omega)).trans ht8
     have h8B:=(h8o B (by omega)).trans ((hB7.block B (by omega)).trans hxB)
     have h8s:w8.heap.size=w7.heap.size:=by rw [← hw8]; simp
     rw [hw8] at hput hbt7
     clear hw8
     have g0:=cell_of h87 0 _ rfl
     have g1:=cell_of h87 1 _ rfl
     have g2:=cell_of h87 2 _ rfl
     have g3:=cell_of h87 3 _ rfl
     have g4:=cell_of ht8 0 _ rfl
     have g5:=cell_of ht8 1 _ rfl
     have g6:=cell_of ht8 2 _ rfl
     have g7:=cell_of ht8 3 _ rfl
     have g8:=cell_of ht8 4 _ rfl
     have g9:=cell_of ht8 5 _ rfl
     have ga:=cell_of ht8 6 _ rfl
     have gb:=cell_of ht8 7 _ rfl
     dsimp only [iZ] at h8B
     obtain ⟨mc,hmc⟩ : ∃ mc,mostC ⟨s1,b1,m1,k1⟩ ⟨usi,uby,umv,ubk⟩=mc:=⟨_,rfl⟩
     have hlk:lookTo L c s (k+1)=(l++[z],mc):=by
      show (if s.st.getD k 0=1 then _ else _)=_
      rw [if_pos hgx,hy,hz,hlc,← hmc]
      have p1:z.si=usi:=congrArg Wp.si hu
      have p2:z.by_=uby:=congrArg Wp.by_ hu
      have p3:z.mv=umv:=congrArg Wp.mv hu
      have p4:z.bk=ubk:=congrArg Wp.bk hu
      rw [p1,p2,p3,p4]
     obtain ⟨x1,x2,x3,x4⟩:=mc
     have h8Bd:w8.drew.heap[B]? = some (Obj.cells #[v,.int .i64 s1,.int .i64 b1,.int .i64 m1,.bool k1] 30 (0,0)):=h8B
     have i1:=cell_of h8Bd 1 _ rfl
     have i2:=cell_of h8Bd 2 _ rfl
     have i3:=cell_of h8Bd 3 _ rfl
     have i4:=cell_of h8Bd 4 _ rfl
     have hb78:b7 < w8.heap.size:=by omega
     have hb7B:¬ b7=B:=by have:=hbt.size; omega
     have hSb:∀ w',Btw (fun j=>j=B) w8 w'→(w'.cell? ⟨b7,0,none⟩=some (.int .i64 usi)∧w'.cell? ⟨b7,1,none⟩=some (.int .i64 uby)∧w'.cell? ⟨b7,2,none⟩=some (.int .i64 umv)∧w'.cell? ⟨b7,3,none⟩=some (.bool ubk)∧Btw (fun j=>j=B) w8 w'):=by
      intro w' hw'
      have q:=fun (i:Nat) (u:Value) hi=>cell_of ((hw'.block b7 hb78 hb7B).trans h87) i u hi
      exact ⟨q 0 _ rfl,q 1 _ rfl,q 2 _ rfl,q 3 _ rfl,hw'⟩
     have hT0:Btw (fun j=>j=B) w8 w8.drew:=.of ((Below.refl _ _).drew)
     have hB8l:B < w8.drew.heap.size:=(Array.getElem?_eq_some_iff.1 h8Bd).1
     gi_wp2
     refine wpIn_wide.2 ?_
     refine wp_region_held_drew (S:=(fun w'=>w'.cell? ⟨b7,0,none⟩=some (.int .i64 usi)∧w'.cell? ⟨b7,1,none⟩=some (.int .i64 uby)∧w'.cell? ⟨b7,2,none⟩=some (.int .i64 umv)∧w'.cell? ⟨b7,3,none⟩=some (.bool ubk)∧Btw (fun j=>j=B) w8 w')) (by kernel_rfl) ?_ (fun hHeld=>?_)
     ·(refine hSb _ ?_; first | with_reducible exact hT0 | with_reducible exact hT9 | exact (((hT9.setCell ⟨B,1,none⟩ _ (.inl rfl)).setCell ⟨B,2,none⟩ _ (.inl rfl)).setCell ⟨B,3,none⟩ _ (.inl rfl)).setCell ⟨B,4,none⟩ _ (.inl rfl) | fail)
     refine wpAnyH_take (i:=0) (v:=?_) rfl (by kernel_rfl) (by kernel_rfl) (by kernel_rfl) (fun _ _ _ h=>h) (Or.inl ⟨by kernel_rfl,?_⟩) (by assumption) ?_
     rotate_left
     ·first | ((intro w hSw; (try dsimp only at hSw); go_simp); done) | ((intro w hSw; (try dsimp only at hSw); go_simp); with_reducible rfl)
     simp only [Act.put,List.getElem_toArray,List.getElem_cons_succ,List.getElem_cons_zero,List.setIfInBounds_toArray,List.set_cons_zero,List.set_cons_succ]
     refine wpAnyH_take (i:=1) (v:=?_) rfl (by kernel_rfl) (by kernel_rfl) (by kernel_rfl) (fun _ _ _ h=>h) (Or.inl ⟨by kernel_rfl,?_⟩) (by assumption) ?_
     rotate_left
     ·first | ((intro w hSw; (try dsimp only at hSw); go_simp); done) | ((intro w hSw; (try dsimp only at hSw); go_simp); with_reducible rfl)
     simp only [Act.put,List.getElem_toArray,List.getElem_cons_succ,List.getElem_cons_zero,List.setIfInBounds_toArray,List.set_cons_zero,List.set_cons_succ]
     refine wpAnyH_take (i:=2) (v:=?_) rfl (by kernel_rfl) (by kernel_rfl) (by kernel_rfl) (fun _ _ _ h=>h) (Or.inl ⟨by kernel_rfl,?_⟩) (by assumption) ?_
     rotate_left
     ·first | ((intro w hSw; (try dsimp only at hSw); go_simp); done) | ((intro w hSw; (try dsimp only at hSw); go_simp); with_reducible rfl)
     simp only [Act.put,List.getElem_toArray,List.getElem_cons_succ,List.getElem_cons_zero,List.setIfInBounds_toArray,List.set_cons_zero,List.set_cons_succ]
     refine wpAnyH_take (i:=3) (v:=?_) rfl (by kernel_rfl) (by kernel_rfl) (by kernel_rfl) (fun _ _ _ h=>h) (Or.inl ⟨by kernel_rfl,?_⟩) (by assumption) ?_
     rotate_left
     ·first | ((intro w hSw; (try dsimp only at hSw); go_simp); done) | ((intro w hSw; (try dsimp only at hSw); go_simp); with_reducible rfl)
     simp only [Act.put,List.getElem_toArray,List.getElem_cons_succ,List.getElem_cons_zero,List.setIfInBounds_toArray,List.set_cons_zero,List.set_cons_succ]
     refine wpAnyH_take (i:=5) (v:=?_) rfl (by kernel_rfl) (by kernel_rfl) (by kernel_rfl) (fun _ _ _ h=>h) (Or.inl ⟨by kernel_rfl,?_⟩) (by assumption) ?_
     rotate_left
     ·first | ((intro w hSw; (try dsimp only at hSw); go_simp); done) | ((intro w hSw; (try dsimp only at hSw); go_simp); with_reducible rfl)
     simp only [Act.put,List.getElem_toArray,List.getElem_cons_succ,List.getElem_cons_zero,List.setIfInBounds_toArray,List.set_cons_zero,List.set_cons_succ]
     refine wpAnyH_take (i:=6) (v:=?_) rfl (by kernel_rfl) (by kernel_rfl) (by kernel_rfl) (fun _ _ _ h=>h) (Or.inl ⟨by kernel_rfl,?_⟩) (by assumption) ?_
     rotate_left
     ·first | ((intro w hSw; (try dsimp only at hSw); go_simp); done) | ((intro w hSw; (try dsimp only at hSw); go_simp); with_reducible rfl)
     simp only [Act.put,List.getElem_toArray,List.getElem_cons_succ,List.getElem_cons_zero,List.setIfInBounds_toArray,List.set_cons_zero,List.set_cons_succ]
     refine wpAnyH_ready (rs:=[4]) (by kernel_rfl) (by simp) ?_
     refine AllReadyH.cons rfl (fun K hK=>?_) AllReadyH.nil
     go_simp
     refine hK.out _ _ ?_ (fun hHeld=>?_)
     ·(refine hSb _ ?_; first | with_reducible exact hT0 | with_reducible exact hT9 | exact (((hT9.setCell ⟨B,1,none⟩ _ (.inl rfl)).setCell ⟨B,2,none⟩ _ (.inl rfl)).setCell ⟨B,3,none⟩ _ (.inl rfl)).setCell ⟨B,4,none⟩ _ (.inl rfl) | fail)
     clear hK K
     try simp only [Act.put,List.getElem_toArray,List.getElem_cons_succ,List.getElem_cons_zero,List.setIfInBounds_toArray,List.set_cons_zero,List.set_cons_succ]
     refine wpAnyH_ready (rs:=[7]) (by kernel_rfl) (by simp) ?_
     refine AllReadyH.cons rfl (fun K hK=>?_) AllReadyH.nil
     go_simp
     refine (callsIn_wide.1 (most_in 0 ⟨s1,b1,m1,k1⟩ ⟨usi,uby,umv,ubk⟩ _)).mono ?_
     rintro e w9 ⟨he,hb9⟩
     rw [hmc] at he
     dsimp only [Ct.cs,iZ] at he
     subst he
     have hT9:Btw (fun j=>j=B) w8 w9:=hT0.below hb9
     have h9B:=(hb9.block B hB8l).trans h8Bd
     have j1:=cell_of h9B 1 _ rfl
     have j2:=cell_of h9B 2 _ rfl
     have j3:=cell_of h9B 3 _ rfl
     have j4:=cell_of h9B 4 _ rfl
     have l1:=froz_of h9B 1
     have l2:=froz_of h9B 2
     have l3:=froz_of h9B 3
     have l4:=froz_of h9B 4
     try dsimp only
     refine hK.out _ _ ?_ (fun hHeld=>?_)
     ·(refine hSb _ ?_; first | with_reducible exact hT0 | with_reducible exact hT9 | exact (((hT9.setCell ⟨B,1,none⟩ _ (.inl rfl)).setCell ⟨B,2,none⟩ _ (.inl rfl)).setCell ⟨B,3,none⟩ _ (.inl rfl)).setCell ⟨B,4,none⟩ _ (.inl rfl) | fail)
     clear hK K
     try simp only [Act.put,List.getElem_toArray,List.getElem_cons_succ,List.getElem_cons_zero,List.setIfInBounds_toArray,List.set_cons_zero,List.set_cons_succ]
     refine wpAnyH_take (i:=8) (v:=?_) rfl (by kernel_rfl) (by kernel_rfl) (by kernel_rfl) (fun _ _ _ h=>h) (Or.inl ⟨by kernel_rfl,?_⟩) (by assumption) ?_
     rotate_left
     ·first | ((intro w hSw; (try dsimp only at hSw); go_simp); done) | ((intro w hSw; (try dsimp only at hSw); go_simp); with_reducible rfl)
     simp only [Act.put,List.getElem_toArray,List.getElem_cons_succ,List.getElem_cons_zero,List.setIfInBounds_toArray,List.set_cons_zero,List.set_cons_succ]
     refine wpAnyH_take (i:=9) (v:=?_) rfl (by kernel_rfl) (by kernel_rfl) (by kernel_rfl) (fun _ _ _ h=>h) (Or.inl ⟨by kernel_rfl,?_⟩) (by assumption) ?_
     rotate_left
     ·first | ((intro w hSw; (try dsimp only at hSw); go_simp); done) | ((intro w hSw; (try dsimp only at hSw); go_simp); with_reducible rfl)
     simp only [Act.put,List.getElem_toArray,List.getElem_cons_succ,List.getElem_cons_zero,List.setIfInBounds_toArray,List.set_cons_zero,List.set_cons_succ]
     refine wpAnyH_ready (rs:=[10]) (by kernel_rfl) (by simp) ?_
     refine AllReadyH.cons rfl (fun K hK=>?_) AllReadyH.nil
     go_simp
     refine hK.out _ _ ?_ (fun hHeld=>?_)
     ·(refine hSb _ ?_; first | with_reducible exact hT0 | with_reducible exact hT9 | exact (((hT9.setCell ⟨B,1,none⟩ _ (.inl rfl)).setCell ⟨B,2,none⟩ _ (.inl rfl)).setCell ⟨B,3,none⟩ _ (.inl rfl)).setCell ⟨B,4,none⟩ _ (.inl rfl) | fail)
     clear hK K
     try simp only [Act.put,List.getElem_toArray,List.getElem_cons_succ,List.getElem_cons_zero,List.setIfInBounds_toArray,List.set_cons_zero,List.set_cons_succ]
     refine wpAnyH_done (by kernel_rfl) ?_ _
     have hTe:Btw (fun j=>j=B) w8 ((((w9.setCell ⟨B,1,none⟩ (.int .i64 x1)).setCell ⟨B,2,none⟩ (.int .i64 x2)).setCell ⟨B,3,none⟩ (.int .i64 x3)).setCell ⟨B,4,none⟩ (.bool x4)):=(((hT9.setCell ⟨B,1,none⟩ _ (.inl rfl)).setCell ⟨B,2,none⟩ _ (.inl rfl)).setCell ⟨B,3,none⟩ _ (.inl rfl)).setCell ⟨B,4,none⟩ _ (.inl rfl)
     have hxe:=set_at (set_at (set_at (set_at h9B 1 (.int .i64 x1)) 2 (.int .i64 x2)) 3 (.int .i64 x3)) 4 (.bool x4)
     simp only [List.setIfInBounds_toArray,List.set_cons_zero,List.set_cons_succ] at hxe
     gi_wp2
     refine ⟨⟨k+1,rfl,by omega,?_⟩,by simp [intOf]; omega⟩
     rw [hlk]
     exact ⟨hbt7.trans (hTe.mono fun j hj=>.inl hj),hxe,(hTe.block (w.heap.size+1) (by omega) (by omega)).trans h84⟩
   ·have hgb:(x == 1)=false:=by simpa using hx1
    gi_wp2
    refine ⟨⟨k+1,rfl,by omega,?_⟩,by simp [intOf]; omega⟩
    have e2:lookTo L c s (k+1)=(l,⟨s1,b1,m1,k1⟩):=by
     rw [← hlc]
     show (if s.st.getD k 0=1 then _ else _)=_
     rw [if_neg (by rw [hgx]; exact hx1)]
    rw [e2]
    exact ⟨hbt,hxB,hx4⟩
  ·obtain rfl:k=s.st.length:=by omega
   have hlI:¬ ((s.st.length:Nat) : Int) < (s.st.length:Int):=by omega
   have eB0:=cell_of hxB 0 _ rfl
   have fB0:=froz_of hxB 0
   gi_wp2
   have hxe:=set_at hxB 0 (.map (some (w.heap.size+1)))
   simp only [List.setIfInBounds_toArray,List.set_cons_zero] at hxe
   refine bodyPost_end (results_none rfl _ _ _) rfl ⟨rfl,(Btw.low hBw hbt (Nat.le_succ _)).setCell _ _ (.inl rfl),w.heap.size+1,Nat.le_succ _,?_,?_⟩
   ·exact hxe
   ·exact set_off hx4 _ _ (by dsimp only; omega)
end Go.Proofs.Ytimhpaijbbegaaa
namespace Go.Proofs.Ytimhpaijbbegaaa
open Go.RowKit
set_option linter.unusedVariables false
set_option linter.unusedSimpArgs false
theorem infoI:(Try.prog.info? 3).map (fun i=>(i.zero,i.size,i.bytes))=some (some (.int .i64 0),1,8):=by kernel_rfl
theorem infoIs:(Try.prog.info? 35).map (fun i=>(i.zero,i.size,i.bytes))=some (some (.slice none 0 0),1,24):=by kernel_rfl
theorem add_mk (b off j:Nat) : (⟨b,off,none⟩ : Addr).add j=⟨b,off+j,none⟩:=by unfold Addr.add; split <;> simp_all
theorem app_slm {P:Program} {W:World} {base n':Nat} (t ty e:TypeId) {i:TypeInfo} {z:Value} {size bytes:Nat} (ht:P.underlying t=some (.slice e)) (hi:P.info? e=some i) (hz:i.zero=some z) (hsize:i.size=size) (hby:i.bytes=bytes) (hzs:z.cells.size=size) (hsz:0 < size) {v u:Value} {n m:Nat} {xs ys:List Value}
  (hr:W.ownsRow base e size v n xs) (hu:SlM size n' W u m ys) (h1:∀ u ∈ ys,u.oneCell'=true) (h63:n+m≤maxLen) (hb:(n+m) * bytes≤140737488355328) (hbase:base≤W.heap.size) :
  ∃ v' w',(Builtin.append_ #[t,t] ty #[v,u]).run P W=.ok v' w'∧w'.ownsRow base e size v' (n+m) (xs++ys)∧W.grownBy w' v.ownBlock:=by
 obtain ⟨hl,⟨h0,a,c,rfl⟩ | ⟨b,off,c,rfl,_,hc⟩⟩:=hu
 ·subst h0
  have hy:ys=[]:=List.eq_nil_of_length_eq_zero (by rw [hl]; simp)
  subst hy
  cases a with
  | none =>
   obtain ⟨a,c',hnc,rfl⟩ : ∃ a c,n≤c∧v=.slice a n c:=by
    rcases hr.2 with ⟨rfl,rfl⟩ | ⟨g,cap,cur,rfl,_,_,h,_⟩
    ·exact ⟨_,_,Nat.le_refl _,rfl⟩
    ·exact ⟨_,_,h,rfl⟩
   exact ⟨_,_,run_append_nothing W t t ty e i ht hi a n c' hnc _ (Src.ofNil _ ht c),by simpa using hr,⟨rfl,rfl,rfl,Nat.le_refl _,fun _ _ _=>rfl⟩⟩
  | some a =>
   obtain ⟨v',w',r1,r2,r3,_⟩:=run_append_own (P:=P) W base t ty e i z size bytes ht hi hz hsize hby hzs hsz v n xs hr a 0 c [] hl (fun j u h=>by simp at h) h1 h63 hb hbase
   exact ⟨v',w',r1,r2,r3⟩
 ·obtain ⟨v',w',r1,r2,r3,_⟩:=run_append_own (P:=P) W base t ty e i z size bytes ht hi hz hsize hby hzs hsz v n xs hr ⟨b,off,none⟩ m c ys hl (fun j u h=>by
   rw [add_mk]
   have hj:=(List.getElem?_eq_some_iff.1 h).1
   rw [hc j (by omega),h]) h1 h63 hb hbase
  exact ⟨v',w',r1,r2,r3⟩
theorem iV_one (l:List Int) : ∀ u ∈ iV l,u.oneCell'=true:=by
 intro u h
 obtain ⟨n,_,rfl⟩:=List.mem_map.1 h
 rfl
theorem own_one' {w:World} {n:Nat} {e:TypeId} {sz k:Nat} {v:Value} {xs:List Value} (h:w.ownsRow n e sz v k xs) : v.oneCell'=true:=by
 obtain ⟨a,c,rfl⟩:=own_val h
 rfl
def RwO (base:Nat) (W:World) (v:Value) (rs:List (List Int)) : Prop :=
 ∃ vs:List Value,W.ownsRow base 35 1 v rs.length vs∧∀ (k:Nat) (hk:k < rs.length),∃ u,vs[k]? = some u∧W.ownsRow base 3 1 u rs[k].length (iV rs[k])
theorem RwO.nil (base:Nat) (W:World) : RwO base W (.slice none 0 0) []:=⟨[],World.ownsRow_nil _ _ _ _,fun k hk=>absurd hk (Nat.not_lt_zero _)⟩
theorem own_ne {w:World} {n n' k k' sz sz':Nat} {e e':TypeId} {v v':Value} {xs xs':List Value} (h:w.ownsRow n e sz v k xs) (h':w.ownsRow n' e' sz' v' k' xs') (he:e ≠ e') : v.ownBlock=none∨v.ownBlock ≠ v'.ownBlock:=by
 rcases h.2 with ⟨rfl,_⟩ | ⟨g,cap,cur,rfl,_,hg,_⟩
 ·exact .inl rfl
 ·refine .inr fun e0=>?_
  rcases h'.2 with ⟨rfl,_⟩ | ⟨g',cap',cur',rfl,_,hg',_⟩
  ·simp [Value.ownBlock] at e0
  ·have:g=g':=by simpa [Value.ownBlock] using e0
   subst this
   rw [hg] at hg'
   cases hg'
   exact he rfl
theorem own_slm {w:World} {n n':Nat} {e:TypeId} {sz k:Nat} {v:Value} {xs:List Value} (h:w.ownsRow n e sz v k xs) (hn:w.heap.size≤n') : SlM sz n' w v k xs:=by
 refine ⟨h.1,?_⟩
 have h0:=h
 rcases h.2 with ⟨rfl,rfl⟩ | ⟨g,cap,cur,rfl,_,hg,_⟩
 ·exact .inl ⟨rfl,_,_,rfl⟩
 ·have hc:=h0.cells (g:=g)
  refine .inr ⟨g,0,cap,rfl,Nat.lt_of_lt_of_le (Array.getElem?_eq_some_iff.1 hg).1 hn,fun j hj=>?_⟩
  have hj':j < xs.length:=by rw [h.1]; exact hj
  have:=hc rfl j xs[j] (List.getElem?_eq_getElem hj')
  rw [add_mk] at this
  rw [this,List.getElem?_eq_getElem hj']
theorem RwO.rwM {w:World} {n n':Nat} {v:Value} {rs:List (List Int)} (h:RwO n w v rs) (hn:w.heap.size≤n') : RwM n' w v rs:=by
 obtain ⟨vs,h1,h2⟩:=h
 refine ⟨vs,by have:=h1.1; omega,own_slm h1 hn,fun k hk=>?_⟩
 obtain ⟨u,e,hu⟩:=h2 k hk
 exact ⟨u,e,own_slm hu hn⟩
theorem own_btw {X:Nat→Prop} {w w':World} {n:Nat} {e:TypeId} {sz k:Nat} {v:Value} {xs:List Value} (h:w.ownsRow n e sz v k xs) (hb:Btw X w w') (hX:∀ j,X j→j < n) : w'.ownsRow n e sz v k xs:=by
 obtain ⟨h1,h2 | ⟨g,cap,cur,a,b,r,q⟩⟩:=h
 ·exact ⟨h1,.inl h2⟩
 ·exact ⟨h1,.inr ⟨g,cap,cur,a,b,(hb.block g (Array.getElem?_eq_some_iff.1 r).1 (fun e=>by have:=hX _ e; omega)).trans r,q⟩⟩
theorem RwO.btw {X:Nat→Prop} {w w':World} {n:Nat} {v:Value} {rs:List (List Int)} (h:RwO n w v rs) (hb:Btw X w w') (hX:∀ j,X j→j < n) : RwO n w' v rs:=by
 obtain ⟨vs,h1,h2⟩:=h
 exact ⟨vs,own_btw h1 hb hX,fun k hk=>let ⟨u,e,hu⟩:=h2 k hk; ⟨u,e,own_btw hu hb hX⟩⟩
theorem RwO.stay {w w':World} {n:Nat} {v:Value} {rs:List (List Int)} (h:RwO n w v rs) (hb:Below w.heap.size w w') : RwO n w' v rs:=by
 obtain ⟨vs,h1,h2⟩:=h
 exact ⟨vs,own_stay h1 hb,fun k hk=>let ⟨u,e,hu⟩:=h2 k hk; ⟨u,e,own_stay hu hb⟩⟩
theorem RwO.weak {w:World} {n n':Nat} {v:Value} {rs:List (List Int)} (h:RwO n w v rs) (hn:n'≤n) : RwO n' w v rs:=by
 obtain ⟨vs,h1,h2⟩:=h
 exact ⟨vs,own_weak h1 hn,fun k hk=>let ⟨u,e,hu⟩:=h2 k hk; ⟨u,e,own_weak hu hn⟩⟩
theorem RwO.snoc {w w':World} {n:Nat} {v v' u:Value} {rs:List (List Int)} {r:List Int} {vs:List Value} (h1:w.ownsRow n 35 1 v rs.length vs) (h2:∀ (k:Nat) (hk:k < rs.length),∃ u,vs[k]? = some u∧w.ownsRow n 3 1 u rs[k].length (iV rs[k])) (hu:w.ownsRow n 3 1 u r.length (iV r))
  (h3:w'.ownsRow n 35 1 v' (rs.length+1) (vs++[u])) (hg:w.grownBy w' v.ownBlock) : RwO n w' v' (rs++[r]):=by
 have hl:=h1.1
 refine ⟨vs++[u],by rw [List.length_append]; exact h3,fun k hk=>?_⟩
 by_cases hlt:k < rs.length
 ·obtain ⟨x,e,hx⟩:=h2 k hlt
  refine ⟨x,by rw [List.getElem?_append_left (by omega)]; exact e,?_⟩
  rw [List.getElem_append_left hlt]
  exact hx.kept hg (own_ne hx h1 (by decide))
 ·obtain rfl:k=rs.length:=by rw [List.length_append,List.length_singleton] at hk; omega
  refine ⟨u,by rw [List.getElem?_append_right (by omega)]; simp [hl],?_⟩
  rw [List.getElem_append_right (Nat.le_refl _)]
  simpa using hu.kept hg (own_ne hu h1 (by decide))
set_option maxRecDepth 4000 in
set_option maxHeartbeats 2000000 in
theorem ownRow_in (m:Nat) (v:Value) (l:List Int) (w:World) (hl:SlM 1 w.heap.size w v l.length (iV l)) (hn:l.length≤1000) : CallsIn Fence.wide m Try.prog 21 #[v] w fun e w'=>∃ u,e=.returned u∧w'.ownsRow w.heap.size 3 1 u l.length (iV l)∧Below w.heap.size w w':=by
 refine callsIn_of_wp Try.func21 rfl trivial ?_ rfl
 simp only [Try.ntmps21,List.size_toArray,List.length_cons,List.length_nil,Nat.reduceAdd,Nat.reduceSub,Array.replicate_succ,Array.replicate_zero,List.push_toArray,List.append_toArray,List.nil_append,List.cons_append]
 obtain ⟨i0,hi,hz0,hz1,hz2⟩:=info_parts infoI
 obtain ⟨a0,c0,rfl⟩:=hl.val
 have hr:=World.ownsRow_nil w w.heap.size 3 1
 obtain ⟨v',w1,q1,q2,q3⟩:=app_slm 35 35 3 Try.underlying35 hi hz0 hz1 hz2 rfl (by decide) hr hl (iV_one l) (by unfold maxLen; omega) (by omega) (Nat.le_refl _)
 gi_wp2_with (gi_at_builtin; refine wpListIn_append_run rfl _ _ _ rfl q1 ?_)
 refine bodyPost_ret (results_tmp rfl _ _ _) rfl ⟨_,rfl,?_,below_grown hr (Below.refl _ _) (Nat.le_refl _) q3⟩
 simpa using q2
set_option maxRecDepth 4000 in
set_option maxHeartbeats 2000000 in
theorem ownRows_in (m:Nat) (v:Value) (rs:List (List Int)) (w:World) (hl:RwM w.heap.size w v rs) (hn:rs.length≤20∧∀ r ∈ rs,r.length≤20) : CallsIn Fence.wide m Try.prog 22 #[v] w fun e w'=>∃ u,e=.returned u∧RwO w.heap.size w' u rs∧Below w.heap.size w w':=by
 refine callsIn_of_wp Try.func22 rfl trivial ?_ rfl
 simp only [Try.ntmps22,List.size_toArray,List.length_cons,List.length_nil,Nat.reduceAdd,Nat.reduceSub,Array.replicate_succ,Array.replicate_zero,List.push_toArray,List.append_toArray,List.nil_append,List.cons_append]
 obtain ⟨i0,hi,hz0,hz1,hz2⟩:=info_parts infoIs
 obtain ⟨a0,c0,rfl⟩:=hl.val
 gi_wp2
 gi_loopw [3,4] (fun v p wr=>∃ k:Nat,p=.int .i64 (k:Int)∧k≤rs.length∧RwO w.heap.size wr v (rs.take k)∧Below w.heap.size w wr) (fun _ p _=>rs.length - (intOf p).toNat)
 case atStart=>exact ⟨0,rfl,Nat.zero_le _,RwO.nil _ _,Below.refl _ _⟩
 case round =>
  obtain ⟨k,rfl,hk,hr,hB⟩:=hrel
  by_cases hlt:k < rs.length
  ·have hlI:(k:Int) < (rs.length:Int):=by omega
   obtain ⟨b,off,c,rv,hv,hb,hc,hrv⟩:=((hl.keep hB).get hlt)
   cases hv
   have hB1:w.heap.size≤wr.heap.size:=hB.size
   gi_wp2
   refine ⟨trivial,fun h=>by simp [Fence.wide] at h,(ownRow_in (m - 1) rv rs[k] wr (hrv.up hB1) (by have:=hn.2 _ (List.getElem_mem hlt); omega)).mono ?_⟩
   rintro e w3 ⟨u,rfl,hu,hb3⟩
   obtain ⟨a5,c5,rfl⟩:=own_val hu
   have hrt:(rs.take k).length=k:=by rw [List.length_take]; omega
   obtain ⟨vs,o1,o2⟩:=(hr.stay hb3).weak (Nat.le_refl w.heap.size)
   rw [hrt] at o1
   have hw3:w.heap.size≤w3.heap.size:=Nat.le_trans hB1 hb3.size
   have hul:SlM 1 (w3.heap.size+1) (w3.alloc (.cells #[.slice a5 rs[k].length c5] 35)) (.slice (some ⟨w3.heap.size,0,none⟩) 1 1) 1 [.slice a5 rs[k].length c5]:=⟨rfl,.inr ⟨_,0,1,rfl,Nat.lt_succ_self _,fun j hj=>by
    obtain rfl:j=0:=by omega
    exact cell_of (World.alloc_heap_new w3 _) 0 _ rfl⟩⟩
   have hals:(w3.alloc (.cells #[.slice a5 rs[k].length c5] 35)).heap.size=w3.heap.size+1:=by simp
   obtain ⟨v',w1,q1,q2,q3⟩:=app_slm 36 36 35 Try.underlying36 hi hz0 hz1 hz2 rfl (by decide) (o1.alloc (.cells #[.slice a5 rs[k].length c5] 35)) hul (by simpa using own_one' hu) (by unfold maxLen; omega) (by omega) (by omega)
   gi_wp2_with (gi_at_builtin; refine wpListIn_append_run rfl _ _ _ rfl q1 ?_)
   refine ⟨⟨k+1,rfl,by omega,?_,hB.trans ?_⟩,by simp [intOf]; omega⟩
   ·have e1:rs.take (k+1)=rs.take k++[rs[k]]:=by rw [List.take_add_one,List.getElem?_eq_getElem hlt]; rfl
    rw [e1]
    have q2':w1.ownsRow w.heap.size 35 1 v' ((rs.take k).length+1) (vs++[.slice a5 rs[k].length c5]):=by rw [hrt]; exact q2
    have o1':=o1
    rw [show k=(rs.take k).length from hrt.symm] at o1'
    exact RwO.snoc (w:=w3.alloc (.cells #[.slice a5 rs[k].length c5] 35)) (o1'.alloc _) (fun k hk=>let ⟨x,e,hx⟩:=o2 k hk; ⟨x,e,hx.alloc _⟩) ((own_weak hu hB1).alloc _) q2' q3
   ·exact ((hb3.mono hB1).alloc hw3 _).trans (below_grown (o1.alloc _) (Below.refl _ _) (by omega) q3)
  ·obtain rfl:k=rs.length:=by omega
   have hlI:¬ ((rs.length:Nat) : Int) < (rs.length:Int):=by omega
   gi_wp2
   refine bodyPost_ret (results_tmp rfl _ _ _) rfl ⟨_,rfl,?_,hB⟩
   rw [List.take_length] at hr
   exact hr
end Go.Proofs.Ytimhpaijbbegaaa
