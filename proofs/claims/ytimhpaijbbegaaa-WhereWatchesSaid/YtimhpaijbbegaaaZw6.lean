/- Part of a proof: see the last text. -/
import Derived.Test.YtimhpaijbbegaaaZw5
namespace Go.Proofs.Ytimhpaijbbegaaa
open Go.RowKit
set_option linter.unusedVariables false
set_option linter.unusedSimpArgs false
theorem below_btw {n:Nat} {X:Nat→Prop} {a b c:World} (h:Below n a b) (k:Btw X b c) (hX:∀ j,X j→n≤j) (hn:n≤b.heap.size) : Below n a c :=
 ⟨k.os.trans h.os,k.tape.trans h.tape,k.output.trans h.output,Nat.le_trans h.size k.size,fun j hj=>(k.block j (Nat.lt_of_lt_of_le hj hn) (fun e=>by have:=hX j e; omega)).trans (h.block j hj)⟩
set_option maxRecDepth 8000 in
set_option maxHeartbeats 8000000 in
theorem law_in (m:Nat) (v:Value) (ss:List Sv) (k0 k1 k2 k3 k4 k5:Int) (w:World) (hWk:∀ (m:Nat) (w:World),CallsIn Fence.wide m Try.prog 5 #[] w fun e w'=>e=.returned (.bool true)∧Below w.heap.size w w')
  (hS:SlM 6 w.heap.size w v ss.length (svC ss)) (hM:∀ x ∈ ss,SnM w.heap.size w x.v0 x.v1 x.v2 x.v3 x.v4 x.v5 x.s) :
  CallsIn Fence.wide m Try.prog 3 #[v,.agg #[iZ k0,iZ k1,iZ k2,iZ k3,iZ k4,iZ k5]] w fun e w'=>e=.returned (.bool true)∧Below w.heap.size w w':=by
 refine callsIn_of_wp Try.func3 rfl trivial ?_ rfl
 simp only [Try.ntmps3,List.size_toArray,List.length_cons,List.length_nil,Nat.reduceAdd,Nat.reduceSub,Array.replicate_succ,Array.replicate_zero,List.push_toArray,List.append_toArray,List.nil_append,List.cons_append]
 obtain ⟨a0,c0,rfl⟩:=hS.val
 obtain ⟨W1,hW1⟩ : ∃ W1,w.alloc (.cells #[iZ k0,iZ k1,iZ k2,iZ k3,iZ k4,iZ k5] 24)=W1:=⟨_,rfl⟩
 have hB1:Below w.heap.size w W1:=by rw [← hW1]; exact (Below.refl _ w).alloc (Nat.le_refl _) _
 dsimp only [iZ] at hW1 ⊢
 by_cases hl:ss.length≤20
 rotate_left
 ·have hlI:(20:Int) < (ss.length:Int):=by omega
  gi_wp2
  refine ⟨trivial,fun h=>by simp [Fence.wide] at h,(hWk _ _).mono ?_⟩
  rintro e w2 ⟨rfl,hb⟩
  gi_wp2
  exact bodyPost_ret (results_tmp rfl _ _ _) rfl ⟨rfl,hB1.trans (hb.mono hB1.size)⟩
 have hlI:¬ (20:Int) < (ss.length:Int):=by omega
 obtain ⟨W3,hW3⟩ : ∃ W3,(W1.alloc (.cells #[.map none,.int .i64 0,.int .i64 0,.int .i64 0,.bool false] 30)).alloc (.cells #[.slice none 0 0,.int .i64 0,.int .i64 0,.int .i64 0,.bool false] 33)=W3:=⟨_,rfl⟩
 have hz1:W1.heap.size=w.heap.size+1:=by rw [← hW1]; simp
 have hI0:LawI w W3 k0 k1 k2 k3 k4 k5 (.map none) (.slice none 0 0) ⟨0,0,0,false⟩ []:=by
  refine ⟨?_,?_,?_,?_,.inl ⟨rfl,rfl⟩,⟨rfl,.inl ⟨rfl,_,_,rfl⟩⟩⟩
  ·rw [← hW3,← hW1]; exact below_al3 _ _ _ _
  ·rw [← hW3,← hW1]; exact heap_keep _ _ (heap_keep _ _ (World.alloc_heap_new _ _))
  ·rw [← hW3,← hW1]; exact heap_al3 _ _ _ _
  ·rw [← hW3,← hW1]; exact heap_nw3 _ _ _ _
 gi_wp2
 gi_loopw [7] (fun p wr=>∃ (i:Nat) (vm vr:Value) (c:Ct) (L:List Wt),p=.int .i64 (i:Int)∧i≤ss.length∧LawI w wr k0 k1 k2 k3 k4 k5 vm vr c L∧OkL L i) (fun p _=>ss.length - (intOf p).toNat)
 case atStart=>exact ⟨0,_,_,_,_,rfl,Nat.zero_le _,hI0,OkL.nil⟩
 case round =>
  obtain ⟨i,vm,vr,c,L,rfl,hi,hI,hO⟩:=hrel
  by_cases hlt:i < ss.length
  ·have hlI2:(i:Int) < (ss.length:Int):=by omega
   obtain ⟨x,hx⟩ : ∃ x,ss[i]=x:=⟨_,rfl⟩
   have hMx:=hM _ (List.getElem_mem hlt)
   rcases hS.2 with ⟨e,_⟩ | ⟨b,off,c1,hv,hb,hc⟩
   ·omega
   cases hv
   have hgt:∀ (W:World),Below w.heap.size w W→∀ (j:Nat) (u:Value),j < 6→x.cs[j]? = some u→W.cell? ⟨b,off+i * 6+j,none⟩=some u:=by
    intro W hW j u hj hu
    rw [hW.cell (p:=⟨b,off+i * 6+j,none⟩) hb]
    rw [Nat.add_assoc,hc _ (by omega),svC_get ss i j hlt hj,hx,hu]
   rw [hx] at hMx
   obtain ⟨x0,x1,x2,x3,x4,x5,s⟩:=x
   dsimp only at hMx
   have d0:=hgt _ hI.low 0 _ (by decide) rfl
   have d1:=hgt _ hI.low 1 _ (by decide) rfl
   have d2:=hgt _ hI.low 2 _ (by decide) rfl
   have d3:=hgt _ hI.low 3 _ (by decide) rfl
   have d4:=hgt _ hI.low 4 _ (by decide) rfl
   have d5:=hgt _ hI.low 5 _ (by decide) rfl
   dsimp only at d0 d1 d2 d3 d4 d5
   rw [Nat.add_zero] at d0
   gi_wp2
   refine ⟨trivial,fun h=>by simp [Fence.wide] at h,?_⟩
   have hMr:=(hMx.keep hI.low).up hI.low.size
   refine (few_in (m - 1) _ _ _ _ _ _ s wr hMr).mono ?_
   rintro e w1 ⟨hfew,hb1⟩
   have hI1:=hI.keep hb1
   rcases hfew with ⟨rfl,hf⟩ | ⟨rfl,hf⟩
   rotate_left
   ·gi_wp2
    refine ⟨trivial,fun h=>by simp [Fence.wide] at h,(hWk _ _).mono ?_⟩
    rintro e w2 ⟨rfl,hb⟩
    gi_wp2
    exact bodyPost_ret (results_tmp rfl _ _ _) rfl ⟨rfl,(hI1.keep hb).low⟩
   have e0:=hgt _ hI1.low 0 _ (by decide) rfl
   have e1:=hgt _ hI1.low 1 _ (by decide) rfl
   have e2:=hgt _ hI1.low 2 _ (by decide) rfl
   have e3:=hgt _ hI1.low 3 _ (by decide) rfl
   have e4:=hgt _ hI1.low 4 _ (by decide) rfl
   have e5:=hgt _ hI1.low 5 _ (by decide) rfl
   dsimp only at e0 e1 e2 e3 e4 e5
   rw [Nat.add_zero] at e0
   clear d0 d1 d2 d3 d4 d5
   gi_wp2
   refine ⟨trivial,fun h=>by simp [Fence.wide] at h,?_⟩
   refine (snap_in (m - 1) _ _ _ _ _ _ s hf w1 ((hMx.keep hI1.low).up hI1.low.size)).mono ?_
   rintro e w2 ⟨u0,u1,u2,u3,u4,u5,rfl,hO2,hb2⟩
   have hI2:=hI1.keep hb2
   obtain ⟨p0,q0,rfl⟩:=own_val hO2.st
   obtain ⟨p1,q1,rfl⟩:=own_val hO2.nx
   obtain ⟨p2,q2,rfl⟩:=hO2.ri.val
   obtain ⟨p3,q3,rfl⟩:=own_val hO2.gl
   obtain ⟨p4,q4,rfl⟩:=hO2.ha.val
   obtain ⟨p5,q5,rfl⟩:=own_val hO2.lv
   obtain ⟨w3,hw3⟩ : ∃ w3,w2.alloc (.cells #[.slice p0 s.st.length q0,.slice p1 s.nx.length q1,.slice p2 s.ri.length q2,.slice p3 s.gl.length q3,.slice p4 s.ha.length q4,.slice p5 s.lv.length q5] 39)=w3:=⟨_,rfl⟩
   have hb3:Below w2.heap.size w2 w3:=by rw [← hw3]; exact (Below.refl _ w2).alloc (Nat.le_refl _) _
   have hI3:=hI2.keep hb3
   have h8:w3.heap[w2.heap.size]? = some (Obj.cells #[.slice p0 s.st.length q0,.slice p1 s.nx.length q1,.slice p2 s.ri.length q2,.slice p3 s.gl.length q3,.slice p4 s.ha.length q4,.slice p5 s.lv.length q5] 39 (0,0)):=by rw [← hw3]; exact World.alloc_heap_new _ _
   have f0:=cell_of h8 0 _ rfl
   have f1:=cell_of h8 1 _ rfl
   have f2:=cell_of h8 2 _ rfl
   have f3:=cell_of h8 3 _ rfl
   have f4:=cell_of h8 4 _ rfl
   have f5:=cell_of h8 5 _ rfl
   have g0:=cell_of hI3.re 0 _ rfl
   have g1:=cell_of hI3.re 1 _ rfl
   have g2:=cell_of hI3.re 2 _ rfl
   have g3:=cell_of hI3.re 3 _ rfl
   have g4:=cell_of hI3.re 4 _ rfl
   dsimp only [iZ] at g1 g2 g3 g4
   clear e0 e1 e2 e3 e4 e5
   gi_wp2
   refine ⟨trivial,fun h=>by simp [Fence.wide] at h,?_⟩
   refine (look_in (m - 1) vr _ _ _ _ _ _ L c s hf (i:Int) (by omega) (by omega) hO.ok hO.len w3 hI3.rl ((hO2.stay hb3).snM (Nat.le_refl _))).mono ?_
   have hO':=hO.look c s hf
   obtain ⟨L',c',hlc⟩ : ∃ L' c',lookTo L c s s.st.length=(L',c'):=⟨_,_,rfl⟩
   rw [hlc] at hO' ⊢
   rintro e w4 ⟨ur,rfl,hur,hb4⟩
   obtain ⟨pr,qr,rfl⟩:=own_val hur
   have hI4:=hI3.keep hb4
   have h4:=hI4.re
   obtain ⟨cs',cb',cm',ck'⟩:=c'
   dsimp only [iZ] at hur ⊢
   have r0:=froz_of h4 0
   have r1:=froz_of h4 1
   have r2:=froz_of h4 2
   have r3:=froz_of h4 3
   have r4:=froz_of h4 4
   have e0:=cell_of h4 0 _ rfl
   have e1:=cell_of h4 1 _ rfl
   have e2:=cell_of h4 2 _ rfl
   have e3:=cell_of h4 3 _ rfl
   have e4:=cell_of h4 4 _ rfl
   dsimp only [iZ] at e1 e2 e3 e4
   have h85:=(hb4.block _ (Array.getElem?_eq_some_iff.1 h8).1).trans h8
   have hn8:w.heap.size+1+1 < w2.heap.size:=hI2.lt
   obtain ⟨w5,hw5⟩ : ∃ w5,(((((w4.setCell ⟨w.heap.size+1+1,0,none⟩ (.slice pr L'.length qr)).setCell ⟨w.heap.size+1+1,1,none⟩ (.int .i64 cs')).setCell ⟨w.heap.size+1+1,2,none⟩ (.int .i64 cb')).setCell ⟨w.heap.size+1+1,3,none⟩ (.int .i64 cm')).setCell ⟨w.heap.size+1+1,4,none⟩ (.bool ck'))=w5:=⟨_,rfl⟩
   have hb5:Btw (fun j=>j=w.heap.size+1+1) w4 w5:=by rw [← hw5]; exact btw_five (X:=fun j=>j=w.heap.size+1+1) (.refl _ _) rfl _ _ _ _ _
   have h5:=set_five h4 (.slice pr L'.length qr) (.int .i64 cs') (.int .i64 cb') (.int .i64 cm') (.bool ck')
   rw [hw5] at h5
   have h85:=(hb5.block _ (Array.getElem?_eq_some_iff.1 h85).1 (by omega)).trans h85
   have l0:=cell_of h85 0 _ rfl
   have l1:=cell_of h85 1 _ rfl
   have l2:=cell_of h85 2 _ rfl
   have l3:=cell_of h85 3 _ rfl
   have l4:=cell_of h85 4 _ rfl
   have l5:=cell_of h85 5 _ rfl
   obtain ⟨w6,hw6⟩ : ∃ w6,w5.alloc (.cells #[.slice p0 s.st.length q0,.slice p1 s.nx.length q1,.slice p2 s.ri.length q2,.slice p3 s.gl.length q3,.slice p4 s.ha.length q4,.slice p5 s.lv.length q5] 38)=w6:=⟨_,rfl⟩
   have hb6:Below w5.heap.size w5 w6:=by rw [← hw6]; exact (Below.refl _ w5).alloc (Nat.le_refl _) _
   have h9:w6.heap[w5.heap.size]? = some (Obj.cells #[.slice p0 s.st.length q0,.slice p1 s.nx.length q1,.slice p2 s.ri.length q2,.slice p3 s.gl.length q3,.slice p4 s.ha.length q4,.slice p5 s.lv.length q5] 38 (0,0)):=by rw [← hw6]; exact World.alloc_heap_new _ _
   have m0:=cell_of h9 0 _ rfl
   have m1:=cell_of h9 1 _ rfl
   have m2:=cell_of h9 2 _ rfl
   have m3:=cell_of h9 3 _ rfl
   have m4:=cell_of h9 4 _ rfl
   have m5:=cell_of h9 5 _ rfl
   clear f0 f1 f2 f3 f4 f5 g0 g1 g2 g3 g4
   have hlt4:=hI4.lt
   have hlt5:w4.heap.size≤w5.heap.size:=hb5.size
   have hlt1:=hI1.lt
   have hYn:∀ j,(j=w.heap.size+1∨j=w.heap.size+1+1)→j < w1.heap.size:=fun j h=>by omega
   have hY24:Btw (fun j=>j=w.heap.size+1∨j=w.heap.size+1+1) w2 w4:=.of (hb3.trans (hb4.mono hb3.size))
   have hY26:Btw (fun j=>j=w.heap.size+1∨j=w.heap.size+1+1) w2 w6:=(hY24.trans (hb5.mono fun j h=>.inr h)).below hb6
   have h6a:w6.heap[w.heap.size+1]? = _:=(hb6.block _ (by omega)).trans ((hb5.block _ (by omega) (by omega)).trans hI4.wa)
   have hmp6:MpAt w6.heap.size w6 vm L:=(((hI4.mp.btw h4 hb5).up hlt5).keep hb6).up hb6.size
   gi_wp2
   refine ⟨trivial,fun h=>by simp [Fence.wide] at h,?_⟩
   refine (wLook_in (m - 1) (w.heap.size+1) vm _ _ _ _ _ _ L c s hf (i:Int) (by omega) (by omega) hO.ok hO.ap hO.wf w6 h6a hmp6 ((hO2.btw hY26 hYn).snX (fun j h=>hYn j (.inl h)))).mono ?_
   rw [hlc]
   dsimp only [iZ]
   rintro e w7 ⟨rfl,hb7,b4,hb4s,h7a,h7m⟩
   have hlt6:w5.heap.size < w6.heap.size:=(Array.getElem?_eq_some_iff.1 h9).1
   have h97:=(hb7.block _ hlt6 (by omega)).trans h9
   have f0:=cell_of h97 0 _ rfl
   have f1:=cell_of h97 1 _ rfl
   have f2:=cell_of h97 2 _ rfl
   have f3:=cell_of h97 3 _ rfl
   have f4:=cell_of h97 4 _ rfl
   have f5:=cell_of h97 5 _ rfl
   clear l0 l1 l2 l3 l4 l5 m0 m1 m2 m3 m4 m5
   gi_wp2
   refine ⟨trivial,fun h=>by simp [Fence.wide] at h,?_⟩
   have hY27:Btw (fun j=>j=w.heap.size+1∨j=w.heap.size+1+1) w2 w7:=hY26.trans (hb7.mono fun j h=>.inl h)
   refine (spoil_in (m - 1) (fun j=>w1.heap.size≤j∧j < w2.heap.size) _ _ _ _ _ _ s w7 (snS_btw hO2 hf hY27 hYn)).mono ?_
   rintro e w8 ⟨rfl,hb8⟩
   have hlt7:w6.heap.size≤w7.heap.size:=hb7.size
   have hlt2:=hY26.size
   have hlt3:w2.heap.size≤w3.heap.size:=hb3.size
   have hlt34:w3.heap.size≤w4.heap.size:=hb4.size
   have hI8:LawI w w8 k0 k1 k2 k3 k4 k5 (.map (some b4)) (.slice pr L'.length qr) ⟨cs',cb',cm',ck'⟩ L':=by
    have hX:∀ j,j < w1.heap.size→¬ (w1.heap.size≤j∧j < w2.heap.size):=fun j h=>by omega
    have hbY:Btw (fun j=>j=w.heap.size+1∨j=w.heap.size+1+1∨(w1.heap.size≤j∧j < w2.heap.size)) w4 w8 :=
     (((hb5.mono fun j h=>.inr (.inl h)).below hb6).trans (hb7.mono fun j h=>.inl h)).trans (hb8.mono fun j h=>.inr (.inr h))
    refine ⟨below_btw hI4.low hbY (fun j h=>by omega) (by omega),(hbY.block _ (by omega) (by omega)).trans hI4.cf,(hb8.block _ (by omega) (hX _ (by omega))).trans h7a,?_,?_,own_slm (own_btw hur hbY (fun j h=>by omega)) (Nat.le_refl _)⟩
    ·exact (hb8.block _ (by omega) (hX _ (by omega))).trans ((hb7.block _ (by omega) (by omega)).trans ((hb6.block _ (by omega)).trans h5))
    ·have hb4l:=(Array.getElem?_eq_some_iff.1 h7m).1
     have h8s:=hb8.size
     exact .inr ⟨b4,rfl,by omega,(hb8.block b4 hb4l (by omega)).trans h7m⟩
   gi_wp2
   gi_loopw [10] (fun p wr=>∃ g:Int,p=.int .i64 g∧-2≤g∧g≤22∧LawI w wr k0 k1 k2 k3 k4 k5 (.map (some b4)) (.slice pr L'.length qr) ⟨cs',cb',cm',ck'⟩ L') (fun p _=>(22 - intOf p).toNat)
   case atStart=>exact ⟨-2,rfl,by omega,by omega,hI8⟩
   case round =>
    obtain ⟨g,rfl,hg1,hg2,hI9⟩:=hrel
    by_cases hg:g < 22
    ·have z0:=cell_of hI9.re 0 _ rfl
     have z1:=cell_of hI9.re 1 _ rfl
     have z2:=cell_of hI9.re 2 _ rfl
     have z3:=cell_of hI9.re 3 _ rfl
     have z4:=cell_of hI9.re 4 _ rfl
     dsimp only [iZ] at z1 z2 z3 z4
     gi_wp2
     refine ⟨trivial,fun h=>by simp [Fence.wide] at h,?_⟩
     refine (is_in (m - 1) (w.heap.size+1) _ _ ⟨cs',cb',cm',ck'⟩ L' g wr hI9.wa hI9.mp hO'.ap hO'.wf (by unfold wfG; omega) hI9.rl hO'.len).mono ?_
     rintro e wa ⟨rfl,hba⟩
     gi_wp2
     refine ⟨⟨g+1,rfl,by omega,by omega,hI9.keep hba⟩,by simp [intOf]; omega⟩
    ·obtain rfl:g=22:=by omega
     gi_wp2
     refine ⟨trivial,fun h=>by simp [Fence.wide] at h,?_⟩
     refine (wMost_in (m - 1) (w.heap.size+1) _ ⟨cs',cb',cm',ck'⟩ wr hI9.wa).mono ?_
     rintro e wa ⟨rfl,hba⟩
     have hIa:=hI9.keep hba
     have z1:=cell_of hIa.re 1 _ rfl
     have z2:=cell_of hIa.re 2 _ rfl
     have z3:=cell_of hIa.re 3 _ rfl
     have z4:=cell_of hIa.re 4 _ rfl
     dsimp only [iZ] at z1 z2 z3 z4 ⊢
     have y0:=cell_of hIa.cf 0 _ rfl
     have y1:=cell_of hIa.cf 1 _ rfl
     have y2:=cell_of hIa.cf 2 _ rfl
     have y3:=cell_of hIa.cf 3 _ rfl
     have y4:=cell_of hIa.cf 4 _ rfl
     have y5:=cell_of hIa.cf 5 _ rfl
     dsimp only [iZ] at y0 y1 y2 y3 y4 y5
     have hBd:Below wa.heap.size wa wa.drew:=(Below.refl _ _).drew
     have hRl:=hIa.lt
     gi_wp2
     refine wpIn_wide.2 ?_
     by_cases h1:(0:Int)≤k2
     rotate_left
     ·skip
      refine wp_region_held_drew (S:=(fun w'=>w'.cell? ⟨w.heap.size,0,none⟩=some (.int .i64 k0)∧w'.cell? ⟨w.heap.size,1,none⟩=some (.int .i64 k1)∧w'.cell? ⟨w.heap.size,2,none⟩=some (.int .i64 k2)∧w'.cell? ⟨w.heap.size,3,none⟩=some (.int .i64 k3)∧w'.cell? ⟨w.heap.size,4,none⟩=some (.int .i64 k4)∧w'.cell? ⟨w.heap.size,5,none⟩=some (.int .i64 k5)∧w'.cell? ⟨w.heap.size+1+1,2,none⟩=some (.int .i64 cb')∧w'.cell? ⟨w.heap.size+1+1,3,none⟩=some (.int .i64 cm')∧w'.cell? ⟨w.heap.size+1+1,4,none⟩=some (.bool ck')∧Below wa.heap.size wa w')) (by kernel_rfl) ?_ (fun hHeld=>?_)
      ·exact ⟨y0,y1,y2,y3,y4,y5,z2,z3,z4,hBd⟩
      refine wpAnyH_take (i:=0) (v:=?va0) rfl (by kernel_rfl) (by kernel_rfl) (by kernel_rfl) (fun _ _ _ h=>h) (Or.inl ⟨by kernel_rfl,?ya0⟩) (by assumption) ?ra0
      case ya0=>first | ((intro w hSw; (try dsimp only at hSw); go_simp); done) | ((intro w hSw; (try dsimp only at hSw); go_simp); with_reducible rfl)
      simp only [Act.put,List.getElem_toArray,List.getElem_cons_succ,List.getElem_cons_zero,List.setIfInBounds_toArray,List.set_cons_zero,List.set_cons_succ]
      refine wpAnyH_take (i:=1) (v:=?va1) rfl (by kernel_rfl) (by kernel_rfl) (by kernel_rfl) (fun _ _ _ h=>h) (Or.inl ⟨by kernel_rfl,?ya1⟩) (by assumption) ?ra1
      case ya1=>first | ((intro w hSw; (try dsimp only at hSw); go_simp); done) | ((intro w hSw; (try dsimp only at hSw); go_simp); with_reducible rfl)
      simp only [Act.put,List.getElem_toArray,List.getElem_cons_succ,List.getElem_cons_zero,List.setIfInBounds_toArray,List.set_cons_zero,List.set_cons_succ]
      refine wpAnyH_take (i:=2) (v:=?va2) rfl (by kernel_rfl) (by kernel_rfl) (by kernel_rfl) (fun _ _ _ h=>h) (Or.inl ⟨by kernel_rfl,?ya2⟩) (by assumption) ?ra2
      case ya2=>first | ((intro w hSw; (try dsimp only at hSw); go_simp); done) | ((intro w hSw; (try dsimp only at hSw); go_simp); with_reducible rfl)
      simp only [Act.put,List.getElem_toArray,List.getElem_cons_succ,List.getElem_cons_zero,List.setIfInBounds_toArray,List.set_cons_zero,List.set_cons_succ]
      refine wpAnyH_take (i:=3) (v:=?va3) rfl (by kernel_rfl) (by kernel_rfl) (by kernel_rfl) (fun _ _ _ h=>h) (Or.inl ⟨by kernel_rfl,?ya3⟩) (by assumption) ?ra3
      case ya3=>first | ((intro w hSw; (try dsimp only at hSw); go_simp); done) | ((intro w hSw; (try dsimp only at hSw); go_simp); with_reducible rfl)
      simp only [Act.put,List.getElem_toArray,List.getElem_cons_succ,List.getElem_cons_zero,List.setIfInBounds_toArray,List.set_cons_zero,List.set_cons_succ]
      refine wpAnyH_take (i:=4) (v:=undef) rfl (by kernel_rfl) (by kernel_rfl) (by kernel_rfl) (fun _ _ _ h=>h) (Or.inr ⟨by kernel_rfl,rfl⟩) (by assumption) ?_
      simp only [Act.put,List.getElem_toArray,List.getElem_cons_succ,List.getElem_cons_zero,List.setIfInBounds_toArray,List.set_cons_zero,List.set_cons_succ]
      refine wpAnyH_take (i:=5) (v:=undef) rfl (by kernel_rfl) (by kernel_rfl) (by kernel_rfl) (fun _ _ _ h=>h) (Or.inr ⟨by kernel_rfl,rfl⟩) (by assumption) ?_
      simp only [Act.put,List.getElem_toArray,List.getElem_cons_succ,List.getElem_cons_zero,List.setIfInBounds_toArray,List.set_cons_zero,List.set_cons_succ]
      refine wpAnyH_take (i:=6) (v:=undef) rfl (by kernel_rfl) (by kernel_rfl) (by kernel_rfl) (fun _ _ _ h=>h) (Or.inr ⟨by kernel_rfl,rfl⟩) (by assumption) ?_
      simp only [Act.put,List.getElem_toArray,List.getElem_cons_succ,List.getElem_cons_zero,List.setIfInBounds_toArray,List.set_cons_zero,List.set_cons_succ]
      refine wpAnyH_take (i:=7) (v:=?va7) rfl (by kernel_rfl) (by kernel_rfl) (by kernel_rfl) (fun _ _ _ h=>h) (Or.inl ⟨by kernel_rfl,?ya7⟩) (by assumption) ?ra7
      case ya7=>first | ((intro w hSw; (try dsimp only at hSw); go_simp); done) | ((intro w hSw; (try dsimp only at hSw); go_simp); with_reducible rfl)
      simp only [Act.put,List.getElem_toArray,List.getElem_cons_succ,List.getElem_cons_zero,List.setIfInBounds_toArray,List.set_cons_zero,List.set_cons_succ]
      refine wpAnyH_take (i:=8) (v:=?va8) rfl (by kernel_rfl) (by kernel_rfl) (by kernel_rfl) (fun _ _ _ h=>h) (Or.inl ⟨by kernel_rfl,?ya8⟩) (by assumption) ?ra8
      case ya8=>first | ((intro w hSw; (try dsimp only at hSw); go_simp); done) | ((intro w hSw; (try dsimp only at hSw); go_simp); with_reducible rfl)
      simp only [Act.put,List.getElem_toArray,List.getElem_cons_succ,List.getElem_cons_zero,List.setIfInBounds_toArray,List.set_cons_zero,List.set_cons_succ]
      refine wpAnyH_take (i:=9) (v:=undef) rfl (by kernel_rfl) (by kernel_rfl) (by kernel_rfl) (fun _ _ _ h=>h) (Or.inr ⟨by kernel_rfl,rfl⟩) (by assumption) ?_
      simp only [Act.put,List.getElem_toArray,List.getElem_cons_succ,List.getElem_cons_zero,List.setIfInBounds_toArray,List.set_cons_zero,List.set_cons_succ]
      refine wpAnyH_take (i:=10) (v:=undef) rfl (by kernel_rfl) (by kernel_rfl) (by kernel_rfl) (fun _ _ _ h=>h) (Or.inr ⟨by kernel_rfl,rfl⟩) (by assumption) ?_
      simp only [Act.put,List.getElem_toArray,List.getElem_cons_succ,List.getElem_cons_zero,List.setIfInBounds_toArray,List.set_cons_zero,List.set_cons_succ]
      refine wpAnyH_take (i:=11) (v:=undef) rfl (by kernel_rfl) (by kernel_rfl) (by kernel_rfl) (fun _ _ _ h=>h) (Or.inr ⟨by kernel_rfl,rfl⟩) (by assumption) ?_
      simp only [Act.put,List.getElem_toArray,List.getElem_cons_succ,List.getElem_cons_zero,List.setIfInBounds_toArray,List.set_cons_zero,List.set_cons_succ]
      refine wpAnyH_take (i:=12) (v:=?va12) rfl (by kernel_rfl) (by kernel_rfl) (by kernel_rfl) (fun _ _ _ h=>h) (Or.inl ⟨by kernel_rfl,?ya12⟩) (by assumption) ?ra12
      case ya12=>first | ((intro w hSw; (try dsimp only at hSw); go_simp); done) | ((intro w hSw; (try dsimp only at hSw); go_simp); with_reducible rfl)
      simp only [Act.put,List.getElem_toArray,List.getElem_cons_succ,List.getElem_cons_zero,List.setIfInBounds_toArray,List.set_cons_zero,List.set_cons_succ]
      refine wpAnyH_take (i:=13) (v:=?va13) rfl (by kernel_rfl) (by kernel_rfl) (by kernel_rfl) (fun _ _ _ h=>h) (Or.inl ⟨by kernel_rfl,?ya13⟩) (by assumption) ?ra13
      case ya13=>first | ((intro w hSw; (try dsimp only at hSw); go_simp); done) | ((intro w hSw; (try dsimp only at hSw); go_simp); with_reducible rfl)
      simp only [Act.put,List.getElem_toArray,List.getElem_cons_succ,List.getElem_cons_zero,List.setIfInBounds_toArray,List.set_cons_zero,List.set_cons_succ]
      refine wpAnyH_take (i:=14) (v:=undef) rfl (by kernel_rfl) (by kernel_rfl) (by kernel_rfl) (fun _ _ _ h=>h) (Or.inr ⟨by kernel_rfl,rfl⟩) (by assumption) ?_
      simp only [Act.put,List.getElem_toArray,List.getElem_cons_succ,List.getElem_cons_zero,List.setIfInBounds_toArray,List.set_cons_zero,List.set_cons_succ]
      refine wpAnyH_take (i:=15) (v:=undef) rfl (by kernel_rfl) (by kernel_rfl) (by kernel_rfl) (fun _ _ _ h=>h) (Or.inr ⟨by kernel_rfl,rfl⟩) (by assumption) ?_
      simp only [Act.put,List.getElem_toArray,List.getElem_cons_succ,List.getElem_cons_zero,List.setIfInBounds_toArray,List.set_cons_zero,List.set_cons_succ]
      refine wpAnyH_take (i:=16) (v:=undef) rfl (by kernel_rfl) (by kernel_rfl) (by kernel_rfl) (fun _ _ _ h=>h) (Or.inr ⟨by kernel_rfl,rfl⟩) (by assumption) ?_
      simp only [Act.put,List.getElem_toArray,List.getElem_cons_succ,List.getElem_cons_zero,List.setIfInBounds_toArray,List.set_cons_zero,List.set_cons_succ]
      refine wpAnyH_take (i:=17) (v:=?va17) rfl (by kernel_rfl) (by kernel_rfl) (by kernel_rfl) (fun _ _ _ h=>h) (Or.inl ⟨by kernel_rfl,?ya17⟩) (by assumption) ?ra17
      case ya17=>first | ((intro w hSw; (try dsimp only at hSw); go_simp); done) | ((intro w hSw; (try dsimp only at hSw); go_simp); with_reducible rfl)
      simp only [Act.put,List.getElem_toArray,List.getElem_cons_succ,List.getElem_cons_zero,List.setIfInBounds_toArray,List.set_cons_zero,List.set_cons_succ]
      refine wpAnyH_take (i:=18) (v:=?va18) rfl (by kernel_rfl) (by kernel_rfl) (by kernel_rfl) (fun _ _ _ h=>h) (Or.inl ⟨by kernel_rfl,?ya18⟩) (by assumption) ?ra18
      case ya18=>first | ((intro w hSw; (try dsimp only at hSw); go_simp); done) | ((intro w hSw; (try dsimp only at hSw); go_simp); with_reducible rfl)
      simp only [Act.put,List.getElem_toArray,List.getElem_cons_succ,List.getElem_cons_zero,List.setIfInBounds_toArray,List.set_cons_zero,List.set_cons_succ]
      refine wpAnyH_take (i:=19) (v:=undef) rfl (by kernel_rfl) (by kernel_rfl) (by kernel_rfl) (fun _ _ _ h=>h) (Or.inr ⟨by kernel_rfl,rfl⟩) (by assumption) ?_
      simp only [Act.put,List.getElem_toArray,List.getElem_cons_succ,List.getElem_cons_zero,List.setIfInBounds_toArray,List.set_cons_zero,List.set_cons_succ]
      refine wpAnyH_take (i:=20) (v:=undef) rfl (by kernel_rfl) (by kernel_rfl) (by kernel_rfl) (fun _ _ _ h=>h) (Or.inr ⟨by kernel_rfl,rfl⟩) (by assumption) ?_
      simp only [Act.put,List.getElem_toArray,List.getElem_cons_succ,List.getElem_cons_zero,List.setIfInBounds_toArray,List.set_cons_zero,List.set_cons_succ]
      refine wpAnyH_take (i:=21) (v:=undef) rfl (by kernel_rfl) (by kernel_rfl) (by kernel_rfl) (fun _ _ _ h=>h) (Or.inr ⟨by kernel_rfl,rfl⟩) (by assumption) ?_
      simp only [Act.put,List.getElem_toArray,List.getElem_cons_succ,List.getElem_cons_zero,List.setIfInBounds_toArray,List.set_cons_zero,List.set_cons_succ]
      refine wpAnyH_take (i:=22) (v:=undef) rfl (by kernel_rfl) (by kernel_rfl) (by kernel_rfl) (fun _ _ _ h=>h) (Or.inr ⟨by kernel_rfl,rfl⟩) (by assumption) ?_
      simp only [Act.put,List.getElem_toArray,List.getElem_cons_succ,List.getElem_cons_zero,List.setIfInBounds_toArray,List.set_cons_zero,List.set_cons_succ]
      refine wpAnyH_take (i:=23) (v:=undef) rfl (by kernel_rfl) (by kernel_rfl) (by kernel_rfl) (fun _ _ _ h=>h) (Or.inr ⟨by kernel_rfl,rfl⟩) (by assumption) ?_
      simp only [Act.put,List.getElem_toArray,List.getElem_cons_succ,List.getElem_cons_zero,List.setIfInBounds_toArray,List.set_cons_zero,List.set_cons_succ]
      refine wpAnyH_take (i:=24) (v:=undef) rfl (by kernel_rfl) (by kernel_rfl) (by kernel_rfl) (fun _ _ _ h=>h) (Or.inr ⟨by kernel_rfl,rfl⟩) (by assumption) ?_
      simp only [Act.put,List.getElem_toArray,List.getElem_cons_succ,List.getElem_cons_zero,List.setIfInBounds_toArray,List.set_cons_zero,List.set_cons_succ]
      refine wpAnyH_take (i:=25) (v:=undef) rfl (by kernel_rfl) (by kernel_rfl) (by kernel_rfl) (fun _ _ _ h=>h) (Or.inr ⟨by kernel_rfl,rfl⟩) (by assumption) ?_
      simp only [Act.put,List.getElem_toArray,List.getElem_cons_succ,List.getElem_cons_zero,List.setIfInBounds_toArray,List.set_cons_zero,List.set_cons_succ]
      refine wpAnyH_take (i:=26) (v:=undef) rfl (by kernel_rfl) (by kernel_rfl) (by kernel_rfl) (fun _ _ _ h=>h) (Or.inr ⟨by kernel_rfl,rfl⟩) (by assumption) ?_
      simp only [Act.put,List.getElem_toArray,List.getElem_cons_succ,List.getElem_cons_zero,List.setIfInBounds_toArray,List.set_cons_zero,List.set_cons_succ]
      refine wpAnyH_take (i:=27) (v:=undef) rfl (by kernel_rfl) (by kernel_rfl) (by kernel_rfl) (fun _ _ _ h=>h) (Or.inr ⟨by kernel_rfl,rfl⟩) (by assumption) ?_
      simp only [Act.put,List.getElem_toArray,List.getElem_cons_succ,List.getElem_cons_zero,List.setIfInBounds_toArray,List.set_cons_zero,List.set_cons_succ]
      refine wpAnyH_take (i:=28) (v:=undef) rfl (by kernel_rfl) (by kernel_rfl) (by kernel_rfl) (fun _ _ _ h=>h) (Or.inr ⟨by kernel_rfl,rfl⟩) (by assumption) ?_
      simp only [Act.put,List.getElem_toArray,List.getElem_cons_succ,List.getElem_cons_zero,List.setIfInBounds_toArray,List.set_cons_zero,List.set_cons_succ]
      refine wpAnyH_take (i:=29) (v:=undef) rfl (by kernel_rfl) (by kernel_rfl) (by kernel_rfl) (fun _ _ _ h=>h) (Or.inr ⟨by kernel_rfl,rfl⟩) (by assumption) ?_
      simp only [Act.put,List.getElem_toArray,List.getElem_cons_succ,List.getElem_cons_zero,List.setIfInBounds_toArray,List.set_cons_zero,List.set_cons_succ]
      refine wpAnyH_take (i:=30) (v:=undef) rfl (by kernel_rfl) (by kernel_rfl) (by kernel_rfl) (fun _ _ _ h=>h) (Or.inr ⟨by kernel_rfl,rfl⟩) (by assumption) ?_
      simp only [Act.put,List.getElem_toArray,List.getElem_cons_succ,List.getElem_cons_zero,List.setIfInBounds_toArray,List.set_cons_zero,List.set_cons_succ]
      refine wpAnyH_take (i:=31) (v:=undef) rfl (by kernel_rfl) (by kernel_rfl) (by kernel_rfl) (fun _ _ _ h=>h) (Or.inr ⟨by kernel_rfl,rfl⟩) (by assumption) ?_
      simp only [Act.put,List.getElem_toArray,List.getElem_cons_succ,List.getElem_cons_zero,List.setIfInBounds_toArray,List.set_cons_zero,List.set_cons_succ]
      refine wpAnyH_take (i:=32) (v:=undef) rfl (by kernel_rfl) (by kernel_rfl) (by kernel_rfl) (fun _ _ _ h=>h) (Or.inr ⟨by kernel_rfl,rfl⟩) (by assumption) ?_
      simp only [Act.put,List.getElem_toArray,List.getElem_cons_succ,List.getElem_cons_zero,List.setIfInBounds_toArray,List.set_cons_zero,List.set_cons_succ]
      refine wpAnyH_take (i:=33) (v:=undef) rfl (by kernel_rfl) (by kernel_rfl) (by kernel_rfl) (fun _ _ _ h=>h) (Or.inr ⟨by kernel_rfl,rfl⟩) (by assumption) ?_
      simp only [Act.put,List.getElem_toArray,List.getElem_cons_succ,List.getElem_cons_zero,List.setIfInBounds_toArray,List.set_cons_zero,List.set_cons_succ]
      refine wpAnyH_take (i:=34) (v:=undef) rfl (by kernel_rfl) (by kernel_rfl) (by kernel_rfl) (fun _ _ _ h=>h) (Or.inr ⟨by kernel_rfl,rfl⟩) (by assumption) ?_
      simp only [Act.put,List.getElem_toArray,List.getElem_cons_succ,List.getElem_cons_zero,List.setIfInBounds_toArray,List.set_cons_zero,List.set_cons_succ]
      refine wpAnyH_take (i:=35) (v:=undef) rfl (by kernel_rfl) (by kernel_rfl) (by kernel_rfl) (fun _ _ _ h=>h) (Or.inr ⟨by kernel_rfl,rfl⟩) (by assumption) ?_
      simp only [Act.put,List.getElem_toArray,List.getElem_cons_succ,List.getElem_cons_zero,List.setIfInBounds_toArray,List.set_cons_zero,List.set_cons_succ]
      refine wpAnyH_take (i:=36) (v:=undef) rfl (by kernel_rfl) (by kernel_rfl) (by kernel_rfl) (fun _ _ _ h=>h) (Or.inr ⟨by kernel_rfl,rfl⟩) (by assumption) ?_
      simp only [Act.put,List.getElem_toArray,List.getElem_cons_succ,List.getElem_cons_zero,List.setIfInBounds_toArray,List.set_cons_zero,List.set_cons_succ]
      refine wpAnyH_take (i:=37) (v:=undef) rfl (by kernel_rfl) (by kernel_rfl) (by kernel_rfl) (fun _ _ _ h=>h) (Or.inr ⟨by kernel_rfl,rfl⟩) (by assumption) ?_
      simp only [Act.put,List.getElem_toArray,List.getElem_cons_succ,List.getElem_cons_zero,List.setIfInBounds_toArray,List.set_cons_zero,List.set_cons_succ]
      refine wpAnyH_take (i:=38) (v:=undef) rfl (by kernel_rfl) (by kernel_rfl) (by kernel_rfl) (fun _ _ _ h=>h) (Or.inr ⟨by kernel_rfl,rfl⟩) (by assumption) ?_
      simp only [Act.put,List.getElem_toArray,List.getElem_cons_succ,List.getElem_cons_zero,List.setIfInBounds_toArray,List.set_cons_zero,List.set_cons_succ]
      refine wpAnyH_take (i:=39) (v:=undef) rfl (by kernel_rfl) (by kernel_rfl) (by kernel_rfl) (fun _ _ _ h=>h) (Or.inr ⟨by kernel_rfl,rfl⟩) (by assumption) ?_
      simp only [Act.put,List.getElem_toArray,List.getElem_cons_succ,List.getElem_cons_zero,List.setIfInBounds_toArray,List.set_cons_zero,List.set_cons_succ]
      refine wpAnyH_take (i:=40) (v:=undef) rfl (by kernel_rfl) (by kernel_rfl) (by kernel_rfl) (fun _ _ _ h=>h) (Or.inr ⟨by kernel_rfl,rfl⟩) (by assumption) ?_
      simp only [Act.put,List.getElem_toArray,List.getElem_cons_succ,List.getElem_cons_zero,List.setIfInBounds_toArray,List.set_cons_zero,List.set_cons_succ]
      refine wpAnyH_take (i:=41) (v:=?va41) rfl (by kernel_rfl) (by kernel_rfl) (by kernel_rfl) (fun _ _ _ h=>h) (Or.inl ⟨by kernel_rfl,?ya41⟩) (by assumption) ?ra41
      case ya41=>first | ((intro w hSw; (try dsimp only at hSw); go_simp); done) | ((intro w hSw; (try dsimp only at hSw); go_simp); with_reducible rfl)
      simp only [Act.put,List.getElem_toArray,List.getElem_cons_succ,List.getElem_cons_zero,List.setIfInBounds_toArray,List.set_cons_zero,List.set_cons_succ]
      refine wpAnyH_done (by kernel_rfl) ?_ _
      gi_wp2
      exact ⟨⟨i+1,_,_,_,_,rfl,by omega,hIa.keep (hBd),hO'⟩,by simp [intOf]; omega⟩
     by_cases h2:(0:Int)≤k1
     rotate_left
     ·skip
      refine wp_region_held_drew (S:=(fun w'=>w'.cell? ⟨w.heap.size,0,none⟩=some (.int .i64 k0)∧w'.cell? ⟨w.heap.size,1,none⟩=some (.int .i64 k1)∧w'.cell? ⟨w.heap.size,2,none⟩=some (.int .i64 k2)∧w'.cell? ⟨w.heap.size,3,none⟩=some (.int .i64 k3)∧w'.cell? ⟨w.heap.size,4,none⟩=some (.int .i64 k4)∧w'.cell? ⟨w.heap.size,5,none⟩=some (.int .i64 k5)∧w'.cell? ⟨w.heap.size+1+1,2,none⟩=some (.int .i64 cb')∧w'.cell? ⟨w.heap.size+1+1,3,none⟩=some (.int .i64 cm')∧w'.cell? ⟨w.heap.size+1+1,4,none⟩=some (.bool ck')∧Below wa.heap.size wa w')) (by kernel_rfl) ?_ (fun hHeld=>?_)
      ·exact ⟨y0,y1,y2,y3,y4,y5,z2,z3,z4,hBd⟩
      refine wpAnyH_take (i:=0) (v:=?vb0) rfl (by kernel_rfl) (by kernel_rfl) (by kernel_rfl) (fun _ _ _ h=>h) (Or.inl ⟨by kernel_rfl,?yb0⟩) (by assumption) ?rb0
      case yb0=>first | ((intro w hSw; (try dsimp only at hSw); go_simp); done) | ((intro w hSw; (try dsimp only at hSw); go_simp); with_reducible rfl)
      simp only [Act.put,List.getElem_toArray,List.getElem_cons_succ,List.getElem_cons_zero,List.setIfInBounds_toArray,List.set_cons_zero,List.set_cons_succ]
      refine wpAnyH_take (i:=1) (v:=?vb1) rfl (by kernel_rfl) (by kernel_rfl) (by kernel_rfl) (fun _ _ _ h=>h) (Or.inl ⟨by kernel_rfl,?yb1⟩) (by assumption) ?rb1
      case yb1=>first | ((intro w hSw; (try dsimp only at hSw); go_simp); done) | ((intro w hSw; (try dsimp only at hSw); go_simp); with_reducible rfl)
      simp only [Act.put,List.getElem_toArray,List.getElem_cons_succ,List.getElem_cons_zero,List.setIfInBounds_toArray,List.set_cons_zero,List.set_cons_succ]
      refine wpAnyH_take (i:=2) (v:=?vb2) rfl (by kernel_rfl) (by kernel_rfl) (by kernel_rfl) (fun _ _ _ h=>h) (Or.inl ⟨by kernel_rfl,?yb2⟩) (by assumption) ?rb2
      case yb2=>first | ((intro w hSw; (try dsimp only at hSw); go_simp); done) | ((intro w hSw; (try dsimp only at hSw); go_simp); with_reducible rfl)
      simp only [Act.put,List.getElem_toArray,List.getElem_cons_succ,List.getElem_cons_zero,List.setIfInBounds_toArray,List.set_cons_zero,List.set_cons_succ]
      refine wpAnyH_take (i:=3) (v:=?vb3) rfl (by kernel_rfl) (by kernel_rfl) (by kernel_rfl) (fun _ _ _ h=>h) (Or.inl ⟨by kernel_rfl,?yb3⟩) (by assumption) ?rb3
      case yb3=>first | ((intro w hSw; (try dsimp only at hSw); go_simp); done) | ((intro w hSw; (try dsimp only at hSw); go_simp); with_reducible rfl)
      simp only [Act.put,List.getElem_toArray,List.getElem_cons_succ,List.getElem_cons_zero,List.setIfInBounds_toArray,List.set_cons_zero,List.set_cons_succ]
      refine wpAnyH_take (i:=4) (v:=?vb4) rfl (by kernel_rfl) (by kernel_rfl) (by kernel_rfl) (fun _ _ _ h=>h) (Or.inl ⟨by kernel_rfl,?yb4⟩) (by assumption) ?rb4
      case yb4=>first | ((intro w hSw; (try dsimp only at hSw); go_simp); done) | ((intro w hSw; (try dsimp only at hSw); go_simp); with_reducible rfl)
      simp only [Act.put,List.getElem_toArray,List.getElem_cons_succ,List.getElem_cons_zero,List.setIfInBounds_toArray,List.set_cons_zero,List.set_cons_succ]
      refine wpAnyH_take (i:=5) (v:=?vb5) rfl (by kernel_rfl) (by kernel_rfl) (by kernel_rfl) (fun _ _ _ h=>h) (Or.inl ⟨by kernel_rfl,?yb5⟩) (by assumption) ?rb5
      case yb5=>first | ((intro w hSw; (try dsimp only at hSw); go_simp); done) | ((intro w hSw; (try dsimp only at hSw); go_simp); with_reducible rfl)
      simp only [Act.put,List.getElem_toArray,List.getElem_cons_succ,List.getElem_cons_zero,List.setIfInBounds_toArray,List.set_cons_zero,List.set_cons_succ]
      refine wpAnyH_take (i:=6) (v:=?vb6) rfl (by kernel_rfl) (by kernel_rfl) (by kernel_rfl) (fun _ _ _ h=>h) (Or.inl ⟨by kernel_rfl,?yb6⟩) (by assumption) ?rb6
      case yb6=>first | ((intro w hSw; (try dsimp only at hSw); go_simp); done) | ((intro w hSw; (try dsimp only at hSw); go_simp); with_reducible rfl)
      simp only [Act.put,List.getElem_toArray,List.getElem_cons_succ,List.getElem_cons_zero,List.setIfInBounds_toArray,List.set_cons_zero,List.set_cons_succ]
      refine wpAnyH_take (i:=7) (v:=?vb7) rfl (by kernel_rfl) (by kernel_rfl) (by kernel_rfl) (fun _ _ _ h=>h) (Or.inl ⟨by kernel_rfl,?yb7⟩) (by assumption) ?rb7
      case yb7=>first | ((intro w hSw; (try dsimp only at hSw); go_simp); done) | ((intro w hSw; (try dsimp only at hSw); go_simp); with_reducible rfl)
      simp only [Act.put,List.getElem_toArray,List.getElem_cons_succ,List.getElem_cons_zero,List.setIfInBounds_toArray,List.set_cons_zero,List.set_cons_succ]
      refine wpAnyH_take (i:=8) (v:=?vb8) rfl (by kernel_rfl) (by kernel_rfl) (by kernel_rfl) (fun _ _ _ h=>h) (Or.inl ⟨by kernel_rfl,?yb8⟩) (by assumption) ?rb8
      case yb8=>first | ((intro w hSw; (try dsimp only at hSw); go_simp); done) | ((intro w hSw; (try dsimp only at hSw); go_simp); with_reducible rfl)
      simp only [Act.put,List.getElem_toArray,List.getElem_cons_succ,List.getElem_cons_zero,List.setIfInBounds_toArray,List.set_cons_zero,List.set_cons_succ]
      refine wpAnyH_take (i:=9) (v:=undef) rfl (by kernel_rfl) (by kernel_rfl) (by kernel_rfl) (fun _ _ _ h=>h) (Or.inr ⟨by kernel_rfl,rfl⟩) (by assumption) ?_
      simp only [Act.put,List.getElem_toArray,List.getElem_cons_succ,List.getElem_cons_zero,List.setIfInBounds_toArray,List.set_cons_zero,List.set_cons_succ]
      refine wpAnyH_take (i:=10) (v:=undef) rfl (by kernel_rfl) (by kernel_rfl) (by kernel_rfl) (fun _ _ _ h=>h) (Or.inr ⟨by kernel_rfl,rfl⟩) (by assumption) ?_
      simp only [Act.put,List.getElem_toArray,List.getElem_cons_succ,List.getElem_cons_zero,List.setIfInBounds_toArray,List.set_cons_zero,List.set_cons_succ]
      refine wpAnyH_take (i:=11) (v:=undef) rfl (by kernel_rfl) (by kernel_rfl) (by kernel_rfl) (fun _ _ _ h=>h) (Or.inr ⟨by kernel_rfl,rfl⟩) (by assumption) ?_
      simp only [Act.put,List.getElem_toArray,List.getElem_cons_succ,List.getElem_cons_zero,List.setIfInBounds_toArray,List.set_cons_zero,List.set_cons_succ]
      refine wpAnyH_take (i:=12) (v:=?vb12) rfl (by kernel_rfl) (by kernel_rfl) (by kernel_rfl) (fun _ _ _ h=>h) (Or.inl ⟨by kernel_rfl,?yb12⟩) (by assumption) ?rb12
      case yb12=>first | ((intro w hSw; (try dsimp only at hSw); go_simp); done) | ((intro w hSw; (try dsimp only at hSw); go_simp); with_reducible rfl)
      simp only [Act.put,List.getElem_toArray,List.getElem_cons_succ,List.getElem_cons_zero,List.setIfInBounds_toArray,List.set_cons_zero,List.set_cons_succ]
      refine wpAnyH_take (i:=13) (v:=?vb13) rfl (by kernel_rfl) (by kernel_rfl) (by kernel_rfl) (fun _ _ _ h=>h) (Or.inl ⟨by kernel_rfl,?yb13⟩) (by assumption) ?rb13
      case yb13=>first | ((intro w hSw; (try dsimp only at hSw); go_simp); done) | ((intro w hSw; (try dsimp only at hSw); go_simp); with_reducible rfl)
      simp only [Act.put,List.getElem_toArray,List.getElem_cons_succ,List.getElem_cons_zero,List.setIfInBounds_toArray,List.set_cons_zero,List.set_cons_succ]
      refine wpAnyH_take (i:=14) (v:=undef) rfl (by kernel_rfl) (by kernel_rfl) (by kernel_rfl) (fun _ _ _ h=>h) (Or.inr ⟨by kernel_rfl,rfl⟩) (by assumption) ?_
      simp only [Act.put,List.getElem_toArray,List.getElem_cons_succ,List.getElem_cons_zero,List.setIfInBounds_toArray,List.set_cons_zero,List.set_cons_succ]
      refine wpAnyH_take (i:=15) (v:=undef) rfl (by kernel_rfl) (by kernel_rfl) (by kernel_rfl) (fun _ _ _ h=>h) (Or.inr ⟨by kernel_rfl,rfl⟩) (by assumption) ?_
      simp only [Act.put,List.getElem_toArray,List.getElem_cons_succ,List.getElem_cons_zero,List.setIfInBounds_toArray,List.set_cons_zero,List.set_cons_succ]
      refine wpAnyH_take (i:=16) (v:=undef) rfl (by kernel_rfl) (by kernel_rfl) (by kernel_rfl) (fun _ _ _ h=>h) (Or.inr ⟨by kernel_rfl,rfl⟩) (by assumption) ?_
      simp only [Act.put,List.getElem_toArray,List.getElem_cons_succ,List.getElem_cons_zero,List.setIfInBounds_toArray,List.set_cons_zero,List.set_cons_succ]
      refine wpAnyH_take (i:=17) (v:=?vb17) rfl (by kernel_rfl) (by kernel_rfl) (by kernel_rfl) (fun _ _ _ h=>h) (Or.inl ⟨by kernel_rfl,?yb17⟩) (by assumption) ?rb17
      case yb17=>first | ((intro w hSw; (try dsimp only at hSw); go_simp); done) | ((intro w hSw; (try dsimp only at hSw); go_simp); with_reducible rfl)
      simp only [Act.put,List.getElem_toArray,List.getElem_cons_succ,List.getElem_cons_zero,List.setIfInBounds_toArray,List.set_cons_zero,List.set_cons_succ]
      refine wpAnyH_take (i:=18) (v:=?vb18) rfl (by kernel_rfl) (by kernel_rfl) (by kernel_rfl) (fun _ _ _ h=>h) (Or.inl ⟨by kernel_rfl,?yb18⟩) (by assumption) ?rb18
      case yb18=>first | ((intro w hSw; (try dsimp only at hSw); go_simp); done) | ((intro w hSw; (try dsimp only at hSw); go_simp); with_reducible rfl)
      simp only [Act.put,List.getElem_toArray,List.getElem_cons_succ,List.getElem_cons_zero,List.setIfInBounds_toArray,List.set_cons_zero,List.set_cons_succ]
      refine wpAnyH_take (i:=19) (v:=undef) rfl (by kernel_rfl) (by kernel_rfl) (by kernel_rfl) (fun _ _ _ h=>h) (Or.inr ⟨by kernel_rfl,rfl⟩) (by assumption) ?_
      simp only [Act.put,List.getElem_toArray,List.getElem_cons_succ,List.getElem_cons_zero,List.setIfInBounds_toArray,List.set_cons_zero,List.set_cons_succ]
      refine wpAnyH_take (i:=20) (v:=undef) rfl (by kernel_rfl) (by kernel_rfl) (by kernel_rfl) (fun _ _ _ h=>h) (Or.inr ⟨by kernel_rfl,rfl⟩) (by assumption) ?_
      simp only [Act.put,List.getElem_toArray,List.getElem_cons_succ,List.getElem_cons_zero,List.setIfInBounds_toArray,List.set_cons_zero,List.set_cons_succ]
      refine wpAnyH_take (i:=21) (v:=undef) rfl (by kernel_rfl) (by kernel_rfl) (by kernel_rfl) (fun _ _ _ h=>h) (Or.inr ⟨by kernel_rfl,rfl⟩) (by assumption) ?_
      simp only [Act.put,List.getElem_toArray,List.getElem_cons_succ,List.getElem_cons_zero,List.setIfInBounds_toArray,List.set_cons_zero,List.set_cons_succ]
      refine wpAnyH_take (i:=22) (v:=undef) rfl (by kernel_rfl) (by kernel_rfl) (by kernel_rfl) (fun _ _ _ h=>h) (Or.inr ⟨by kernel_rfl,rfl⟩) (by assumption) ?_
      simp only [Act.put,List.getElem_toArray,List.getElem_cons_succ,List.getElem_cons_zero,List.setIfInBounds_toArray,List.set_cons_zero,List.set_cons_succ]
      refine wpAnyH_take (i:=23) (v:=undef) rfl (by kernel_rfl) (by kernel_rfl) (by kernel_rfl) (fun _ _ _ h=>h) (Or.inr ⟨by kernel_rfl,rfl⟩) (by assumption) ?_
      simp only [Act.put,List.getElem_toArray,List.getElem_cons_succ,List.getElem_cons_zero,List.setIfInBounds_toArray,List.set_cons_zero,List.set_cons_succ]
      refine wpAnyH_take (i:=24) (v:=undef) rfl (by kernel_rfl) (by kernel_rfl) (by kernel_rfl) (fun _ _ _ h=>h) (Or.inr ⟨by kernel_rfl,rfl⟩) (by assumption) ?_
      simp only [Act.put,List.getElem_toArray,List.getElem_cons_succ,List.getElem_cons_zero,List.setIfInBounds_toArray,List.set_cons_zero,List.set_cons_succ]
      refine wpAnyH_take (i:=25) (v:=undef) rfl (by kernel_rfl) (by kernel_rfl) (by kernel_rfl) (fun _ _ _ h=>h) (Or.inr ⟨by kernel_rfl,rfl⟩) (by assumption) ?_
      simp only [Act.put,List.getElem_toArray,List.getElem_cons_succ,List.getElem_cons_zero,List.setIfInBounds_toArray,List.set_cons_zero,List.set_cons_succ]
      refine wpAnyH_take (i:=26) (v:=undef) rfl (by kernel_rfl) (by kernel_rfl) (by kernel_rfl) (fun _ _ _ h=>h) (Or.inr ⟨by kernel_rfl,rfl⟩) (by assumption) ?_
      simp only [Act.put,List.getElem_toArray,List.getElem_cons_succ,List.getElem_cons_zero,List.setIfInBounds_toArray,List.set_cons_zero,List.set_cons_succ]
      refine wpAnyH_take (i:=27) (v:=undef) rfl (by kernel_rfl) (by kernel_rfl) (by kernel_rfl) (fun _ _ _ h=>h) (Or.inr ⟨by kernel_rfl,rfl⟩) (by assumption) ?_
      simp only [Act.put,List.getElem_toArray,List.getElem_cons_succ,List.getElem_cons_zero,List.setIfInBounds_toArray,List.set_cons_zero,List.set_cons_succ]
      refine wpAnyH_take (i:=28) (v:=undef) rfl (by kernel_rfl) (by kernel_rfl) (by kernel_rfl) (fun _ _ _ h=>h) (Or.inr ⟨by kernel_rfl,rfl⟩) (by assumption) ?_
      simp only [Act.put,List.getElem_toArray,List.getElem_cons_succ,List.getElem_cons_zero,List.setIfInBounds_toArray,List.set_cons_zero,List.set_cons_succ]
      refine wpAnyH_take (i:=29) (v:=undef) rfl (by kernel_rfl) (by kernel_rfl) (by kernel_rfl) (fun _ _ _ h=>h) (Or.inr ⟨by kernel_rfl,rfl⟩) (by assumption) ?_
      simp only [Act.put,List.getElem_toArray,List.getElem_cons_succ,List.getElem_cons_zero,List.setIfInBounds_toArray,List.set_cons_zero,List.set_cons_succ]
      refine wpAnyH_take (i:=30) (v:=undef) rfl (by kernel_rfl) (by kernel_rfl) (by kernel_rfl) (fun _ _ _ h=>h) (Or.inr ⟨by kernel_rfl,rfl⟩) (by assumption) ?_
      simp only [Act.put,List.getElem_toArray,List.getElem_cons_succ,List.getElem_cons_zero,List.setIfInBounds_toArray,List.set_cons_zero,List.set_cons_succ]
      refine wpAnyH_take (i:=31) (v:=undef) rfl (by kernel_rfl) (by kernel_rfl) (by kernel_rfl) (fun _ _ _ h=>h) (Or.inr ⟨by kernel_rfl,rfl⟩) (by assumption) ?_
      simp only [Act.put,List.getElem_toArray,List.getElem_cons_succ,List.getElem_cons_zero,List.setIfInBounds_toArray,List.set_cons_zero,List.set_cons_succ]
      refine wpAnyH_take (i:=32) (v:=undef) rfl (by kernel_rfl) (by kernel_rfl) (by kernel_rfl) (fun _ _ _ h=>h) (Or.inr ⟨by kernel_rfl,rfl⟩) (by assumption) ?_
      simp only [Act.put,List.getElem_toArray,List.getElem_cons_succ,List.getElem_cons_zero,List.setIfInBounds_toArray,List.set_cons_zero,List.set_cons_succ]
      refine wpAnyH_take (i:=33) (v:=undef) rfl (by kernel_rfl) (by kernel_rfl) (by kernel_rfl) (fun _ _ _ h=>h) (Or.inr ⟨by kernel_rfl,rfl⟩) (by assumption) ?_
      simp only [Act.put,List.getElem_toArray,List.getElem_cons_succ,List.getElem_cons_zero,List.setIfInBounds_toArray,List.set_cons_zero,List.set_cons_succ]
      refine wpAnyH_take (i:=34) (v:=undef) rfl (by kernel_rfl) (by kernel_rfl) (by kernel_rfl) (fun _ _ _ h=>h) (Or.inr ⟨by kernel_rfl,rfl⟩) (by assumption) ?_
      simp only [Act.put,List.getElem_toArray,List.getElem_cons_succ,List.getElem_cons_zero,List.setIfInBounds_toArray,List.set_cons_zero,List.set_cons_succ]
      refine wpAnyH_take (i:=35) (v:=undef) rfl (by kernel_rfl) (by kernel_rfl) (by kernel_rfl) (fun _ _ _ h=>h) (Or.inr ⟨by kernel_rfl,rfl⟩) (by assumption) ?_
      simp only [Act.put,List.getElem_toArray,List.getElem_cons_succ,List.getElem_cons_zero,List.setIfInBounds_toArray,List.set_cons_zero,List.set_cons_succ]
      refine wpAnyH_take (i:=36) (v:=undef) rfl (by kernel_rfl) (by kernel_rfl) (by kernel_rfl) (fun _ _ _ h=>h) (Or.inr ⟨by kernel_rfl,rfl⟩) (by assumption) ?_
      simp only [Act.put,List.getElem_toArray,List.getElem_cons_succ,List.getElem_cons_zero,List.setIfInBounds_toArray,List.set_cons_zero,List.set_cons_succ]
      refine wpAnyH_take (i:=37) (v:=undef) rfl (by kernel_rfl) (by kernel_rfl) (by kernel_rfl) (fun _ _ _ h=>h) (Or.inr ⟨by kernel_rfl,rfl⟩) (by assumption) ?_
      simp only [Act.put,List.getElem_toArray,List.getElem_cons_succ,List.getElem_cons_zero,List.setIfInBounds_toArray,List.set_cons_zero,List.set_cons_succ]
      refine wpAnyH_take (i:=38) (v:=undef) rfl (by kernel_rfl) (by kernel_rfl) (by kernel_rfl) (fun _ _ _ h=>h) (Or.inr ⟨by kernel_rfl,rfl⟩) (by assumption) ?_
      simp only [Act.put,List.getElem_toArray,List.getElem_cons_succ,List.getElem_cons_zero,List.setIfInBounds_toArray,List.set_cons_zero,List.set_cons_succ]
      refine wpAnyH_take (i:=39) (v:=undef) rfl (by kernel_rfl) (by kernel_rfl) (by kernel_rfl) (fun _ _ _ h=>h) (Or.inr ⟨by kernel_rfl,rfl⟩) (by assumption) ?_
      simp only [Act.put,List.getElem_toArray,List.getElem_cons_succ,List.getElem_cons_zero,List.setIfInBounds_toArray,List.set_cons_zero,List.set_cons_succ]
      refine wpAnyH_take (i:=40) (v:=undef) rfl (by kernel_rfl) (by kernel_rfl) (by kernel_rfl) (fun _ _ _ h=>h) (Or.inr ⟨by kernel_rfl,rfl⟩) (by assumption) ?_
      simp only [Act.put,List.getElem_toArray,List.getElem_cons_succ,List.getElem_cons_zero,List.setIfInBounds_toArray,List.set_cons_zero,List.set_cons_succ]
      refine wpAnyH_take (i:=41) (v:=?vb41) rfl (by kernel_rfl) (by kernel_rfl) (by kernel_rfl) (fun _ _ _ h=>h) (Or.inl ⟨by kernel_rfl,?yb41⟩) (by assumption) ?rb41
      case yb41=>first | ((intro w hSw; (try dsimp only at hSw); go_simp); done) | ((intro w hSw; (try dsimp only at hSw); go_simp); with_reducible rfl)
      simp only [Act.put,List.getElem_toArray,List.getElem_cons_succ,List.getElem_cons_zero,List.setIfInBounds_toArray,List.set_cons_zero,List.set_cons_succ]
      refine wpAnyH_done (by kernel_rfl) ?_ _
      gi_wp2
      exact ⟨⟨i+1,_,_,_,_,rfl,by omega,hIa.keep (hBd),hO'⟩,by simp [intOf]; omega⟩
     by_cases h3:k2 < 1000
     rotate_left
     ·skip
      refine wp_region_held_drew (S:=(fun w'=>w'.cell? ⟨w.heap.size,0,none⟩=some (.int .i64 k0)∧w'.cell? ⟨w.heap.size,1,none⟩=some (.int .i64 k1)∧w'.cell? ⟨w.heap.size,2,none⟩=some (.int .i64 k2)∧w'.cell? ⟨w.heap.size,3,none⟩=some (.int .i64 k3)∧w'.cell? ⟨w.heap.size,4,none⟩=some (.int .i64 k4)∧w'.cell? ⟨w.heap.size,5,none⟩=some (.int .i64 k5)∧w'.cell? ⟨w.heap.size+1+1,2,none⟩=some (.int .i64 cb')∧w'.cell? ⟨w.heap.size+1+1,3,none⟩=some (.int .i64 cm')∧w'.cell? ⟨w.heap.size+1+1,4,none⟩=some (.bool ck')∧Below wa.heap.size wa w')) (by kernel_rfl) ?_ (fun hHeld=>?_)
      ·exact ⟨y0,y1,y2,y3,y4,y5,z2,z3,z4,hBd⟩
      refine wpAnyH_take (i:=0) (v:=?vc0) rfl (by kernel_rfl) (by kernel_rfl) (by kernel_rfl) (fun _ _ _ h=>h) (Or.inl ⟨by kernel_rfl,?yc0⟩) (by assumption) ?rc0
      case yc0=>first | ((intro w hSw; (try dsimp only at hSw); go_simp); done) | ((intro w hSw; (try dsimp only at hSw); go_simp); with_reducible rfl)
      simp only [Act.put,List.getElem_toArray,List.getElem_cons_succ,List.getElem_cons_zero,List.setIfInBounds_toArray,List.set_cons_zero,List.set_cons_succ]
      refine wpAnyH_take (i:=1) (v:=?vc1) rfl (by kernel_rfl) (by kernel_rfl) (by kernel_rfl) (fun _ _ _ h=>h) (Or.inl ⟨by kernel_rfl,?yc1⟩) (by assumption) ?rc1
      case yc1=>first | ((intro w hSw; (try dsimp only at hSw); go_simp); done) | ((intro w hSw; (try dsimp only at hSw); go_simp); with_reducible rfl)
      simp only [Act.put,List.getElem_toArray,List.getElem_cons_succ,List.getElem_cons_zero,List.setIfInBounds_toArray,List.set_cons_zero,List.set_cons_succ]
      refine wpAnyH_take (i:=2) (v:=?vc2) rfl (by kernel_rfl) (by kernel_rfl) (by kernel_rfl) (fun _ _ _ h=>h) (Or.inl ⟨by kernel_rfl,?yc2⟩) (by assumption) ?rc2
      case yc2=>first | ((intro w hSw; (try dsimp only at hSw); go_simp); done) | ((intro w hSw; (try dsimp only at hSw); go_simp); with_reducible rfl)
      simp only [Act.put,List.getElem_toArray,List.getElem_cons_succ,List.getElem_cons_zero,List.setIfInBounds_toArray,List.set_cons_zero,List.set_cons_succ]
      refine wpAnyH_take (i:=3) (v:=?vc3) rfl (by kernel_rfl) (by kernel_rfl) (by kernel_rfl) (fun _ _ _ h=>h) (Or.inl ⟨by kernel_rfl,?yc3⟩) (by assumption) ?rc3
      case yc3=>first | ((intro w hSw; (try dsimp only at hSw); go_simp); done) | ((intro w hSw; (try dsimp only at hSw); go_simp); with_reducible rfl)
      simp only [Act.put,List.getElem_toArray,List.getElem_cons_succ,List.getElem_cons_zero,List.setIfInBounds_toArray,List.set_cons_zero,List.set_cons_succ]
      refine wpAnyH_take (i:=4) (v:=?vc4) rfl (by kernel_rfl) (by kernel_rfl) (by kernel_rfl) (fun _ _ _ h=>h) (Or.inl ⟨by kernel_rfl,?yc4⟩) (by assumption) ?rc4
      case yc4=>first | ((intro w hSw; (try dsimp only at hSw); go_simp); done) | ((intro w hSw; (try dsimp only at hSw); go_simp); with_reducible rfl)
      simp only [Act.put,List.getElem_toArray,List.getElem_cons_succ,List.getElem_cons_zero,List.setIfInBounds_toArray,List.set_cons_zero,List.set_cons_succ]
      refine wpAnyH_take (i:=5) (v:=?vc5) rfl (by kernel_rfl) (by kernel_rfl) (by kernel_rfl) (fun _ _ _ h=>h) (Or.inl ⟨by kernel_rfl,?yc5⟩) (by assumption) ?rc5
      case yc5=>first | ((intro w hSw; (try dsimp only at hSw); go_simp); done) | ((intro w hSw; (try dsimp only at hSw); go_simp); with_reducible rfl)
      simp only [Act.put,List.getElem_toArray,List.getElem_cons_succ,List.getElem_cons_zero,List.setIfInBounds_toArray,List.set_cons_zero,List.set_cons_succ]
      refine wpAnyH_take (i:=6) (v:=?vc6) rfl (by kernel_rfl) (by kernel_rfl) (by kernel_rfl) (fun _ _ _ h=>h) (Or.inl ⟨by kernel_rfl,?yc6⟩) (by assumption) ?rc6
      case yc6=>first | ((intro w hSw; (try dsimp only at hSw); go_simp); done) | ((intro w hSw; (try dsimp only at hSw); go_simp); with_reducible rfl)
      simp only [Act.put,List.getElem_toArray,List.getElem_cons_succ,List.getElem_cons_zero,List.setIfInBounds_toArray,List.set_cons_zero,List.set_cons_succ]
      refine wpAnyH_take (i:=7) (v:=?vc7) rfl (by kernel_rfl) (by kernel_rfl) (by kernel_rfl) (fun _ _ _ h=>h) (Or.inl ⟨by kernel_rfl,?yc7⟩) (by assumption) ?rc7
      case yc7=>first | ((intro w hSw; (try dsimp only at hSw); go_simp); done) | ((intro w hSw; (try dsimp only at hSw); go_simp); with_reducible rfl)
      simp only [Act.put,List.getElem_toArray,List.getElem_cons_succ,List.getElem_cons_zero,List.setIfInBounds_toArray,List.set_cons_zero,List.set_cons_succ]
      refine wpAnyH_take (i:=8) (v:=?vc8) rfl (by kernel_rfl) (by kernel_rfl) (by kernel_rfl) (fun _ _ _ h=>h) (Or.inl ⟨by kernel_rfl,?yc8⟩) (by assumption) ?rc8
      case yc8=>first | ((intro w hSw; (try dsimp only at hSw); go_simp); done) | ((intro w hSw; (try dsimp only at hSw); go_simp); with_reducible rfl)
      simp only [Act.put,List.getElem_toArray,List.getElem_cons_succ,List.getElem_cons_zero,List.setIfInBounds_toArray,List.set_cons_zero,List.set_cons_succ]
      refine wpAnyH_take (i:=9) (v:=?vc9) rfl (by kernel_rfl) (by kernel_rfl) (by kernel_rfl) (fun _ _ _ h=>h) (Or.inl ⟨by kernel_rfl,?yc9⟩) (by assumption) ?rc9
      case yc9=>first | ((intro w hSw; (try dsimp only at hSw); go_simp); done) | ((intro w hSw; (try dsimp only at hSw); go_simp); with_reducible rfl)
      simp only [Act.put,List.getElem_toArray,List.getElem_cons_succ,List.getElem_cons_zero,List.setIfInBounds_toArray,List.set_cons_zero,List.set_cons_succ]
      refine wpAnyH_take (i:=10) (v:=?vc10) rfl (by kernel_rfl) (by kernel_rfl) (by kernel_rfl) (fun _ _ _ h=>h) (Or.inl ⟨by kernel_rfl,?yc10⟩) (by assumption) ?rc10
      case yc10=>first | ((intro w hSw; (try dsimp only at hSw); go_simp); done) | ((intro w hSw; (try dsimp only at hSw); go_simp); with_reducible rfl)
      simp only [Act.put,List.getElem_toArray,List.getElem_cons_succ,List.getElem_cons_zero,List.setIfInBounds_toArray,List.set_cons_zero,List.set_cons_succ]
      refine wpAnyH_take (i:=11) (v:=?vc11) rfl (by kernel_rfl) (by kernel_rfl) (by kernel_rfl) (fun _ _ _ h=>h) (Or.inl ⟨by kernel_rfl,?yc11⟩) (by assumption) ?rc11
      case yc11=>first | ((intro w hSw; (try dsimp only at hSw); go_simp); done) | ((intro w hSw; (try dsimp only at hSw); go_simp); with_reducible rfl)
      simp only [Act.put,List.getElem_toArray,List.getElem_cons_succ,List.getElem_cons_zero,List.setIfInBounds_toArray,List.set_cons_zero,List.set_cons_succ]
      refine wpAnyH_take (i:=12) (v:=?vc12) rfl (by kernel_rfl) (by kernel_rfl) (by kernel_rfl) (fun _ _ _ h=>h) (Or.inl ⟨by kernel_rfl,?yc12⟩) (by assumption) ?rc12
      case yc12=>first | ((intro w hSw; (try dsimp only at hSw); go_simp); done) | ((intro w hSw; (try dsimp only at hSw); go_simp); with_reducible rfl)
      simp only [Act.put,List.getElem_toArray,List.getElem_cons_succ,List.getElem_cons_zero,List.setIfInBounds_toArray,List.set_cons_zero,List.set_cons_succ]
      refine wpAnyH_take (i:=13) (v:=?vc13) rfl (by kernel_rfl) (by kernel_rfl) (by kernel_rfl) (fun _ _ _ h=>h) (Or.inl ⟨by kernel_rfl,?yc13⟩) (by assumption) ?rc13
      case yc13=>first | ((intro w hSw; (try dsimp only at hSw); go_simp); done) | ((intro w hSw; (try dsimp only at hSw); go_simp); with_reducible rfl)
      simp only [Act.put,List.getElem_toArray,List.getElem_cons_succ,List.getElem_cons_zero,List.setIfInBounds_toArray,List.set_cons_zero,List.set_cons_succ]
      refine wpAnyH_take (i:=14) (v:=undef) rfl (by kernel_rfl) (by kernel_rfl) (by kernel_rfl) (fun _ _ _ h=>h) (Or.inr ⟨by kernel_rfl,rfl⟩) (by assumption) ?_
      simp only [Act.put,List.getElem_toArray,List.getElem_cons_succ,List.getElem_cons_zero,List.setIfInBounds_toArray,List.set_cons_zero,List.set_cons_succ]
      refine wpAnyH_take (i:=15) (v:=undef) rfl (by kernel_rfl) (by kernel_rfl) (by kernel_rfl) (fun _ _ _ h=>h) (Or.inr ⟨by kernel_rfl,rfl⟩) (by assumption) ?_
      simp only [Act.put,List.getElem_toArray,List.getElem_cons_succ,List.getElem_cons_zero,List.setIfInBounds_toArray,List.set_cons_zero,List.set_cons_succ]
      refine wpAnyH_take (i:=16) (v:=undef) rfl (by kernel_rfl) (by kernel_rfl) (by kernel_rfl) (fun _ _ _ h=>h) (Or.inr ⟨by kernel_rfl,rfl⟩) (by assumption) ?_
      simp only [Act.put,List.getElem_toArray,List.getElem_cons_succ,List.getElem_cons_zero,List.setIfInBounds_toArray,List.set_cons_zero,List.set_cons_succ]
      refine wpAnyH_take (i:=17) (v:=?vc17) rfl (by kernel_rfl) (by kernel_rfl) (by kernel_rfl) (fun _ _ _ h=>h) (Or.inl ⟨by kernel_rfl,?yc17⟩) (by assumption) ?rc17
      case yc17=>first | ((intro w hSw; (try dsimp only at hSw); go_simp); done) | ((intro w hSw; (try dsimp only at hSw); go_simp); with_reducible rfl)
      simp only [Act.put,List.getElem_toArray,List.getElem_cons_succ,List.getElem_cons_zero,List.setIfInBounds_toArray,List.set_cons_zero,List.set_cons_succ]
      refine wpAnyH_take (i:=18) (v:=?vc18) rfl (by kernel_rfl) (by kernel_rfl) (by kernel_rfl) (fun _ _ _ h=>h) (Or.inl ⟨by kernel_rfl,?yc18⟩) (by assumption) ?rc18
      case yc18=>first | ((intro w hSw; (try dsimp only at hSw); go_simp); done) | ((intro w hSw; (try dsimp only at hSw); go_simp); with_reducible rfl)
      simp only [Act.put,List.getElem_toArray,List.getElem_cons_succ,List.getElem_cons_zero,List.setIfInBounds_toArray,List.set_cons_zero,List.set_cons_succ]
      refine wpAnyH_take (i:=19) (v:=undef) rfl (by kernel_rfl) (by kernel_rfl) (by kernel_rfl) (fun _ _ _ h=>h) (Or.inr ⟨by kernel_rfl,rfl⟩) (by assumption) ?_
      simp only [Act.put,List.getElem_toArray,List.getElem_cons_succ,List.getElem_cons_zero,List.setIfInBounds_toArray,List.set_cons_zero,List.set_cons_succ]
      refine wpAnyH_take (i:=20) (v:=undef) rfl (by kernel_rfl) (by kernel_rfl) (by kernel_rfl) (fun _ _ _ h=>h) (Or.inr ⟨by kernel_rfl,rfl⟩) (by assumption) ?_
      simp only [Act.put,List.getElem_toArray,List.getElem_cons_succ,List.getElem_cons_zero,List.setIfInBounds_toArray,List.set_cons_zero,List.set_cons_succ]
      refine wpAnyH_take (i:=21) (v:=undef) rfl (by kernel_rfl) (by kernel_rfl) (by kernel_rfl) (fun _ _ _ h=>h) (Or.inr ⟨by kernel_rfl,rfl⟩) (by assumption) ?_
      simp only [Act.put,List.getElem_toArray,List.getElem_cons_succ,List.getElem_cons_zero,List.setIfInBounds_toArray,List.set_cons_zero,List.set_cons_succ]
      refine wpAnyH_take (i:=22) (v:=undef) rfl (by kernel_rfl) (by kernel_rfl) (by kernel_rfl) (fun _ _ _ h=>h) (Or.inr ⟨by kernel_rfl,rfl⟩) (by assumption) ?_
      simp only [Act.put,List.getElem_toArray,List.getElem_cons_succ,List.getElem_cons_zero,List.setIfInBounds_toArray,List.set_cons_zero,List.set_cons_succ]
      refine wpAnyH_take (i:=23) (v:=undef) rfl (by kernel_rfl) (by kernel_rfl) (by kernel_rfl) (fun _ _ _ h=>h) (Or.inr ⟨by kernel_rfl,rfl⟩) (by assumption) ?_
      simp only [Act.put,List.getElem_toArray,List.getElem_cons_succ,List.getElem_cons_zero,List.setIfInBounds_toArray,List.set_cons_zero,List.set_cons_succ]
      refine wpAnyH_take (i:=24) (v:=undef) rfl (by kernel_rfl) (by kernel_rfl) (by kernel_rfl) (fun _ _ _ h=>h) (Or.inr ⟨by kernel_rfl,rfl⟩) (by assumption) ?_
      simp only [Act.put,List.getElem_toArray,List.getElem_cons_succ,List.getElem_cons_zero,List.setIfInBounds_toArray,List.set_cons_zero,List.set_cons_succ]
      refine wpAnyH_take (i:=25) (v:=undef) rfl (by kernel_rfl) (by kernel_rfl) (by kernel_rfl) (fun _ _ _ h=>h) (Or.inr ⟨by kernel_rfl,rfl⟩) (by assumption) ?_
      simp only [Act.put,List.getElem_toArray,List.getElem_cons_succ,List.getElem_cons_zero,List.setIfInBounds_toArray,List.set_cons_zero,List.set_cons_succ]
      refine wpAnyH_take (i:=26) (v:=undef) rfl (by kernel_rfl) (by kernel_rfl) (by kernel_rfl) (fun _ _ _ h=>h) (Or.inr ⟨by kernel_rfl,rfl⟩) (by assumption) ?_
      simp only [Act.put,List.getElem_toArray,List.getElem_cons_succ,List.getElem_cons_zero,List.setIfInBounds_toArray,List.set_cons_zero,List.set_cons_succ]
      refine wpAnyH_take (i:=27) (v:=undef) rfl (by kernel_rfl) (by kernel_rfl) (by kernel_rfl) (fun _ _ _ h=>h) (Or.inr ⟨by kernel_rfl,rfl⟩) (by assumption) ?_
      simp only [Act.put,List.getElem_toArray,List.getElem_cons_succ,List.getElem_cons_zero,List.setIfInBounds_toArray,List.set_cons_zero,List.set_cons_succ]
      refine wpAnyH_take (i:=28) (v:=undef) rfl (by kernel_rfl) (by kernel_rfl) (by kernel_rfl) (fun _ _ _ h=>h) (Or.inr ⟨by kernel_rfl,rfl⟩) (by assumption) ?_
      simp only [Act.put,List.getElem_toArray,List.getElem_cons_succ,List.getElem_cons_zero,List.setIfInBounds_toArray,List.set_cons_zero,List.set_cons_succ]
      refine wpAnyH_take (i:=29) (v:=undef) rfl (by kernel_rfl) (by kernel_rfl) (by kernel_rfl) (fun _ _ _ h=>h) (Or.inr ⟨by kernel_rfl,rfl⟩) (by assumption) ?_
      simp only [Act.put,List.getElem_toArray,List.getElem_cons_succ,List.getElem_cons_zero,List.setIfInBounds_toArray,List.set_cons_zero,List.set_cons_succ]
      refine wpAnyH_take (i:=30) (v:=undef) rfl (by kernel_rfl) (by kernel_rfl) (by kernel_rfl) (fun _ _ _ h=>h) (Or.inr ⟨by kernel_rfl,rfl⟩) (by assumption) ?_
      simp only [Act.put,List.getElem_toArray,List.getElem_cons_succ,List.getElem_cons_zero,List.setIfInBounds_toArray,List.set_cons_zero,List.set_cons_succ]
      refine wpAnyH_take (i:=31) (v:=undef) rfl (by kernel_rfl) (by kernel_rfl) (by kernel_rfl) (fun _ _ _ h=>h) (Or.inr ⟨by kernel_rfl,rfl⟩) (by assumption) ?_
      simp only [Act.put,List.getElem_toArray,List.getElem_cons_succ,List.getElem_cons_zero,List.setIfInBounds_toArray,List.set_cons_zero,List.set_cons_succ]
      refine wpAnyH_take (i:=32) (v:=undef) rfl (by kernel_rfl) (by kernel_rfl) (by kernel_rfl) (fun _ _ _ h=>h) (Or.inr ⟨by kernel_rfl,rfl⟩) (by assumption) ?_
      simp only [Act.put,List.getElem_toArray,List.getElem_cons_succ,List.getElem_cons_zero,List.setIfInBounds_toArray,List.set_cons_zero,List.set_cons_succ]
      refine wpAnyH_take (i:=33) (v:=undef) rfl (by kernel_rfl) (by kernel_rfl) (by kernel_rfl) (fun _ _ _ h=>h) (Or.inr ⟨by kernel_rfl,rfl⟩) (by assumption) ?_
      simp only [Act.put,List.getElem_toArray,List.getElem_cons_succ,List.getElem_cons_zero,List.setIfInBounds_toArray,List.set_cons_zero,List.set_cons_succ]
      refine wpAnyH_take (i:=34) (v:=undef) rfl (by kernel_rfl) (by kernel_rfl) (by kernel_rfl) (fun _ _ _ h=>h) (Or.inr ⟨by kernel_rfl,rfl⟩) (by assumption) ?_
      simp only [Act.put,List.getElem_toArray,List.getElem_cons_succ,List.getElem_cons_zero,List.setIfInBounds_toArray,List.set_cons_zero,List.set_cons_succ]
      refine wpAnyH_take (i:=35) (v:=undef) rfl (by kernel_rfl) (by kernel_rfl) (by kernel_rfl) (fun _ _ _ h=>h) (Or.inr ⟨by kernel_rfl,rfl⟩) (by assumption) ?_
      simp only [Act.put,List.getElem_toArray,List.getElem_cons_succ,List.getElem_cons_zero,List.setIfInBounds_toArray,List.set_cons_zero,List.set_cons_succ]
      refine wpAnyH_take (i:=36) (v:=undef) rfl (by kernel_rfl) (by kernel_rfl) (by kernel_rfl) (fun _ _ _ h=>h) (Or.inr ⟨by kernel_rfl,rfl⟩) (by assumption) ?_
      simp only [Act.put,List.getElem_toArray,List.getElem_cons_succ,List.getElem_cons_zero,List.setIfInBounds_toArray,List.set_cons_zero,List.set_cons_succ]
      refine wpAnyH_take (i:=37) (v:=undef) rfl (by kernel_rfl) (by kernel_rfl) (by kernel_rfl) (fun _ _ _ h=>h) (Or.inr ⟨by kernel_rfl,rfl⟩) (by assumption) ?_
      simp only [Act.put,List.getElem_toArray,List.getElem_cons_succ,List.getElem_cons_zero,List.setIfInBounds_toArray,List.set_cons_zero,List.set_cons_succ]
      refine wpAnyH_take (i:=38) (v:=undef) rfl (by kernel_rfl) (by kernel_rfl) (by kernel_rfl) (fun _ _ _ h=>h) (Or.inr ⟨by kernel_rfl,rfl⟩) (by assumption) ?_
      simp only [Act.put,List.getElem_toArray,List.getElem_cons_succ,List.getElem_cons_zero,List.setIfInBounds_toArray,List.set_cons_zero,List.set_cons_succ]
      refine wpAnyH_take (i:=39) (v:=undef) rfl (by kernel_rfl) (by kernel_rfl) (by kernel_rfl) (fun _ _ _ h=>h) (Or.inr ⟨by kernel_rfl,rfl⟩) (by assumption) ?_
      simp only [Act.put,List.getElem_toArray,List.getElem_cons_succ,List.getElem_cons_zero,List.setIfInBounds_toArray,List.set_cons_zero,List.set_cons_succ]
      refine wpAnyH_take (i:=40) (v:=undef) rfl (by kernel_rfl) (by kernel_rfl) (by kernel_rfl) (fun _ _ _ h=>h) (Or.inr ⟨by kernel_rfl,rfl⟩) (by assumption) ?_
      simp only [Act.put,List.getElem_toArray,List.getElem_cons_succ,List.getElem_cons_zero,List.setIfInBounds_toArray,List.set_cons_zero,List.set_cons_succ]
      refine wpAnyH_take (i:=41) (v:=?vc41) rfl (by kernel_rfl) (by kernel_rfl) (by kernel_rfl) (fun _ _ _ h=>h) (Or.inl ⟨by kernel_rfl,?yc41⟩) (by assumption) ?rc41
      case yc41=>first | ((intro w hSw; (try dsimp only at hSw); go_simp); done) | ((intro w hSw; (try dsimp only at hSw); go_simp); with_reducible rfl)
      simp only [Act.put,List.getElem_toArray,List.getElem_cons_succ,List.getElem_cons_zero,List.setIfInBounds_toArray,List.set_cons_zero,List.set_cons_succ]
      refine wpAnyH_done (by kernel_rfl) ?_ _
      gi_wp2
      exact ⟨⟨i+1,_,_,_,_,rfl,by omega,hIa.keep (hBd),hO'⟩,by simp [intOf]; omega⟩
     by_cases h4:k1 < 1000
     rotate_left
     ·skip
      refine wp_region_held_drew (S:=(fun w'=>w'.cell? ⟨w.heap.size,0,none⟩=some (.int .i64 k0)∧w'.cell? ⟨w.heap.size,1,none⟩=some (.int .i64 k1)∧w'.cell? ⟨w.heap.size,2,none⟩=some (.int .i64 k2)∧w'.cell? ⟨w.heap.size,3,none⟩=some (.int .i64 k3)∧w'.cell? ⟨w.heap.size,4,none⟩=some (.int .i64 k4)∧w'.cell? ⟨w.heap.size,5,none⟩=some (.int .i64 k5)∧w'.cell? ⟨w.heap.size+1+1,2,none⟩=some (.int .i64 cb')∧w'.cell? ⟨w.heap.size+1+1,3,none⟩=some (.int .i64 cm')∧w'.cell? ⟨w.heap.size+1+1,4,none⟩=some (.bool ck')∧Below wa.heap.size wa w')) (by kernel_rfl) ?_ (fun hHeld=>?_)
      ·exact ⟨y0,y1,y2,y3,y4,y5,z2,z3,z4,hBd⟩
      refine wpAnyH_take (i:=0) (v:=?vd0) rfl (by kernel_rfl) (by kernel_rfl) (by kernel_rfl) (fun _ _ _ h=>h) (Or.inl ⟨by kernel_rfl,?yd0⟩) (by assumption) ?rd0
      case yd0=>first | ((intro w hSw; (try dsimp only at hSw); go_simp); done) | ((intro w hSw; (try dsimp only at hSw); go_simp); with_reducible rfl)
      simp only [Act.put,List.getElem_toArray,List.getElem_cons_succ,List.getElem_cons_zero,List.setIfInBounds_toArray,List.set_cons_zero,List.set_cons_succ]
      refine wpAnyH_take (i:=1) (v:=?vd1) rfl (by kernel_rfl) (by kernel_rfl) (by kernel_rfl) (fun _ _ _ h=>h) (Or.inl ⟨by kernel_rfl,?yd1⟩) (by assumption) ?rd1
      case yd1=>first | ((intro w hSw; (try dsimp only at hSw); go_simp); done) | ((intro w hSw; (try dsimp only at hSw); go_simp); with_reducible rfl)
      simp only [Act.put,List.getElem_toArray,List.getElem_cons_succ,List.getElem_cons_zero,List.setIfInBounds_toArray,List.set_cons_zero,List.set_cons_succ]
      refine wpAnyH_take (i:=2) (v:=?vd2) rfl (by kernel_rfl) (by kernel_rfl) (by kernel_rfl) (fun _ _ _ h=>h) (Or.inl ⟨by kernel_rfl,?yd2⟩) (by assumption) ?rd2
      case yd2=>first | ((intro w hSw; (try dsimp only at hSw); go_simp); done) | ((intro w hSw; (try dsimp only at hSw); go_simp); with_reducible rfl)
      simp only [Act.put,List.getElem_toArray,List.getElem_cons_succ,List.getElem_cons_zero,List.setIfInBounds_toArray,List.set_cons_zero,List.set_cons_succ]
      refine wpAnyH_take (i:=3) (v:=?vd3) rfl (by kernel_rfl) (by kernel_rfl) (by kernel_rfl) (fun _ _ _ h=>h) (Or.inl ⟨by kernel_rfl,?yd3⟩) (by assumption) ?rd3
      case yd3=>first | ((intro w hSw; (try dsimp only at hSw); go_simp); done) | ((intro w hSw; (try dsimp only at hSw); go_simp); with_reducible rfl)
      simp only [Act.put,List.getElem_toArray,List.getElem_cons_succ,List.getElem_cons_zero,List.setIfInBounds_toArray,List.set_cons_zero,List.set_cons_succ]
      refine wpAnyH_take (i:=4) (v:=?vd4) rfl (by kernel_rfl) (by kernel_rfl) (by kernel_rfl) (fun _ _ _ h=>h) (Or.inl ⟨by kernel_rfl,?yd4⟩) (by assumption) ?rd4
      case yd4=>first | ((intro w hSw; (try dsimp only at hSw); go_simp); done) | ((intro w hSw; (try dsimp only at hSw); go_simp); with_reducible rfl)
      simp only [Act.put,List.getElem_toArray,List.getElem_cons_succ,List.getElem_cons_zero,List.setIfInBounds_toArray,List.set_cons_zero,List.set_cons_succ]
      refine wpAnyH_take (i:=5) (v:=?vd5) rfl (by kernel_rfl) (by kernel_rfl) (by kernel_rfl) (fun _ _ _ h=>h) (Or.inl ⟨by kernel_rfl,?yd5⟩) (by assumption) ?rd5
      case yd5=>first | ((intro w hSw; (try dsimp only at hSw); go_simp); done) | ((intro w hSw; (try dsimp only at hSw); go_simp); with_reducible rfl)
      simp only [Act.put,List.getElem_toArray,List.getElem_cons_succ,List.getElem_cons_zero,List.setIfInBounds_toArray,List.set_cons_zero,List.set_cons_succ]
      refine wpAnyH_take (i:=6) (v:=?vd6) rfl (by kernel_rfl) (by kernel_rfl) (by kernel_rfl) (fun _ _ _ h=>h) (Or.inl ⟨by kernel_rfl,?yd6⟩) (by assumption) ?rd6
      case yd6=>first | ((intro w hSw; (try dsimp only at hSw); go_simp); done) | ((intro w hSw; (try dsimp only at hSw); go_simp); with_reducible rfl)
      simp only [Act.put,List.getElem_toArray,List.getElem_cons_succ,List.getElem_cons_zero,List.setIfInBounds_toArray,List.set_cons_zero,List.set_cons_succ]
      refine wpAnyH_take (i:=7) (v:=?vd7) rfl (by kernel_rfl) (by kernel_rfl) (by kernel_rfl) (fun _ _ _ h=>h) (Or.inl ⟨by kernel_rfl,?yd7⟩) (by assumption) ?rd7
      case yd7=>first | ((intro w hSw; (try dsimp only at hSw); go_simp); done) | ((intro w hSw; (try dsimp only at hSw); go_simp); with_reducible rfl)
      simp only [Act.put,List.getElem_toArray,List.getElem_cons_succ,List.getElem_cons_zero,List.setIfInBounds_toArray,List.set_cons_zero,List.set_cons_succ]
      refine wpAnyH_take (i:=8) (v:=?vd8) rfl (by kernel_rfl) (by kernel_rfl) (by kernel_rfl) (fun _ _ _ h=>h) (Or.inl ⟨by kernel_rfl,?yd8⟩) (by assumption) ?rd8
      case yd8=>first | ((intro w hSw; (try dsimp only at hSw); go_simp); done) | ((intro w hSw; (try dsimp only at hSw); go_simp); with_reducible rfl)
      simp only [Act.put,List.getElem_toArray,List.getElem_cons_succ,List.getElem_cons_zero,List.setIfInBounds_toArray,List.set_cons_zero,List.set_cons_succ]
      refine wpAnyH_take (i:=9) (v:=?vd9) rfl (by kernel_rfl) (by kernel_rfl) (by kernel_rfl) (fun _ _ _ h=>h) (Or.inl ⟨by kernel_rfl,?yd9⟩) (by assumption) ?rd9
      case yd9=>first | ((intro w hSw; (try dsimp only at hSw); go_simp); done) | ((intro w hSw; (try dsimp only at hSw); go_simp); with_reducible rfl)
      simp only [Act.put,List.getElem_toArray,List.getElem_cons_succ,List.getElem_cons_zero,List.setIfInBounds_toArray,List.set_cons_zero,List.set_cons_succ]
      refine wpAnyH_take (i:=10) (v:=?vd10) rfl (by kernel_rfl) (by kernel_rfl) (by kernel_rfl) (fun _ _ _ h=>h) (Or.inl ⟨by kernel_rfl,?yd10⟩) (by assumption) ?rd10
      case yd10=>first | ((intro w hSw; (try dsimp only at hSw); go_simp); done) | ((intro w hSw; (try dsimp only at hSw); go_simp); with_reducible rfl)
      simp only [Act.put,List.getElem_toArray,List.getElem_cons_succ,List.getElem_cons_zero,List.setIfInBounds_toArray,List.set_cons_zero,List.set_cons_succ]
      refine wpAnyH_take (i:=11) (v:=?vd11) rfl (by kernel_rfl) (by kernel_rfl) (by kernel_rfl) (fun _ _ _ h=>h) (Or.inl ⟨by kernel_rfl,?yd11⟩) (by assumption) ?rd11
      case yd11=>first | ((intro w hSw; (try dsimp only at hSw); go_simp); done) | ((intro w hSw; (try dsimp only at hSw); go_simp); with_reducible rfl)
      simp only [Act.put,List.getElem_toArray,List.getElem_cons_succ,List.getElem_cons_zero,List.setIfInBounds_toArray,List.set_cons_zero,List.set_cons_succ]
      refine wpAnyH_take (i:=12) (v:=?vd12) rfl (by kernel_rfl) (by kernel_rfl) (by kernel_rfl) (fun _ _ _ h=>h) (Or.inl ⟨by kernel_rfl,?yd12⟩) (by assumption) ?rd12
      case yd12=>first | ((intro w hSw; (try dsimp only at hSw); go_simp); done) | ((intro w hSw; (try dsimp only at hSw); go_simp); with_reducible rfl)
      simp only [Act.put,List.getElem_toArray,List.getElem_cons_succ,List.getElem_cons_zero,List.setIfInBounds_toArray,List.set_cons_zero,List.set_cons_succ]
      refine wpAnyH_take (i:=13) (v:=?vd13) rfl (by kernel_rfl) (by kernel_rfl) (by kernel_rfl) (fun _ _ _ h=>h) (Or.inl ⟨by kernel_rfl,?yd13⟩) (by assumption) ?rd13
      case yd13=>first | ((intro w hSw; (try dsimp only at hSw); go_simp); done) | ((intro w hSw; (try dsimp only at hSw); go_simp); with_reducible rfl)
      simp only [Act.put,List.getElem_toArray,List.getElem_cons_succ,List.getElem_cons_zero,List.setIfInBounds_toArray,List.set_cons_zero,List.set_cons_succ]
      refine wpAnyH_take (i:=14) (v:=?vd14) rfl (by kernel_rfl) (by kernel_rfl) (by kernel_rfl) (fun _ _ _ h=>h) (Or.inl ⟨by kernel_rfl,?yd14⟩) (by assumption) ?rd14
      case yd14=>first | ((intro w hSw; (try dsimp only at hSw); go_simp); done) | ((intro w hSw; (try dsimp only at hSw); go_simp); with_reducible rfl)
      simp only [Act.put,List.getElem_toArray,List.getElem_cons_succ,List.getElem_cons_zero,List.setIfInBounds_toArray,List.set_cons_zero,List.set_cons_succ]
      refine wpAnyH_take (i:=15) (v:=?vd15) rfl (by kernel_rfl) (by kernel_rfl) (by kernel_rfl) (fun _ _ _ h=>h) (Or.inl ⟨by kernel_rfl,?yd15⟩) (by assumption) ?rd15
      case yd15=>first | ((intro w hSw; (try dsimp only at hSw); go_simp); done) | ((intro w hSw; (try dsimp only at hSw); go_simp); with_reducible rfl)
      simp only [Act.put,List.getElem_toArray,List.getElem_cons_succ,List.getElem_cons_zero,List.setIfInBounds_toArray,List.set_cons_zero,List.set_cons_succ]
      refine wpAnyH_take (i:=16) (v:=?vd16) rfl (by kernel_rfl) (by kernel_rfl) (by kernel_rfl) (fun _ _ _ h=>h) (Or.inl ⟨by kernel_rfl,?yd16⟩) (by assumption) ?rd16
      case yd16=>first | ((intro w hSw; (try dsimp only at hSw); go_simp); done) | ((intro w hSw; (try dsimp only at hSw); go_simp); with_reducible rfl)
      simp only [Act.put,List.getElem_toArray,List.getElem_cons_succ,List.getElem_cons_zero,List.setIfInBounds_toArray,List.set_cons_zero,List.set_cons_succ]
      refine wpAnyH_take (i:=17) (v:=?vd17) rfl (by kernel_rfl) (by kernel_rfl) (by kernel_rfl) (fun _ _ _ h=>h) (Or.inl ⟨by kernel_rfl,?yd17⟩) (by assumption) ?rd17
      case yd17=>first | ((intro w hSw; (try dsimp only at hSw); go_simp); done) | ((intro w hSw; (try dsimp only at hSw); go_simp); with_reducible rfl)
      simp only [Act.put,List.getElem_toArray,List.getElem_cons_succ,List.getElem_cons_zero,List.setIfInBounds_toArray,List.set_cons_zero,List.set_cons_succ]
      refine wpAnyH_take (i:=18) (v:=?vd18) rfl (by kernel_rfl) (by kernel_rfl) (by kernel_rfl) (fun _ _ _ h=>h) (Or.inl ⟨by kernel_rfl,?yd18⟩) (by assumption) ?rd18
      case yd18=>first | ((intro w hSw; (try dsimp only at hSw); go_simp); done) | ((intro w hSw; (try dsimp only at hSw); go_simp); with_reducible rfl)
      simp only [Act.put,List.getElem_toArray,List.getElem_cons_succ,List.getElem_cons_zero,List.setIfInBounds_toArray,List.set_cons_zero,List.set_cons_succ]
      refine wpAnyH_take (i:=19) (v:=undef) rfl (by kernel_rfl) (by kernel_rfl) (by kernel_rfl) (fun _ _ _ h=>h) (Or.inr ⟨by kernel_rfl,rfl⟩) (by assumption) ?_
      simp only [Act.put,List.getElem_toArray,List.getElem_cons_succ,List.getElem_cons_zero,List.setIfInBounds_toArray,List.set_cons_zero,List.set_cons_succ]
      refine wpAnyH_take (i:=20) (v:=undef) rfl (by kernel_rfl) (by kernel_rfl) (by kernel_rfl) (fun _ _ _ h=>h) (Or.inr ⟨by kernel_rfl,rfl⟩) (by assumption) ?_
      simp only [Act.put,List.getElem_toArray,List.getElem_cons_succ,List.getElem_cons_zero,List.setIfInBounds_toArray,List.set_cons_zero,List.set_cons_succ]
      refine wpAnyH_take (i:=21) (v:=undef) rfl (by kernel_rfl) (by kernel_rfl) (by kernel_rfl) (fun _ _ _ h=>h) (Or.inr ⟨by kernel_rfl,rfl⟩) (by assumption) ?_
      simp only [Act.put,List.getElem_toArray,List.getElem_cons_succ,List.getElem_cons_zero,List.setIfInBounds_toArray,List.set_cons_zero,List.set_cons_succ]
      refine wpAnyH_take (i:=22) (v:=undef) rfl (by kernel_rfl) (by kernel_rfl) (by kernel_rfl) (fun _ _ _ h=>h) (Or.inr ⟨by kernel_rfl,rfl⟩) (by assumption) ?_
      simp only [Act.put,List.getElem_toArray,List.getElem_cons_succ,List.getElem_cons_zero,List.setIfInBounds_toArray,List.set_cons_zero,List.set_cons_succ]
      refine wpAnyH_take (i:=23) (v:=undef) rfl (by kernel_rfl) (by kernel_rfl) (by kernel_rfl) (fun _ _ _ h=>h) (Or.inr ⟨by kernel_rfl,rfl⟩) (by assumption) ?_
      simp only [Act.put,List.getElem_toArray,List.getElem_cons_succ,List.getElem_cons_zero,List.setIfInBounds_toArray,List.set_cons_zero,List.set_cons_succ]
      refine wpAnyH_take (i:=24) (v:=undef) rfl (by kernel_rfl) (by kernel_rfl) (by kernel_rfl) (fun _ _ _ h=>h) (Or.inr ⟨by kernel_rfl,rfl⟩) (by assumption) ?_
      simp only [Act.put,List.getElem_toArray,List.getElem_cons_succ,List.getElem_cons_zero,List.setIfInBounds_toArray,List.set_cons_zero,List.set_cons_succ]
      refine wpAnyH_take (i:=25) (v:=undef) rfl (by kernel_rfl) (by kernel_rfl) (by kernel_rfl) (fun _ _ _ h=>h) (Or.inr ⟨by kernel_rfl,rfl⟩) (by assumption) ?_
      simp only [Act.put,List.getElem_toArray,List.getElem_cons_succ,List.getElem_cons_zero,List.setIfInBounds_toArray,List.set_cons_zero,List.set_cons_succ]
      refine wpAnyH_take (i:=26) (v:=undef) rfl (by kernel_rfl) (by kernel_rfl) (by kernel_rfl) (fun _ _ _ h=>h) (Or.inr ⟨by kernel_rfl,rfl⟩) (by assumption) ?_
      simp only [Act.put,List.getElem_toArray,List.getElem_cons_succ,List.getElem_cons_zero,List.setIfInBounds_toArray,List.set_cons_zero,List.set_cons_succ]
      refine wpAnyH_take (i:=27) (v:=undef) rfl (by kernel_rfl) (by kernel_rfl) (by kernel_rfl) (fun _ _ _ h=>h) (Or.inr ⟨by kernel_rfl,rfl⟩) (by assumption) ?_
      simp only [Act.put,List.getElem_toArray,List.getElem_cons_succ,List.getElem_cons_zero,List.setIfInBounds_toArray,List.set_cons_zero,List.set_cons_succ]
      refine wpAnyH_take (i:=28) (v:=undef) rfl (by kernel_rfl) (by kernel_rfl) (by kernel_rfl) (fun _ _ _ h=>h) (Or.inr ⟨by kernel_rfl,rfl⟩) (by assumption) ?_
      simp only [Act.put,List.getElem_toArray,List.getElem_cons_succ,List.getElem_cons_zero,List.setIfInBounds_toArray,List.set_cons_zero,List.set_cons_succ]
      refine wpAnyH_take (i:=29) (v:=undef) rfl (by kernel_rfl) (by kernel_rfl) (by kernel_rfl) (fun _ _ _ h=>h) (Or.inr ⟨by kernel_rfl,rfl⟩) (by assumption) ?_
      simp only [Act.put,List.getElem_toArray,List.getElem_cons_succ,List.getElem_cons_zero,List.setIfInBounds_toArray,List.set_cons_zero,List.set_cons_succ]
      refine wpAnyH_take (i:=30) (v:=undef) rfl (by kernel_rfl) (by kernel_rfl) (by kernel_rfl) (fun _ _ _ h=>h) (Or.inr ⟨by kernel_rfl,rfl⟩) (by assumption) ?_
      simp only [Act.put,List.getElem_toArray,List.getElem_cons_succ,List.getElem_cons_zero,List.setIfInBounds_toArray,List.set_cons_zero,List.set_cons_succ]
      refine wpAnyH_take (i:=31) (v:=undef) rfl (by kernel_rfl) (by kernel_rfl) (by kernel_rfl) (fun _ _ _ h=>h) (Or.inr ⟨by kernel_rfl,rfl⟩) (by assumption) ?_
      simp only [Act.put,List.getElem_toArray,List.getElem_cons_succ,List.getElem_cons_zero,List.setIfInBounds_toArray,List.set_cons_zero,List.set_cons_succ]
      refine wpAnyH_take (i:=32) (v:=undef) rfl (by kernel_rfl) (by kernel_rfl) (by kernel_rfl) (fun _ _ _ h=>h) (Or.inr ⟨by kernel_rfl,rfl⟩) (by assumption) ?_
      simp only [Act.put,List.getElem_toArray,List.getElem_cons_succ,List.getElem_cons_zero,List.setIfInBounds_toArray,List.set_cons_zero,List.set_cons_succ]
      refine wpAnyH_take (i:=33) (v:=undef) rfl (by kernel_rfl) (by kernel_rfl) (by kernel_rfl) (fun _ _ _ h=>h) (Or.inr ⟨by kernel_rfl,rfl⟩) (by assumption) ?_
      simp only [Act.put,List.getElem_toArray,List.getElem_cons_succ,List.getElem_cons_zero,List.setIfInBounds_toArray,List.set_cons_zero,List.set_cons_succ]
      refine wpAnyH_take (i:=34) (v:=undef) rfl (by kernel_rfl) (by kernel_rfl) (by kernel_rfl) (fun _ _ _ h=>h) (Or.inr ⟨by kernel_rfl,rfl⟩) (by assumption) ?_
      simp only [Act.put,List.getElem_toArray,List.getElem_cons_succ,List.getElem_cons_zero,List.setIfInBounds_toArray,List.set_cons_zero,List.set_cons_succ]
      refine wpAnyH_take (i:=35) (v:=undef) rfl (by kernel_rfl) (by kernel_rfl) (by kernel_rfl) (fun _ _ _ h=>h) (Or.inr ⟨by kernel_rfl,rfl⟩) (by assumption) ?_
      simp only [Act.put,List.getElem_toArray,List.getElem_cons_succ,List.getElem_cons_zero,List.setIfInBounds_toArray,List.set_cons_zero,List.set_cons_succ]
      refine wpAnyH_take (i:=36) (v:=undef) rfl (by kernel_rfl) (by kernel_rfl) (by kernel_rfl) (fun _ _ _ h=>h) (Or.inr ⟨by kernel_rfl,rfl⟩) (by assumption) ?_
      simp only [Act.put,List.getElem_toArray,List.getElem_cons_succ,List.getElem_cons_zero,List.setIfInBounds_toArray,List.set_cons_zero,List.set_cons_succ]
      refine wpAnyH_take (i:=37) (v:=undef) rfl (by kernel_rfl) (by kernel_rfl) (by kernel_rfl) (fun _ _ _ h=>h) (Or.inr ⟨by kernel_rfl,rfl⟩) (by assumption) ?_
      simp only [Act.put,List.getElem_toArray,List.getElem_cons_succ,List.getElem_cons_zero,List.setIfInBounds_toArray,List.set_cons_zero,List.set_cons_succ]
      refine wpAnyH_take (i:=38) (v:=undef) rfl (by kernel_rfl) (by kernel_rfl) (by kernel_rfl) (fun _ _ _ h=>h) (Or.inr ⟨by kernel_rfl,rfl⟩) (by assumption) ?_
      simp only [Act.put,List.getElem_toArray,List.getElem_cons_succ,List.getElem_cons_zero,List.setIfInBounds_toArray,List.set_cons_zero,List.set_cons_succ]
      refine wpAnyH_take (i:=39) (v:=undef) rfl (by kernel_rfl) (by kernel_rfl) (by kernel_rfl) (fun _ _ _ h=>h) (Or.inr ⟨by kernel_rfl,rfl⟩) (by assumption) ?_
      simp only [Act.put,List.getElem_toArray,List.getElem_cons_succ,List.getElem_cons_zero,List.setIfInBounds_toArray,List.set_cons_zero,List.set_cons_succ]
      refine wpAnyH_take (i:=40) (v:=undef) rfl (by kernel_rfl) (by kernel_rfl) (by kernel_rfl) (fun _ _ _ h=>h) (Or.inr ⟨by kernel_rfl,rfl⟩) (by assumption) ?_
      simp only [Act.put,List.getElem_toArray,List.getElem_cons_succ,List.getElem_cons_zero,List.setIfInBounds_toArray,List.set_cons_zero,List.set_cons_succ]
      refine wpAnyH_take (i:=41) (v:=?vd41) rfl (by kernel_rfl) (by kernel_rfl) (by kernel_rfl) (fun _ _ _ h=>h) (Or.inl ⟨by kernel_rfl,?yd41⟩) (by assumption) ?rd41
      case yd41=>first | ((intro w hSw; (try dsimp only at hSw); go_simp); done) | ((intro w hSw; (try dsimp only at hSw); go_simp); with_reducible rfl)
      simp only [Act.put,List.getElem_toArray,List.getElem_cons_succ,List.getElem_cons_zero,List.setIfInBounds_toArray,List.set_cons_zero,List.set_cons_succ]
      refine wpAnyH_done (by kernel_rfl) ?_ _
      gi_wp2
      exact ⟨⟨i+1,_,_,_,_,rfl,by omega,hIa.keep (hBd),hO'⟩,by simp [intOf]; omega⟩
     have hId:=hIa.keep hBd
     have v1:IntKind.i64.wrap (2 * k1)=2 * k1:=IntWalk.i64_in _ (by omega)
     have v2:IntKind.i64.wrap (k2+2 * k1)=k2+2 * k1:=IntWalk.i64_in _ (by omega)
     cases ck'
     case true =>
      have hS6:∀ w',Below wa.heap.size wa w'→(w'.cell? ⟨w.heap.size,0,none⟩=some (.int .i64 k0)∧w'.cell? ⟨w.heap.size,1,none⟩=some (.int .i64 k1)∧w'.cell? ⟨w.heap.size,2,none⟩=some (.int .i64 k2)∧w'.cell? ⟨w.heap.size,3,none⟩=some (.int .i64 k3)∧w'.cell? ⟨w.heap.size,4,none⟩=some (.int .i64 k4)∧w'.cell? ⟨w.heap.size,5,none⟩=some (.int .i64 k5)∧w'.cell? ⟨w.heap.size+1+1,2,none⟩=some (.int .i64 cb')∧w'.cell? ⟨w.heap.size+1+1,3,none⟩=some (.int .i64 cm')∧w'.cell? ⟨w.heap.size+1+1,4,none⟩=some (.bool true)∧Below wa.heap.size wa w'):=by
       intro w' hw'
       have q:=fun (j:Nat) (x:Value) hi=>(hw'.cell (p:=⟨w.heap.size,j,none⟩) (by show w.heap.size < _; omega)).trans (cell_of hIa.cf j x hi)
       have r:=fun (j:Nat) (x:Value) hi=>(hw'.cell (p:=⟨w.heap.size+1+1,j,none⟩) hRl).trans (cell_of hIa.re j x hi)
       exact ⟨q 0 _ rfl,q 1 _ rfl,q 2 _ rfl,q 3 _ rfl,q 4 _ rfl,q 5 _ rfl,r 2 _ rfl,r 3 _ rfl,r 4 _ rfl,hw'⟩
      refine wp_region_held_drew (S:=(fun w'=>w'.cell? ⟨w.heap.size,0,none⟩=some (.int .i64 k0)∧w'.cell? ⟨w.heap.size,1,none⟩=some (.int .i64 k1)∧w'.cell? ⟨w.heap.size,2,none⟩=some (.int .i64 k2)∧w'.cell? ⟨w.heap.size,3,none⟩=some (.int .i64 k3)∧w'.cell? ⟨w.heap.size,4,none⟩=some (.int .i64 k4)∧w'.cell? ⟨w.heap.size,5,none⟩=some (.int .i64 k5)∧w'.cell? ⟨w.heap.size+1+1,2,none⟩=some (.int .i64 cb')∧w'.cell? ⟨w.heap.size+1+1,3,none⟩=some (.int .i64 cm')∧w'.cell? ⟨w.heap.size+1+1,4,none⟩=some (.bool true)∧Below wa.heap.size wa w')) (by kernel_rfl) ?_ (fun hHeld=>?_)
      ·exact ⟨y0,y1,y2,y3,y4,y5,z2,z3,z4,hBd⟩
      refine wpAnyH_take (i:=0) (v:=?ve0) rfl (by kernel_rfl) (by kernel_rfl) (by kernel_rfl) (fun _ _ _ h=>h) (Or.inl ⟨by kernel_rfl,?ye0⟩) (by assumption) ?re0
      case ye0=>first | ((intro w hSw; (try dsimp only at hSw); go_simp); done) | ((intro w hSw; (try dsimp only at hSw); go_simp); with_reducible rfl)
      simp only [Act.put,List.getElem_toArray,List.getElem_cons_succ,List.getElem_cons_zero,List.setIfInBounds_toArray,List.set_cons_zero,List.set_cons_succ]
      refine wpAnyH_take (i:=1) (v:=?ve1) rfl (by kernel_rfl) (by kernel_rfl) (by kernel_rfl) (fun _ _ _ h=>h) (Or.inl ⟨by kernel_rfl,?ye1⟩) (by assumption) ?re1
      case ye1=>first | ((intro w hSw; (try dsimp only at hSw); go_simp); done) | ((intro w hSw; (try dsimp only at hSw); go_simp); with_reducible rfl)
      simp only [Act.put,List.getElem_toArray,List.getElem_cons_succ,List.getElem_cons_zero,List.setIfInBounds_toArray,List.set_cons_zero,List.set_cons_succ]
      refine wpAnyH_take (i:=2) (v:=?ve2) rfl (by kernel_rfl) (by kernel_rfl) (by kernel_rfl) (fun _ _ _ h=>h) (Or.inl ⟨by kernel_rfl,?ye2⟩) (by assumption) ?re2
      case ye2=>first | ((intro w hSw; (try dsimp only at hSw); go_simp); done) | ((intro w hSw; (try dsimp only at hSw); go_simp); with_reducible rfl)
      simp only [Act.put,List.getElem_toArray,List.getElem_cons_succ,List.getElem_cons_zero,List.setIfInBounds_toArray,List.set_cons_zero,List.set_cons_succ]
      refine wpAnyH_take (i:=3) (v:=?ve3) rfl (by kernel_rfl) (by kernel_rfl) (by kernel_rfl) (fun _ _ _ h=>h) (Or.inl ⟨by kernel_rfl,?ye3⟩) (by assumption) ?re3
      case ye3=>first | ((intro w hSw; (try dsimp only at hSw); go_simp); done) | ((intro w hSw; (try dsimp only at hSw); go_simp); with_reducible rfl)
      simp only [Act.put,List.getElem_toArray,List.getElem_cons_succ,List.getElem_cons_zero,List.setIfInBounds_toArray,List.set_cons_zero,List.set_cons_succ]
      refine wpAnyH_take (i:=4) (v:=?ve4) rfl (by kernel_rfl) (by kernel_rfl) (by kernel_rfl) (fun _ _ _ h=>h) (Or.inl ⟨by kernel_rfl,?ye4⟩) (by assumption) ?re4
      case ye4=>first | ((intro w hSw; (try dsimp only at hSw); go_simp); done) | ((intro w hSw; (try dsimp only at hSw); go_simp); with_reducible rfl)
      simp only [Act.put,List.getElem_toArray,List.getElem_cons_succ,List.getElem_cons_zero,List.setIfInBounds_toArray,List.set_cons_zero,List.set_cons_succ]
      refine wpAnyH_take (i:=5) (v:=?ve5) rfl (by kernel_rfl) (by kernel_rfl) (by kernel_rfl) (fun _ _ _ h=>h) (Or.inl ⟨by kernel_rfl,?ye5⟩) (by assumption) ?re5
      case ye5=>first | ((intro w hSw; (try dsimp only at hSw); go_simp); done) | ((intro w hSw; (try dsimp only at hSw); go_simp); with_reducible rfl)
      simp only [Act.put,List.getElem_toArray,List.getElem_cons_succ,List.getElem_cons_zero,List.setIfInBounds_toArray,List.set_cons_zero,List.set_cons_succ]
      refine wpAnyH_take (i:=6) (v:=?ve6) rfl (by kernel_rfl) (by kernel_rfl) (by kernel_rfl) (fun _ _ _ h=>h) (Or.inl ⟨by kernel_rfl,?ye6⟩) (by assumption) ?re6
      case ye6=>first | ((intro w hSw; (try dsimp only at hSw); go_simp); done) | ((intro w hSw; (try dsimp only at hSw); go_simp); with_reducible rfl)
      simp only [Act.put,List.getElem_toArray,List.getElem_cons_succ,List.getElem_cons_zero,List.setIfInBounds_toArray,List.set_cons_zero,List.set_cons_succ]
      refine wpAnyH_take (i:=7) (v:=?ve7) rfl (by kernel_rfl) (by kernel_rfl) (by kernel_rfl) (fun _ _ _ h=>h) (Or.inl ⟨by kernel_rfl,?ye7⟩) (by assumption) ?re7
      case ye7=>first | ((intro w hSw; (try dsimp only at hSw); go_simp); done) | ((intro w hSw; (try dsimp only at hSw); go_simp); with_reducible rfl)
      simp only [Act.put,List.getElem_toArray,List.getElem_cons_succ,List.getElem_cons_zero,List.setIfInBounds_toArray,List.set_cons_zero,List.set_cons_succ]
      refine wpAnyH_take (i:=8) (v:=?ve8) rfl (by kernel_rfl) (by kernel_rfl) (by kernel_rfl) (fun _ _ _ h=>h) (Or.inl ⟨by kernel_rfl,?ye8⟩) (by assumption) ?re8
      case ye8=>first | ((intro w hSw; (try dsimp only at hSw); go_simp); done) | ((intro w hSw; (try dsimp only at hSw); go_simp); with_reducible rfl)
      simp only [Act.put,List.getElem_toArray,List.getElem_cons_succ,List.getElem_cons_zero,List.setIfInBounds_toArray,List.set_cons_zero,List.set_cons_succ]
      refine wpAnyH_take (i:=9) (v:=?ve9) rfl (by kernel_rfl) (by kernel_rfl) (by kernel_rfl) (fun _ _ _ h=>h) (Or.inl ⟨by kernel_rfl,?ye9⟩) (by assumption) ?re9
      case ye9=>first | ((intro w hSw; (try dsimp only at hSw); go_simp); done) | ((intro w hSw; (try dsimp only at hSw); go_simp); with_reducible rfl)
      simp only [Act.put,List.getElem_toArray,List.getElem_cons_succ,List.getElem_cons_zero,List.setIfInBounds_toArray,List.set_cons_zero,List.set_cons_succ]
      refine wpAnyH_take (i:=10) (v:=?ve10) rfl (by kernel_rfl) (by kernel_rfl) (by kernel_rfl) (fun _ _ _ h=>h) (Or.inl ⟨by kernel_rfl,?ye10⟩) (by assumption) ?re10
      case ye10=>first | ((intro w hSw; (try dsimp only at hSw); go_simp); done) | ((intro w hSw; (try dsimp only at hSw); go_simp); with_reducible rfl)
      simp only [Act.put,List.getElem_toArray,List.getElem_cons_succ,List.getElem_cons_zero,List.setIfInBounds_toArray,List.set_cons_zero,List.set_cons_succ]
      refine wpAnyH_take (i:=11) (v:=?ve11) rfl (by kernel_rfl) (by kernel_rfl) (by kernel_rfl) (fun _ _ _ h=>h) (Or.inl ⟨by kernel_rfl,?ye11⟩) (by assumption) ?re11
      case ye11=>first | ((intro w hSw; (try dsimp only at hSw); go_simp); done) | ((intro w hSw; (try dsimp only at hSw); go_simp); with_reducible rfl)
      simp only [Act.put,List.getElem_toArray,List.getElem_cons_succ,List.getElem_cons_zero,List.setIfInBounds_toArray,List.set_cons_zero,List.set_cons_succ]
      refine wpAnyH_take (i:=12) (v:=?ve12) rfl (by kernel_rfl) (by kernel_rfl) (by kernel_rfl) (fun _ _ _ h=>h) (Or.inl ⟨by kernel_rfl,?ye12⟩) (by assumption) ?re12
      case ye12=>first | ((intro w hSw; (try dsimp only at hSw); go_simp); done) | ((intro w hSw; (try dsimp only at hSw); go_simp); with_reducible rfl)
      simp only [Act.put,List.getElem_toArray,List.getElem_cons_succ,List.getElem_cons_zero,List.setIfInBounds_toArray,List.set_cons_zero,List.set_cons_succ]
      refine wpAnyH_take (i:=13) (v:=?ve13) rfl (by kernel_rfl) (by kernel_rfl) (by kernel_rfl) (fun _ _ _ h=>h) (Or.inl ⟨by kernel_rfl,?ye13⟩) (by assumption) ?re13
      case ye13=>first | ((intro w hSw; (try dsimp only at hSw); go_simp); done) | ((intro w hSw; (try dsimp only at hSw); go_simp); with_reducible rfl)
      simp only [Act.put,List.getElem_toArray,List.getElem_cons_succ,List.getElem_cons_zero,List.setIfInBounds_toArray,List.set_cons_zero,List.set_cons_succ]
      refine wpAnyH_take (i:=14) (v:=?ve14) rfl (by kernel_rfl) (by kernel_rfl) (by kernel_rfl) (fun _ _ _ h=>h) (Or.inl ⟨by kernel_rfl,?ye14⟩) (by assumption) ?re14
      case ye14=>first | ((intro w hSw; (try dsimp only at hSw); go_simp); done) | ((intro w hSw; (try dsimp only at hSw); go_simp); with_reducible rfl)
      simp only [Act.put,List.getElem_toArray,List.getElem_cons_succ,List.getElem_cons_zero,List.setIfInBounds_toArray,List.set_cons_zero,List.set_cons_succ]
      refine wpAnyH_take (i:=15) (v:=?ve15) rfl (by kernel_rfl) (by kernel_rfl) (by kernel_rfl) (fun _ _ _ h=>h) (Or.inl ⟨by kernel_rfl,?ye15⟩) (by assumption) ?re15
      case ye15=>first | ((intro w hSw; (try dsimp only at hSw); go_simp); done) | ((intro w hSw; (try dsimp only at hSw); go_simp); with_reducible rfl)
      simp only [Act.put,List.getElem_toArray,List.getElem_cons_succ,List.getElem_cons_zero,List.setIfInBounds_toArray,List.set_cons_zero,List.set_cons_succ]
      refine wpAnyH_take (i:=16) (v:=?ve16) rfl (by kernel_rfl) (by kernel_rfl) (by kernel_rfl) (fun _ _ _ h=>h) (Or.inl ⟨by kernel_rfl,?ye16⟩) (by assumption) ?re16
      case ye16=>first | ((intro w hSw; (try dsimp only at hSw); go_simp); done) | ((intro w hSw; (try dsimp only at hSw); go_simp); with_reducible rfl)
      simp only [Act.put,List.getElem_toArray,List.getElem_cons_succ,List.getElem_cons_zero,List.setIfInBounds_toArray,List.set_cons_zero,List.set_cons_succ]
      refine wpAnyH_take (i:=17) (v:=?ve17) rfl (by kernel_rfl) (by kernel_rfl) (by kernel_rfl) (fun _ _ _ h=>h) (Or.inl ⟨by kernel_rfl,?ye17⟩) (by assumption) ?re17
      case ye17=>first | ((intro w hSw; (try dsimp only at hSw); go_simp); done) | ((intro w hSw; (try dsimp only at hSw); go_simp); with_reducible rfl)
      simp only [Act.put,List.getElem_toArray,List.getElem_cons_succ,List.getElem_cons_zero,List.setIfInBounds_toArray,List.set_cons_zero,List.set_cons_succ]
      refine wpAnyH_take (i:=18) (v:=?ve18) rfl (by kernel_rfl) (by kernel_rfl) (by kernel_rfl) (fun _ _ _ h=>h) (Or.inl ⟨by kernel_rfl,?ye18⟩) (by assumption) ?re18
      case ye18=>first | ((intro w hSw; (try dsimp only at hSw); go_simp); done) | ((intro w hSw; (try dsimp only at hSw); go_simp); with_reducible rfl)
      simp only [Act.put,List.getElem_toArray,List.getElem_cons_succ,List.getElem_cons_zero,List.setIfInBounds_toArray,List.set_cons_zero,List.set_cons_succ]
      refine wpAnyH_take (i:=19) (v:=?ve19) rfl (by kernel_rfl) (by kernel_rfl) (by kernel_rfl) (fun _ _ _ h=>h) (Or.inl ⟨by kernel_rfl,?ye19⟩) (by assumption) ?re19
      case ye19=>first | ((intro w hSw; (try dsimp only at hSw); go_simp); done) | ((intro w hSw; (try dsimp only at hSw); go_simp); with_reducible rfl)
      simp only [Act.put,List.getElem_toArray,List.getElem_cons_succ,List.getElem_cons_zero,List.setIfInBounds_toArray,List.set_cons_zero,List.set_cons_succ]
      refine wpAnyH_take (i:=21) (v:=?ve21) rfl (by kernel_rfl) (by kernel_rfl) (by kernel_rfl) (fun _ _ _ h=>h) (Or.inl ⟨by kernel_rfl,?ye21⟩) (by assumption) ?re21
      case ye21=>first | ((intro w hSw; (try dsimp only at hSw); go_simp); done) | ((intro w hSw; (try dsimp only at hSw); go_simp); with_reducible rfl)
      simp only [Act.put,List.getElem_toArray,List.getElem_cons_succ,List.getElem_cons_zero,List.setIfInBounds_toArray,List.set_cons_zero,List.set_cons_succ]
      refine wpAnyH_take (i:=22) (v:=?ve22) rfl (by kernel_rfl) (by kernel_rfl) (by kernel_rfl) (fun _ _ _ h=>h) (Or.inl ⟨by kernel_rfl,?ye22⟩) (by assumption) ?re22
      case ye22=>first | ((intro w hSw; (try dsimp only at hSw); go_simp); done) | ((intro w hSw; (try dsimp only at hSw); go_simp); with_reducible rfl)
      simp only [Act.put,List.getElem_toArray,List.getElem_cons_succ,List.getElem_cons_zero,List.setIfInBounds_toArray,List.set_cons_zero,List.set_cons_succ]
      refine wpAnyH_take (i:=23) (v:=?ve23) rfl (by kernel_rfl) (by kernel_rfl) (by kernel_rfl) (fun _ _ _ h=>h) (Or.inl ⟨by kernel_rfl,?ye23⟩) (by assumption) ?re23
      case ye23=>first | ((intro w hSw; (try dsimp only at hSw); go_simp); done) | ((intro w hSw; (try dsimp only at hSw); go_simp); with_reducible rfl)
      simp only [Act.put,List.getElem_toArray,List.getElem_cons_succ,List.getElem_cons_zero,List.setIfInBounds_toArray,List.set_cons_zero,List.set_cons_succ]
      refine wpAnyH_ready (rs:=[20]) (by kernel_rfl) (by simp) ?_
      refine AllReadyH.cons rfl (fun K hK=>?_) ?_
      rotate_left
      ·exact AllReadyH.nil
      go_simp
      have hcon:=callsIn_wide.1 (wFits_in 0 (w.heap.size+1) _ ⟨cs',cb',cm',true⟩ (.int .i64 k0) (.int .i64 0) (.int .i64 0) (.int .i64 k3) (.int .i64 k4) (.int .i64 k5) k2 k1 wa.drew hId.wa ⟨h1,h3⟩ ⟨h2,h4⟩)
      (with_reducible refine hcon.mono ?_)
      clear hcon
      rintro e wb ⟨he,hbb⟩
      replace he:e=.returned (.bool false):=by simpa using he
      subst he
      dsimp only
      have hbw:Below wa.heap.size wa wb:=hBd.trans (hbb.mono hBd.size)
      have hSb:=hS6 wb hbw
      refine hK.out _ _ ?_ (fun hHeld=>?_)
      ·exact hSb
      clear hK K
      try simp only [Act.put,List.getElem_toArray,List.getElem_cons_succ,List.getElem_cons_zero,List.setIfInBounds_toArray,List.set_cons_zero,List.set_cons_succ]
      refine wpAnyH_take (i:=24) (v:=?ve224) rfl (by kernel_rfl) (by kernel_rfl) (by kernel_rfl) (fun _ _ _ h=>h) (Or.inl ⟨by kernel_rfl,?ye224⟩) (by assumption) ?re224
      case ye224=>first | ((intro w hSw; (try dsimp only at hSw); go_simp); done) | ((intro w hSw; (try dsimp only at hSw); go_simp); with_reducible rfl)
      simp only [Act.put,List.getElem_toArray,List.getElem_cons_succ,List.getElem_cons_zero,List.setIfInBounds_toArray,List.set_cons_zero,List.set_cons_succ]
      refine wpAnyH_take (i:=25) (v:=undef) rfl (by kernel_rfl) (by kernel_rfl) (by kernel_rfl) (fun _ _ _ h=>h) (Or.inr ⟨by kernel_rfl,rfl⟩) (by assumption) ?_
      simp only [Act.put,List.getElem_toArray,List.getElem_cons_succ,List.getElem_cons_zero,List.setIfInBounds_toArray,List.set_cons_zero,List.set_cons_succ]
      refine wpAnyH_take (i:=26) (v:=undef) rfl (by kernel_rfl) (by kernel_rfl) (by kernel_rfl) (fun _ _ _ h=>h) (Or.inr ⟨by kernel_rfl,rfl⟩) (by assumption) ?_
      simp only [Act.put,List.getElem_toArray,List.getElem_cons_succ,List.getElem_cons_zero,List.setIfInBounds_toArray,List.set_cons_zero,List.set_cons_succ]
      refine wpAnyH_take (i:=27) (v:=undef) rfl (by kernel_rfl) (by kernel_rfl) (by kernel_rfl) (fun _ _ _ h=>h) (Or.inr ⟨by kernel_rfl,rfl⟩) (by assumption) ?_
      simp only [Act.put,List.getElem_toArray,List.getElem_cons_succ,List.getElem_cons_zero,List.setIfInBounds_toArray,List.set_cons_zero,List.set_cons_succ]
      refine wpAnyH_take (i:=28) (v:=?ve228) rfl (by kernel_rfl) (by kernel_rfl) (by kernel_rfl) (fun _ _ _ h=>h) (Or.inl ⟨by kernel_rfl,?ye228⟩) (by assumption) ?re228
      case ye228=>first | ((intro w hSw; (try dsimp only at hSw); go_simp); done) | ((intro w hSw; (try dsimp only at hSw); go_simp); with_reducible rfl)
      simp only [Act.put,List.getElem_toArray,List.getElem_cons_succ,List.getElem_cons_zero,List.setIfInBounds_toArray,List.set_cons_zero,List.set_cons_succ]
      refine wpAnyH_take (i:=29) (v:=?ve229) rfl (by kernel_rfl) (by kernel_rfl) (by kernel_rfl) (fun _ _ _ h=>h) (Or.inl ⟨by kernel_rfl,?ye229⟩) (by assumption) ?re229
      case ye229=>first | ((intro w hSw; (try dsimp only at hSw); go_simp); done) | ((intro w hSw; (try dsimp only at hSw); go_simp); with_reducible rfl)
      simp only [Act.put,List.getElem_toArray,List.getElem_cons_succ,List.getElem_cons_zero,List.setIfInBounds_toArray,List.set_cons_zero,List.set_cons_succ]
      refine wpAnyH_take (i:=30) (v:=undef) rfl (by kernel_rfl) (by kernel_rfl) (by kernel_rfl) (fun _ _ _ h=>h) (Or.inr ⟨by kernel_rfl,rfl⟩) (by assumption) ?_
      simp only [Act.put,List.getElem_toArray,List.getElem_cons_succ,List.getElem_cons_zero,List.setIfInBounds_toArray,List.set_cons_zero,List.set_cons_succ]
      refine wpAnyH_take (i:=31) (v:=undef) rfl (by kernel_rfl) (by kernel_rfl) (by kernel_rfl) (fun _ _ _ h=>h) (Or.inr ⟨by kernel_rfl,rfl⟩) (by assumption) ?_
      simp only [Act.put,List.getElem_toArray,List.getElem_cons_succ,List.getElem_cons_zero,List.setIfInBounds_toArray,List.set_cons_zero,List.set_cons_succ]
      refine wpAnyH_take (i:=32) (v:=undef) rfl (by kernel_rfl) (by kernel_rfl) (by kernel_rfl) (fun _ _ _ h=>h) (Or.inr ⟨by kernel_rfl,rfl⟩) (by assumption) ?_
      simp only [Act.put,List.getElem_toArray,List.getElem_cons_succ,List.getElem_cons_zero,List.setIfInBounds_toArray,List.set_cons_zero,List.set_cons_succ]
      refine wpAnyH_take (i:=33) (v:=undef) rfl (by kernel_rfl) (by kernel_rfl) (by kernel_rfl) (fun _ _ _ h=>h) (Or.inr ⟨by kernel_rfl,rfl⟩) (by assumption) ?_
      simp only [Act.put,List.getElem_toArray,List.getElem_cons_succ,List.getElem_cons_zero,List.setIfInBounds_toArray,List.set_cons_zero,List.set_cons_succ]
      refine wpAnyH_take (i:=34) (v:=undef) rfl (by kernel_rfl) (by kernel_rfl) (by kernel_rfl) (fun _ _ _ h=>h) (Or.inr ⟨by kernel_rfl,rfl⟩) (by assumption) ?_
      simp only [Act.put,List.getElem_toArray,List.getElem_cons_succ,List.getElem_cons_zero,List.setIfInBounds_toArray,List.set_cons_zero,List.set_cons_succ]
      refine wpAnyH_take (i:=35) (v:=undef) rfl (by kernel_rfl) (by kernel_rfl) (by kernel_rfl) (fun _ _ _ h=>h) (Or.inr ⟨by kernel_rfl,rfl⟩) (by assumption) ?_
      simp only [Act.put,List.getElem_toArray,List.getElem_cons_succ,List.getElem_cons_zero,List.setIfInBounds_toArray,List.set_cons_zero,List.set_cons_succ]
      refine wpAnyH_take (i:=36) (v:=undef) rfl (by kernel_rfl) (by kernel_rfl) (by kernel_rfl) (fun _ _ _ h=>h) (Or.inr ⟨by kernel_rfl,rfl⟩) (by assumption) ?_
      simp only [Act.put,List.getElem_toArray,List.getElem_cons_succ,List.getElem_cons_zero,List.setIfInBounds_toArray,List.set_cons_zero,List.set_cons_succ]
      refine wpAnyH_take (i:=37) (v:=undef) rfl (by kernel_rfl) (by kernel_rfl) (by kernel_rfl) (fun _ _ _ h=>h) (Or.inr ⟨by kernel_rfl,rfl⟩) (by assumption) ?_
      simp only [Act.put,List.getElem_toArray,List.getElem_cons_succ,List.getElem_cons_zero,List.setIfInBounds_toArray,List.set_cons_zero,List.set_cons_succ]
      refine wpAnyH_take (i:=38) (v:=undef) rfl (by kernel_rfl) (by kernel_rfl) (by kernel_rfl) (fun _ _ _ h=>h) (Or.inr ⟨by kernel_rfl,rfl⟩) (by assumption) ?_
      simp only [Act.put,List.getElem_toArray,List.getElem_cons_succ,List.getElem_cons_zero,List.setIfInBounds_toArray,List.set_cons_zero,List.set_cons_succ]
      refine wpAnyH_take (i:=39) (v:=?ve239) rfl (by kernel_rfl) (by kernel_rfl) (by kernel_rfl) (fun _ _ _ h=>h) (Or.inl ⟨by kernel_rfl,?ye239⟩) (by assumption) ?re239
      case ye239=>first | ((intro w hSw; (try dsimp only at hSw); go_simp); done) | ((intro w hSw; (try dsimp only at hSw); go_simp); with_reducible rfl)
      simp only [Act.put,List.getElem_toArray,List.getElem_cons_succ,List.getElem_cons_zero,List.setIfInBounds_toArray,List.set_cons_zero,List.set_cons_succ]
      refine wpAnyH_take (i:=40) (v:=?ve240) rfl (by kernel_rfl) (by kernel_rfl) (by kernel_rfl) (fun _ _ _ h=>h) (Or.inl ⟨by kernel_rfl,?ye240⟩) (by assumption) ?re240
      case ye240=>first | ((intro w hSw; (try dsimp only at hSw); go_simp); done) | ((intro w hSw; (try dsimp only at hSw); go_simp); with_reducible rfl)
      simp only [Act.put,List.getElem_toArray,List.getElem_cons_succ,List.getElem_cons_zero,List.setIfInBounds_toArray,List.set_cons_zero,List.set_cons_succ]
      refine wpAnyH_take (i:=41) (v:=?ve241) rfl (by kernel_rfl) (by kernel_rfl) (by kernel_rfl) (fun _ _ _ h=>h) (Or.inl ⟨by kernel_rfl,?ye241⟩) (by assumption) ?re241
      case ye241=>first | ((intro w hSw; (try dsimp only at hSw); go_simp); done) | ((intro w hSw; (try dsimp only at hSw); go_simp); with_reducible rfl)
      simp only [Act.put,List.getElem_toArray,List.getElem_cons_succ,List.getElem_cons_zero,List.setIfInBounds_toArray,List.set_cons_zero,List.set_cons_succ]
      refine wpAnyH_done (by kernel_rfl) ?_ _
      gi_wp2
      exact ⟨⟨i+1,_,_,_,_,rfl,by omega,hIa.keep (hbw),hO'⟩,by simp [intOf]; omega⟩
     case false =>
      by_cases h5:cm'≤1
      ·skip
       have hS6:∀ w',Below wa.heap.size wa w'→(w'.cell? ⟨w.heap.size,0,none⟩=some (.int .i64 k0)∧w'.cell? ⟨w.heap.size,1,none⟩=some (.int .i64 k1)∧w'.cell? ⟨w.heap.size,2,none⟩=some (.int .i64 k2)∧w'.cell? ⟨w.heap.size,3,none⟩=some (.int .i64 k3)∧w'.cell? ⟨w.heap.size,4,none⟩=some (.int .i64 k4)∧w'.cell? ⟨w.heap.size,5,none⟩=some (.int .i64 k5)∧w'.cell? ⟨w.heap.size+1+1,2,none⟩=some (.int .i64 cb')∧w'.cell? ⟨w.heap.size+1+1,3,none⟩=some (.int .i64 cm')∧w'.cell? ⟨w.heap.size+1+1,4,none⟩=some (.bool false)∧Below wa.heap.size wa w'):=by
        intro w' hw'
        have q:=fun (j:Nat) (x:Value) hi=>(hw'.cell (p:=⟨w.heap.size,j,none⟩) (by show w.heap.size < _; omega)).trans (cell_of hIa.cf j x hi)
        have r:=fun (j:Nat) (x:Value) hi=>(hw'.cell (p:=⟨w.heap.size+1+1,j,none⟩) hRl).trans (cell_of hIa.re j x hi)
        exact ⟨q 0 _ rfl,q 1 _ rfl,q 2 _ rfl,q 3 _ rfl,q 4 _ rfl,q 5 _ rfl,r 2 _ rfl,r 3 _ rfl,r 4 _ rfl,hw'⟩
       refine wp_region_held_drew (S:=(fun w'=>w'.cell? ⟨w.heap.size,0,none⟩=some (.int .i64 k0)∧w'.cell? ⟨w.heap.size,1,none⟩=some (.int .i64 k1)∧w'.cell? ⟨w.heap.size,2,none⟩=some (.int .i64 k2)∧w'.cell? ⟨w.heap.size,3,none⟩=some (.int .i64 k3)∧w'.cell? ⟨w.heap.size,4,none⟩=some (.int .i64 k4)∧w'.cell? ⟨w.heap.size,5,none⟩=some (.int .i64 k5)∧w'.cell? ⟨w.heap.size+1+1,2,none⟩=some (.int .i64 cb')∧w'.cell? ⟨w.heap.size+1+1,3,none⟩=some (.int .i64 cm')∧w'.cell? ⟨w.heap.size+1+1,4,none⟩=some (.bool false)∧Below wa.heap.size wa w')) (by kernel_rfl) ?_ (fun hHeld=>?_)
       ·exact ⟨y0,y1,y2,y3,y4,y5,z2,z3,z4,hBd⟩
       refine wpAnyH_take (i:=0) (v:=?vf0) rfl (by kernel_rfl) (by kernel_rfl) (by kernel_rfl) (fun _ _ _ h=>h) (Or.inl ⟨by kernel_rfl,?yf0⟩) (by assumption) ?rf0
       case yf0=>first | ((intro w hSw; (try dsimp only at hSw); go_simp); done) | ((intro w hSw; (try dsimp only at hSw); go_simp); with_reducible rfl)
       simp only [Act.put,List.getElem_toArray,List.getElem_cons_succ,List.getElem_cons_zero,List.setIfInBounds_toArray,List.set_cons_zero,List.set_cons_succ]
       refine wpAnyH_take (i:=1) (v:=?vf1) rfl (by kernel_rfl) (by kernel_rfl) (by kernel_rfl) (fun _ _ _ h=>h) (Or.inl ⟨by kernel_rfl,?yf1⟩) (by assumption) ?rf1
       case yf1=>first | ((intro w hSw; (try dsimp only at hSw); go_simp); done) | ((intro w hSw; (try dsimp only at hSw); go_simp); with_reducible rfl)
       simp only [Act.put,List.getElem_toArray,List.getElem_cons_succ,List.getElem_cons_zero,List.setIfInBounds_toArray,List.set_cons_zero,List.set_cons_succ]
       refine wpAnyH_take (i:=2) (v:=?vf2) rfl (by kernel_rfl) (by kernel_rfl) (by kernel_rfl) (fun _ _ _ h=>h) (Or.inl ⟨by kernel_rfl,?yf2⟩) (by assumption) ?rf2
       case yf2=>first | ((intro w hSw; (try dsimp only at hSw); go_simp); done) | ((intro w hSw; (try dsimp only at hSw); go_simp); with_reducible rfl)
       simp only [Act.put,List.getElem_toArray,List.getElem_cons_succ,List.getElem_cons_zero,List.setIfInBounds_toArray,List.set_cons_zero,List.set_cons_succ]
       refine wpAnyH_take (i:=3) (v:=?vf3) rfl (by kernel_rfl) (by kernel_rfl) (by kernel_rfl) (fun _ _ _ h=>h) (Or.inl ⟨by kernel_rfl,?yf3⟩) (by assumption) ?rf3
       case yf3=>first | ((intro w hSw; (try dsimp only at hSw); go_simp); done) | ((intro w hSw; (try dsimp only at hSw); go_simp); with_reducible rfl)
       simp only [Act.put,List.getElem_toArray,List.getElem_cons_succ,List.getElem_cons_zero,List.setIfInBounds_toArray,List.set_cons_zero,List.set_cons_succ]
       refine wpAnyH_take (i:=4) (v:=?vf4) rfl (by kernel_rfl) (by kernel_rfl) (by kernel_rfl) (fun _ _ _ h=>h) (Or.inl ⟨by kernel_rfl,?yf4⟩) (by assumption) ?rf4
       case yf4=>first | ((intro w hSw; (try dsimp only at hSw); go_simp); done) | ((intro w hSw; (try dsimp only at hSw); go_simp); with_reducible rfl)
       simp only [Act.put,List.getElem_toArray,List.getElem_cons_succ,List.getElem_cons_zero,List.setIfInBounds_toArray,List.set_cons_zero,List.set_cons_succ]
       refine wpAnyH_take (i:=5) (v:=?vf5) rfl (by kernel_rfl) (by kernel_rfl) (by kernel_rfl) (fun _ _ _ h=>h) (Or.inl ⟨by kernel_rfl,?yf5⟩) (by assumption) ?rf5
       case yf5=>first | ((intro w hSw; (try dsimp only at hSw); go_simp); done) | ((intro w hSw; (try dsimp only at hSw); go_simp); with_reducible rfl)
       simp only [Act.put,List.getElem_toArray,List.getElem_cons_succ,List.getElem_cons_zero,List.setIfInBounds_toArray,List.set_cons_zero,List.set_cons_succ]
       refine wpAnyH_take (i:=6) (v:=?vf6) rfl (by kernel_rfl) (by kernel_rfl) (by kernel_rfl) (fun _ _ _ h=>h) (Or.inl ⟨by kernel_rfl,?yf6⟩) (by assumption) ?rf6
       case yf6=>first | ((intro w hSw; (try dsimp only at hSw); go_simp); done) | ((intro w hSw; (try dsimp only at hSw); go_simp); with_reducible rfl)
       simp only [Act.put,List.getElem_toArray,List.getElem_cons_succ,List.getElem_cons_zero,List.setIfInBounds_toArray,List.set_cons_zero,List.set_cons_succ]
       refine wpAnyH_take (i:=7) (v:=?vf7) rfl (by kernel_rfl) (by kernel_rfl) (by kernel_rfl) (fun _ _ _ h=>h) (Or.inl ⟨by kernel_rfl,?yf7⟩) (by assumption) ?rf7
       case yf7=>first | ((intro w hSw; (try dsimp only at hSw); go_simp); done) | ((intro w hSw; (try dsimp only at hSw); go_simp); with_reducible rfl)
       simp only [Act.put,List.getElem_toArray,List.getElem_cons_succ,List.getElem_cons_zero,List.setIfInBounds_toArray,List.set_cons_zero,List.set_cons_succ]
       refine wpAnyH_take (i:=8) (v:=?vf8) rfl (by kernel_rfl) (by kernel_rfl) (by kernel_rfl) (fun _ _ _ h=>h) (Or.inl ⟨by kernel_rfl,?yf8⟩) (by assumption) ?rf8
       case yf8=>first | ((intro w hSw; (try dsimp only at hSw); go_simp); done) | ((intro w hSw; (try dsimp only at hSw); go_simp); with_reducible rfl)
       simp only [Act.put,List.getElem_toArray,List.getElem_cons_succ,List.getElem_cons_zero,List.setIfInBounds_toArray,List.set_cons_zero,List.set_cons_succ]
       refine wpAnyH_take (i:=9) (v:=?vf9) rfl (by kernel_rfl) (by kernel_rfl) (by kernel_rfl) (fun _ _ _ h=>h) (Or.inl ⟨by kernel_rfl,?yf9⟩) (by assumption) ?rf9
       case yf9=>first | ((intro w hSw; (try dsimp only at hSw); go_simp); done) | ((intro w hSw; (try dsimp only at hSw); go_simp); with_reducible rfl)
       simp only [Act.put,List.getElem_toArray,List.getElem_cons_succ,List.getElem_cons_zero,List.setIfInBounds_toArray,List.set_cons_zero,List.set_cons_succ]
       refine wpAnyH_take (i:=10) (v:=?vf10) rfl (by kernel_rfl) (by kernel_rfl) (by kernel_rfl) (fun _ _ _ h=>h) (Or.inl ⟨by kernel_rfl,?yf10⟩) (by assumption) ?rf10
       case yf10=>first | ((intro w hSw; (try dsimp only at hSw); go_simp); done) | ((intro w hSw; (try dsimp only at hSw); go_simp); with_reducible rfl)
       simp only [Act.put,List.getElem_toArray,List.getElem_cons_succ,List.getElem_cons_zero,List.setIfInBounds_toArray,List.set_cons_zero,List.set_cons_succ]
       refine wpAnyH_take (i:=11) (v:=?vf11) rfl (by kernel_rfl) (by kernel_rfl) (by kernel_rfl) (fun _ _ _ h=>h) (Or.inl ⟨by kernel_rfl,?yf11⟩) (by assumption) ?rf11
       case yf11=>first | ((intro w hSw; (try dsimp only at hSw); go_simp); done) | ((intro w hSw; (try dsimp only at hSw); go_simp); with_reducible rfl)
       simp only [Act.put,List.getElem_toArray,List.getElem_cons_succ,List.getElem_cons_zero,List.setIfInBounds_toArray,List.set_cons_zero,List.set_cons_succ]
       refine wpAnyH_take (i:=12) (v:=?vf12) rfl (by kernel_rfl) (by kernel_rfl) (by kernel_rfl) (fun _ _ _ h=>h) (Or.inl ⟨by kernel_rfl,?yf12⟩) (by assumption) ?rf12
       case yf12=>first | ((intro w hSw; (try dsimp only at hSw); go_simp); done) | ((intro w hSw; (try dsimp only at hSw); go_simp); with_reducible rfl)
       simp only [Act.put,List.getElem_toArray,List.getElem_cons_succ,List.getElem_cons_zero,List.setIfInBounds_toArray,List.set_cons_zero,List.set_cons_succ]
       refine wpAnyH_take (i:=13) (v:=?vf13) rfl (by kernel_rfl) (by kernel_rfl) (by kernel_rfl) (fun _ _ _ h=>h) (Or.inl ⟨by kernel_rfl,?yf13⟩) (by assumption) ?rf13
       case yf13=>first | ((intro w hSw; (try dsimp only at hSw); go_simp); done) | ((intro w hSw; (try dsimp only at hSw); go_simp); with_reducible rfl)
       simp only [Act.put,List.getElem_toArray,List.getElem_cons_succ,List.getElem_cons_zero,List.setIfInBounds_toArray,List.set_cons_zero,List.set_cons_succ]
       refine wpAnyH_take (i:=14) (v:=?vf14) rfl (by kernel_rfl) (by kernel_rfl) (by kernel_rfl) (fun _ _ _ h=>h) (Or.inl ⟨by kernel_rfl,?yf14⟩) (by assumption) ?rf14
       case yf14=>first | ((intro w hSw; (try dsimp only at hSw); go_simp); done) | ((intro w hSw; (try dsimp only at hSw); go_simp); with_reducible rfl)
       simp only [Act.put,List.getElem_toArray,List.getElem_cons_succ,List.getElem_cons_zero,List.setIfInBounds_toArray,List.set_cons_zero,List.set_cons_succ]
       refine wpAnyH_take (i:=15) (v:=?vf15) rfl (by kernel_rfl) (by kernel_rfl) (by kernel_rfl) (fun _ _ _ h=>h) (Or.inl ⟨by kernel_rfl,?yf15⟩) (by assumption) ?rf15
       case yf15=>first | ((intro w hSw; (try dsimp only at hSw); go_simp); done) | ((intro w hSw; (try dsimp only at hSw); go_simp); with_reducible rfl)
       simp only [Act.put,List.getElem_toArray,List.getElem_cons_succ,List.getElem_cons_zero,List.setIfInBounds_toArray,List.set_cons_zero,List.set_cons_succ]
       refine wpAnyH_take (i:=16) (v:=?vf16) rfl (by kernel_rfl) (by kernel_rfl) (by kernel_rfl) (fun _ _ _ h=>h) (Or.inl ⟨by kernel_rfl,?yf16⟩) (by assumption) ?rf16
       case yf16=>first | ((intro w hSw; (try dsimp only at hSw); go_simp); done) | ((intro w hSw; (try dsimp only at hSw); go_simp); with_reducible rfl)
       simp only [Act.put,List.getElem_toArray,List.getElem_cons_succ,List.getElem_cons_zero,List.setIfInBounds_toArray,List.set_cons_zero,List.set_cons_succ]
       refine wpAnyH_take (i:=17) (v:=?vf17) rfl (by kernel_rfl) (by kernel_rfl) (by kernel_rfl) (fun _ _ _ h=>h) (Or.inl ⟨by kernel_rfl,?yf17⟩) (by assumption) ?rf17
       case yf17=>first | ((intro w hSw; (try dsimp only at hSw); go_simp); done) | ((intro w hSw; (try dsimp only at hSw); go_simp); with_reducible rfl)
       simp only [Act.put,List.getElem_toArray,List.getElem_cons_succ,List.getElem_cons_zero,List.setIfInBounds_toArray,List.set_cons_zero,List.set_cons_succ]
       refine wpAnyH_take (i:=18) (v:=?vf18) rfl (by kernel_rfl) (by kernel_rfl) (by kernel_rfl) (fun _ _ _ h=>h) (Or.inl ⟨by kernel_rfl,?yf18⟩) (by assumption) ?rf18
       case yf18=>first | ((intro w hSw; (try dsimp only at hSw); go_simp); done) | ((intro w hSw; (try dsimp only at hSw); go_simp); with_reducible rfl)
       simp only [Act.put,List.getElem_toArray,List.getElem_cons_succ,List.getElem_cons_zero,List.setIfInBounds_toArray,List.set_cons_zero,List.set_cons_succ]
       refine wpAnyH_take (i:=19) (v:=?vf19) rfl (by kernel_rfl) (by kernel_rfl) (by kernel_rfl) (fun _ _ _ h=>h) (Or.inl ⟨by kernel_rfl,?yf19⟩) (by assumption) ?rf19
       case yf19=>first | ((intro w hSw; (try dsimp only at hSw); go_simp); done) | ((intro w hSw; (try dsimp only at hSw); go_simp); with_reducible rfl)
       simp only [Act.put,List.getElem_toArray,List.getElem_cons_succ,List.getElem_cons_zero,List.setIfInBounds_toArray,List.set_cons_zero,List.set_cons_succ]
       refine wpAnyH_take (i:=21) (v:=?vf21) rfl (by kernel_rfl) (by kernel_rfl) (by kernel_rfl) (fun _ _ _ h=>h) (Or.inl ⟨by kernel_rfl,?yf21⟩) (by assumption) ?rf21
       case yf21=>first | ((intro w hSw; (try dsimp only at hSw); go_simp); done) | ((intro w hSw; (try dsimp only at hSw); go_simp); with_reducible rfl)
       simp only [Act.put,List.getElem_toArray,List.getElem_cons_succ,List.getElem_cons_zero,List.setIfInBounds_toArray,List.set_cons_zero,List.set_cons_succ]
       refine wpAnyH_take (i:=22) (v:=?vf22) rfl (by kernel_rfl) (by kernel_rfl) (by kernel_rfl) (fun _ _ _ h=>h) (Or.inl ⟨by kernel_rfl,?yf22⟩) (by assumption) ?rf22
       case yf22=>first | ((intro w hSw; (try dsimp only at hSw); go_simp); done) | ((intro w hSw; (try dsimp only at hSw); go_simp); with_reducible rfl)
       simp only [Act.put,List.getElem_toArray,List.getElem_cons_succ,List.getElem_cons_zero,List.setIfInBounds_toArray,List.set_cons_zero,List.set_cons_succ]
       refine wpAnyH_take (i:=23) (v:=?vf23) rfl (by kernel_rfl) (by kernel_rfl) (by kernel_rfl) (fun _ _ _ h=>h) (Or.inl ⟨by kernel_rfl,?yf23⟩) (by assumption) ?rf23
       case yf23=>first | ((intro w hSw; (try dsimp only at hSw); go_simp); done) | ((intro w hSw; (try dsimp only at hSw); go_simp); with_reducible rfl)
       simp only [Act.put,List.getElem_toArray,List.getElem_cons_succ,List.getElem_cons_zero,List.setIfInBounds_toArray,List.set_cons_zero,List.set_cons_succ]
       refine wpAnyH_ready (rs:=[20]) (by kernel_rfl) (by simp) ?_
       refine AllReadyH.cons rfl (fun K hK=>?_) ?_
       rotate_left
       ·exact AllReadyH.nil
       go_simp
       have hcon:=callsIn_wide.1 (wFits_in 0 (w.heap.size+1) _ ⟨cs',cb',cm',false⟩ (.int .i64 k0) (.int .i64 0) (.int .i64 0) (.int .i64 k3) (.int .i64 k4) (.int .i64 k5) k2 k1 wa.drew hId.wa ⟨h1,h3⟩ ⟨h2,h4⟩)
       (with_reducible refine hcon.mono ?_)
       clear hcon
       rintro e wb ⟨he,hbb⟩
       replace he:e=.returned (.bool (decide (cb'≤k2+2 * k1))):=by simpa [h5] using he
       subst he
       dsimp only
       have hbw:Below wa.heap.size wa wb:=hBd.trans (hbb.mono hBd.size)
       have hSb:=hS6 wb hbw
       refine hK.out _ _ ?_ (fun hHeld=>?_)
       ·exact hSb
       clear hK K
       try simp only [Act.put,List.getElem_toArray,List.getElem_cons_succ,List.getElem_cons_zero,List.setIfInBounds_toArray,List.set_cons_zero,List.set_cons_succ]
       refine wpAnyH_take (i:=24) (v:=?vf224) rfl (by kernel_rfl) (by kernel_rfl) (by kernel_rfl) (fun _ _ _ h=>h) (Or.inl ⟨by kernel_rfl,?yf224⟩) (by assumption) ?rf224
       case yf224=>first | ((intro w hSw; (try dsimp only at hSw); go_simp); done) | ((intro w hSw; (try dsimp only at hSw); go_simp); with_reducible rfl)
       simp only [Act.put,List.getElem_toArray,List.getElem_cons_succ,List.getElem_cons_zero,List.setIfInBounds_toArray,List.set_cons_zero,List.set_cons_succ]
       refine wpAnyH_take (i:=25) (v:=?vf225) rfl (by kernel_rfl) (by kernel_rfl) (by kernel_rfl) (fun _ _ _ h=>h) (Or.inl ⟨by kernel_rfl,?yf225⟩) (by assumption) ?rf225
       case yf225=>first | ((intro w hSw; (try dsimp only at hSw); go_simp); done) | ((intro w hSw; (try dsimp only at hSw); go_simp); with_reducible rfl)
       simp only [Act.put,List.getElem_toArray,List.getElem_cons_succ,List.getElem_cons_zero,List.setIfInBounds_toArray,List.set_cons_zero,List.set_cons_succ]
       refine wpAnyH_take (i:=26) (v:=?vf226) rfl (by kernel_rfl) (by kernel_rfl) (by kernel_rfl) (fun _ _ _ h=>h) (Or.inl ⟨by kernel_rfl,?yf226⟩) (by assumption) ?rf226
       case yf226=>first | ((intro w hSw; (try dsimp only at hSw); go_simp); done) | ((intro w hSw; (try dsimp only at hSw); go_simp); with_reducible rfl)
       simp only [Act.put,List.getElem_toArray,List.getElem_cons_succ,List.getElem_cons_zero,List.setIfInBounds_toArray,List.set_cons_zero,List.set_cons_succ]
       refine wpAnyH_take (i:=27) (v:=?vf227) rfl (by kernel_rfl) (by kernel_rfl) (by kernel_rfl) (fun _ _ _ h=>h) (Or.inl ⟨by kernel_rfl,?yf227⟩) (by assumption) ?rf227
       case yf227=>first | ((intro w hSw; (try dsimp only at hSw); go_simp); done) | ((intro w hSw; (try dsimp only at hSw); go_simp); with_reducible rfl)
       simp only [Act.put,List.getElem_toArray,List.getElem_cons_succ,List.getElem_cons_zero,List.setIfInBounds_toArray,List.set_cons_zero,List.set_cons_succ]
       refine wpAnyH_take (i:=28) (v:=?vf228) rfl (by kernel_rfl) (by kernel_rfl) (by kernel_rfl) (fun _ _ _ h=>h) (Or.inl ⟨by kernel_rfl,?yf228⟩) (by assumption) ?rf228
       case yf228=>first | ((intro w hSw; (try dsimp only at hSw); go_simp); done) | ((intro w hSw; (try dsimp only at hSw); go_simp); with_reducible rfl)
       simp only [Act.put,List.getElem_toArray,List.getElem_cons_succ,List.getElem_cons_zero,List.setIfInBounds_toArray,List.set_cons_zero,List.set_cons_succ]
       refine wpAnyH_take (i:=29) (v:=?vf229) rfl (by kernel_rfl) (by kernel_rfl) (by kernel_rfl) (fun _ _ _ h=>h) (Or.inl ⟨by kernel_rfl,?yf229⟩) (by assumption) ?rf229
       case yf229=>first | ((intro w hSw; (try dsimp only at hSw); go_simp); done) | ((intro w hSw; (try dsimp only at hSw); go_simp); with_reducible rfl)
       simp only [Act.put,List.getElem_toArray,List.getElem_cons_succ,List.getElem_cons_zero,List.setIfInBounds_toArray,List.set_cons_zero,List.set_cons_succ]
       refine wpAnyH_take (i:=30) (v:=?vf230) rfl (by kernel_rfl) (by kernel_rfl) (by kernel_rfl) (fun _ _ _ h=>h) (Or.inl ⟨by kernel_rfl,?yf230⟩) (by assumption) ?rf230
       case yf230=>first | ((intro w hSw; (try dsimp only at hSw); go_simp); done) | ((intro w hSw; (try dsimp only at hSw); go_simp); with_reducible rfl)
       simp only [Act.put,List.getElem_toArray,List.getElem_cons_succ,List.getElem_cons_zero,List.setIfInBounds_toArray,List.set_cons_zero,List.set_cons_succ]
       refine wpAnyH_take (i:=31) (v:=?vf231) rfl (by kernel_rfl) (by kernel_rfl) (by kernel_rfl) (fun _ _ _ h=>h) (Or.inl ⟨by kernel_rfl,?yf231⟩) (by assumption) ?rf231
       case yf231=>first | ((intro w hSw; (try dsimp only at hSw); go_simp); done) | ((intro w hSw; (try dsimp only at hSw); go_simp); with_reducible rfl)
       simp only [Act.put,List.getElem_toArray,List.getElem_cons_succ,List.getElem_cons_zero,List.setIfInBounds_toArray,List.set_cons_zero,List.set_cons_succ]
       refine wpAnyH_take (i:=32) (v:=?vf232) rfl (by kernel_rfl) (by kernel_rfl) (by kernel_rfl) (fun _ _ _ h=>h) (Or.inl ⟨by kernel_rfl,?yf232⟩) (by assumption) ?rf232
       case yf232=>first | ((intro w hSw; (try dsimp only at hSw); go_simp); done) | ((intro w hSw; (try dsimp only at hSw); go_simp); with_reducible rfl)
       simp only [Act.put,List.getElem_toArray,List.getElem_cons_succ,List.getElem_cons_zero,List.setIfInBounds_toArray,List.set_cons_zero,List.set_cons_succ]
       refine wpAnyH_take (i:=33) (v:=?vf233) rfl (by kernel_rfl) (by kernel_rfl) (by kernel_rfl) (fun _ _ _ h=>h) (Or.inl ⟨by kernel_rfl,?yf233⟩) (by assumption) ?rf233
       case yf233=>first | ((intro w hSw; (try dsimp only at hSw); go_simp); done) | ((intro w hSw; (try dsimp only at hSw); go_simp); with_reducible rfl)
       simp only [Act.put,List.getElem_toArray,List.getElem_cons_succ,List.getElem_cons_zero,List.setIfInBounds_toArray,List.set_cons_zero,List.set_cons_succ]
       refine wpAnyH_take (i:=34) (v:=?vf234) rfl (by kernel_rfl) (by kernel_rfl) (by kernel_rfl) (fun _ _ _ h=>h) (Or.inl ⟨by kernel_rfl,?yf234⟩) (by assumption) ?rf234
       case yf234=>first | ((intro w hSw; (try dsimp only at hSw); go_simp); done) | ((intro w hSw; (try dsimp only at hSw); go_simp); with_reducible rfl)
       simp only [Act.put,List.getElem_toArray,List.getElem_cons_succ,List.getElem_cons_zero,List.setIfInBounds_toArray,List.set_cons_zero,List.set_cons_succ]
       refine wpAnyH_take (i:=35) (v:=?vf235) rfl (by kernel_rfl) (by kernel_rfl) (by kernel_rfl) (fun _ _ _ h=>h) (Or.inl ⟨by kernel_rfl,?yf235⟩) (by assumption) ?rf235
       case yf235=>first | ((intro w hSw; (try dsimp only at hSw); go_simp); done) | ((intro w hSw; (try dsimp only at hSw); go_simp); with_reducible rfl)
       simp only [Act.put,List.getElem_toArray,List.getElem_cons_succ,List.getElem_cons_zero,List.setIfInBounds_toArray,List.set_cons_zero,List.set_cons_succ]
       refine wpAnyH_take (i:=36) (v:=?vf236) rfl (by kernel_rfl) (by kernel_rfl) (by kernel_rfl) (fun _ _ _ h=>h) (Or.inl ⟨by kernel_rfl,?yf236⟩) (by assumption) ?rf236
       case yf236=>first | ((intro w hSw; (try dsimp only at hSw); go_simp); done) | ((intro w hSw; (try dsimp only at hSw); go_simp); with_reducible rfl)
       simp only [Act.put,List.getElem_toArray,List.getElem_cons_succ,List.getElem_cons_zero,List.setIfInBounds_toArray,List.set_cons_zero,List.set_cons_succ]
       refine wpAnyH_take (i:=37) (v:=?vf237) rfl (by kernel_rfl) (by kernel_rfl) (by kernel_rfl) (fun _ _ _ h=>h) (Or.inl ⟨by kernel_rfl,?yf237⟩) (by assumption) ?rf237
       case yf237=>first | ((intro w hSw; (try dsimp only at hSw); go_simp); done) | ((intro w hSw; (try dsimp only at hSw); go_simp); with_reducible rfl)
       simp only [Act.put,List.getElem_toArray,List.getElem_cons_succ,List.getElem_cons_zero,List.setIfInBounds_toArray,List.set_cons_zero,List.set_cons_succ]
       refine wpAnyH_take (i:=38) (v:=?vf238) rfl (by kernel_rfl) (by kernel_rfl) (by kernel_rfl) (fun _ _ _ h=>h) (Or.inl ⟨by kernel_rfl,?yf238⟩) (by assumption) ?rf238
       case yf238=>first | ((intro w hSw; (try dsimp only at hSw); go_simp); done) | ((intro w hSw; (try dsimp only at hSw); go_simp); with_reducible rfl)
       simp only [Act.put,List.getElem_toArray,List.getElem_cons_succ,List.getElem_cons_zero,List.setIfInBounds_toArray,List.set_cons_zero,List.set_cons_succ]
       refine wpAnyH_take (i:=39) (v:=?vf239) rfl (by kernel_rfl) (by kernel_rfl) (by kernel_rfl) (fun _ _ _ h=>h) (Or.inl ⟨by kernel_rfl,?yf239⟩) (by assumption) ?rf239
       case yf239=>first | ((intro w hSw; (try dsimp only at hSw); go_simp); done) | ((intro w hSw; (try dsimp only at hSw); go_simp); with_reducible rfl)
       simp only [Act.put,List.getElem_toArray,List.getElem_cons_succ,List.getElem_cons_zero,List.setIfInBounds_toArray,List.set_cons_zero,List.set_cons_succ]
       refine wpAnyH_take (i:=40) (v:=?vf240) rfl (by kernel_rfl) (by kernel_rfl) (by kernel_rfl) (fun _ _ _ h=>h) (Or.inl ⟨by kernel_rfl,?yf240⟩) (by assumption) ?rf240
       case yf240=>first | ((intro w hSw; (try dsimp only at hSw); go_simp); done) | ((intro w hSw; (try dsimp only at hSw); go_simp); with_reducible rfl)
       simp only [Act.put,List.getElem_toArray,List.getElem_cons_succ,List.getElem_cons_zero,List.setIfInBounds_toArray,List.set_cons_zero,List.set_cons_succ]
       refine wpAnyH_take (i:=41) (v:=?vf241) rfl (by kernel_rfl) (by kernel_rfl) (by kernel_rfl) (fun _ _ _ h=>h) (Or.inl ⟨by kernel_rfl,?yf241⟩) (by assumption) ?rf241
       case yf241=>first | ((intro w hSw; (try dsimp only at hSw); go_simp); done) | ((intro w hSw; (try dsimp only at hSw); go_simp); with_reducible rfl)
       simp only [Act.put,List.getElem_toArray,List.getElem_cons_succ,List.getElem_cons_zero,List.setIfInBounds_toArray,List.set_cons_zero,List.set_cons_succ]
       refine wpAnyH_done (by kernel_rfl) ?_ _
       gi_wp2
       exact ⟨⟨i+1,_,_,_,_,rfl,by omega,hIa.keep (hbw),hO'⟩,by simp [intOf]; omega⟩
      ·skip
       have hS6:∀ w',Below wa.heap.size wa w'→(w'.cell? ⟨w.heap.size,0,none⟩=some (.int .i64 k0)∧w'.cell? ⟨w.heap.size,1,none⟩=some (.int .i64 k1)∧w'.cell? ⟨w.heap.size,2,none⟩=some (.int .i64 k2)∧w'.cell? ⟨w.heap.size,3,none⟩=some (.int .i64 k3)∧w'.cell? ⟨w.heap.size,4,none⟩=some (.int .i64 k4)∧w'.cell? ⟨w.heap.size,5,none⟩=some (.int .i64 k5)∧w'.cell? ⟨w.heap.size+1+1,2,none⟩=some (.int .i64 cb')∧w'.cell? ⟨w.heap.size+1+1,3,none⟩=some (.int .i64 cm')∧w'.cell? ⟨w.heap.size+1+1,4,none⟩=some (.bool false)∧Below wa.heap.size wa w'):=by
        intro w' hw'
        have q:=fun (j:Nat) (x:Value) hi=>(hw'.cell (p:=⟨w.heap.size,j,none⟩) (by show w.heap.size < _; omega)).trans (cell_of hIa.cf j x hi)
        have r:=fun (j:Nat) (x:Value) hi=>(hw'.cell (p:=⟨w.heap.size+1+1,j,none⟩) hRl).trans (cell_of hIa.re j x hi)
        exact ⟨q 0 _ rfl,q 1 _ rfl,q 2 _ rfl,q 3 _ rfl,q 4 _ rfl,q 5 _ rfl,r 2 _ rfl,r 3 _ rfl,r 4 _ rfl,hw'⟩
       refine wp_region_held_drew (S:=(fun w'=>w'.cell? ⟨w.heap.size,0,none⟩=some (.int .i64 k0)∧w'.cell? ⟨w.heap.size,1,none⟩=some (.int .i64 k1)∧w'.cell? ⟨w.heap.size,2,none⟩=some (.int .i64 k2)∧w'.cell? ⟨w.heap.size,3,none⟩=some (.int .i64 k3)∧w'.cell? ⟨w.heap.size,4,none⟩=some (.int .i64 k4)∧w'.cell? ⟨w.heap.size,5,none⟩=some (.int .i64 k5)∧w'.cell? ⟨w.heap.size+1+1,2,none⟩=some (.int .i64 cb')∧w'.cell? ⟨w.heap.size+1+1,3,none⟩=some (.int .i64 cm')∧w'.cell? ⟨w.heap.size+1+1,4,none⟩=some (.bool false)∧Below wa.heap.size wa w')) (by kernel_rfl) ?_ (fun hHeld=>?_)
       ·exact ⟨y0,y1,y2,y3,y4,y5,z2,z3,z4,hBd⟩
       refine wpAnyH_take (i:=0) (v:=?vg0) rfl (by kernel_rfl) (by kernel_rfl) (by kernel_rfl) (fun _ _ _ h=>h) (Or.inl ⟨by kernel_rfl,?yg0⟩) (by assumption) ?rg0
       case yg0=>first | ((intro w hSw; (try dsimp only at hSw); go_simp); done) | ((intro w hSw; (try dsimp only at hSw); go_simp); with_reducible rfl)
       simp only [Act.put,List.getElem_toArray,List.getElem_cons_succ,List.getElem_cons_zero,List.setIfInBounds_toArray,List.set_cons_zero,List.set_cons_succ]
       refine wpAnyH_take (i:=1) (v:=?vg1) rfl (by kernel_rfl) (by kernel_rfl) (by kernel_rfl) (fun _ _ _ h=>h) (Or.inl ⟨by kernel_rfl,?yg1⟩) (by assumption) ?rg1
       case yg1=>first | ((intro w hSw; (try dsimp only at hSw); go_simp); done) | ((intro w hSw; (try dsimp only at hSw); go_simp); with_reducible rfl)
       simp only [Act.put,List.getElem_toArray,List.getElem_cons_succ,List.getElem_cons_zero,List.setIfInBounds_toArray,List.set_cons_zero,List.set_cons_succ]
       refine wpAnyH_take (i:=2) (v:=?vg2) rfl (by kernel_rfl) (by kernel_rfl) (by kernel_rfl) (fun _ _ _ h=>h) (Or.inl ⟨by kernel_rfl,?yg2⟩) (by assumption) ?rg2
       case yg2=>first | ((intro w hSw; (try dsimp only at hSw); go_simp); done) | ((intro w hSw; (try dsimp only at hSw); go_simp); with_reducible rfl)
       simp only [Act.put,List.getElem_toArray,List.getElem_cons_succ,List.getElem_cons_zero,List.setIfInBounds_toArray,List.set_cons_zero,List.set_cons_succ]
       refine wpAnyH_take (i:=3) (v:=?vg3) rfl (by kernel_rfl) (by kernel_rfl) (by kernel_rfl) (fun _ _ _ h=>h) (Or.inl ⟨by kernel_rfl,?yg3⟩) (by assumption) ?rg3
       case yg3=>first | ((intro w hSw; (try dsimp only at hSw); go_simp); done) | ((intro w hSw; (try dsimp only at hSw); go_simp); with_reducible rfl)
       simp only [Act.put,List.getElem_toArray,List.getElem_cons_succ,List.getElem_cons_zero,List.setIfInBounds_toArray,List.set_cons_zero,List.set_cons_succ]
       refine wpAnyH_take (i:=4) (v:=?vg4) rfl (by kernel_rfl) (by kernel_rfl) (by kernel_rfl) (fun _ _ _ h=>h) (Or.inl ⟨by kernel_rfl,?yg4⟩) (by assumption) ?rg4
       case yg4=>first | ((intro w hSw; (try dsimp only at hSw); go_simp); done) | ((intro w hSw; (try dsimp only at hSw); go_simp); with_reducible rfl)
       simp only [Act.put,List.getElem_toArray,List.getElem_cons_succ,List.getElem_cons_zero,List.setIfInBounds_toArray,List.set_cons_zero,List.set_cons_succ]
       refine wpAnyH_take (i:=5) (v:=?vg5) rfl (by kernel_rfl) (by kernel_rfl) (by kernel_rfl) (fun _ _ _ h=>h) (Or.inl ⟨by kernel_rfl,?yg5⟩) (by assumption) ?rg5
       case yg5=>first | ((intro w hSw; (try dsimp only at hSw); go_simp); done) | ((intro w hSw; (try dsimp only at hSw); go_simp); with_reducible rfl)
       simp only [Act.put,List.getElem_toArray,List.getElem_cons_succ,List.getElem_cons_zero,List.setIfInBounds_toArray,List.set_cons_zero,List.set_cons_succ]
       refine wpAnyH_take (i:=6) (v:=?vg6) rfl (by kernel_rfl) (by kernel_rfl) (by kernel_rfl) (fun _ _ _ h=>h) (Or.inl ⟨by kernel_rfl,?yg6⟩) (by assumption) ?rg6
       case yg6=>first | ((intro w hSw; (try dsimp only at hSw); go_simp); done) | ((intro w hSw; (try dsimp only at hSw); go_simp); with_reducible rfl)
       simp only [Act.put,List.getElem_toArray,List.getElem_cons_succ,List.getElem_cons_zero,List.setIfInBounds_toArray,List.set_cons_zero,List.set_cons_succ]
       refine wpAnyH_take (i:=7) (v:=?vg7) rfl (by kernel_rfl) (by kernel_rfl) (by kernel_rfl) (fun _ _ _ h=>h) (Or.inl ⟨by kernel_rfl,?yg7⟩) (by assumption) ?rg7
       case yg7=>first | ((intro w hSw; (try dsimp only at hSw); go_simp); done) | ((intro w hSw; (try dsimp only at hSw); go_simp); with_reducible rfl)
       simp only [Act.put,List.getElem_toArray,List.getElem_cons_succ,List.getElem_cons_zero,List.setIfInBounds_toArray,List.set_cons_zero,List.set_cons_succ]
       refine wpAnyH_take (i:=8) (v:=?vg8) rfl (by kernel_rfl) (by kernel_rfl) (by kernel_rfl) (fun _ _ _ h=>h) (Or.inl ⟨by kernel_rfl,?yg8⟩) (by assumption) ?rg8
       case yg8=>first | ((intro w hSw; (try dsimp only at hSw); go_simp); done) | ((intro w hSw; (try dsimp only at hSw); go_simp); with_reducible rfl)
       simp only [Act.put,List.getElem_toArray,List.getElem_cons_succ,List.getElem_cons_zero,List.setIfInBounds_toArray,List.set_cons_zero,List.set_cons_succ]
       refine wpAnyH_take (i:=9) (v:=?vg9) rfl (by kernel_rfl) (by kernel_rfl) (by kernel_rfl) (fun _ _ _ h=>h) (Or.inl ⟨by kernel_rfl,?yg9⟩) (by assumption) ?rg9
       case yg9=>first | ((intro w hSw; (try dsimp only at hSw); go_simp); done) | ((intro w hSw; (try dsimp only at hSw); go_simp); with_reducible rfl)
       simp only [Act.put,List.getElem_toArray,List.getElem_cons_succ,List.getElem_cons_zero,List.setIfInBounds_toArray,List.set_cons_zero,List.set_cons_succ]
       refine wpAnyH_take (i:=10) (v:=?vg10) rfl (by kernel_rfl) (by kernel_rfl) (by kernel_rfl) (fun _ _ _ h=>h) (Or.inl ⟨by kernel_rfl,?yg10⟩) (by assumption) ?rg10
       case yg10=>first | ((intro w hSw; (try dsimp only at hSw); go_simp); done) | ((intro w hSw; (try dsimp only at hSw); go_simp); with_reducible rfl)
       simp only [Act.put,List.getElem_toArray,List.getElem_cons_succ,List.getElem_cons_zero,List.setIfInBounds_toArray,List.set_cons_zero,List.set_cons_succ]
       refine wpAnyH_take (i:=11) (v:=?vg11) rfl (by kernel_rfl) (by kernel_rfl) (by kernel_rfl) (fun _ _ _ h=>h) (Or.inl ⟨by kernel_rfl,?yg11⟩) (by assumption) ?rg11
       case yg11=>first | ((intro w hSw; (try dsimp only at hSw); go_simp); done) | ((intro w hSw; (try dsimp only at hSw); go_simp); with_reducible rfl)
       simp only [Act.put,List.getElem_toArray,List.getElem_cons_succ,List.getElem_cons_zero,List.setIfInBounds_toArray,List.set_cons_zero,List.set_cons_succ]
       refine wpAnyH_take (i:=12) (v:=?vg12) rfl (by kernel_rfl) (by kernel_rfl) (by kernel_rfl) (fun _ _ _ h=>h) (Or.inl ⟨by kernel_rfl,?yg12⟩) (by assumption) ?rg12
       case yg12=>first | ((intro w hSw; (try dsimp only at hSw); go_simp); done) | ((intro w hSw; (try dsimp only at hSw); go_simp); with_reducible rfl)
       simp only [Act.put,List.getElem_toArray,List.getElem_cons_succ,List.getElem_cons_zero,List.setIfInBounds_toArray,List.set_cons_zero,List.set_cons_succ]
       refine wpAnyH_take (i:=13) (v:=?vg13) rfl (by kernel_rfl) (by kernel_rfl) (by kernel_rfl) (fun _ _ _ h=>h) (Or.inl ⟨by kernel_rfl,?yg13⟩) (by assumption) ?rg13
       case yg13=>first | ((intro w hSw; (try dsimp only at hSw); go_simp); done) | ((intro w hSw; (try dsimp only at hSw); go_simp); with_reducible rfl)
       simp only [Act.put,List.getElem_toArray,List.getElem_cons_succ,List.getElem_cons_zero,List.setIfInBounds_toArray,List.set_cons_zero,List.set_cons_succ]
       refine wpAnyH_take (i:=14) (v:=?vg14) rfl (by kernel_rfl) (by kernel_rfl) (by kernel_rfl) (fun _ _ _ h=>h) (Or.inl ⟨by kernel_rfl,?yg14⟩) (by assumption) ?rg14
       case yg14=>first | ((intro w hSw; (try dsimp only at hSw); go_simp); done) | ((intro w hSw; (try dsimp only at hSw); go_simp); with_reducible rfl)
       simp only [Act.put,List.getElem_toArray,List.getElem_cons_succ,List.getElem_cons_zero,List.setIfInBounds_toArray,List.set_cons_zero,List.set_cons_succ]
       refine wpAnyH_take (i:=15) (v:=?vg15) rfl (by kernel_rfl) (by kernel_rfl) (by kernel_rfl) (fun _ _ _ h=>h) (Or.inl ⟨by kernel_rfl,?yg15⟩) (by assumption) ?rg15
       case yg15=>first | ((intro w hSw; (try dsimp only at hSw); go_simp); done) | ((intro w hSw; (try dsimp only at hSw); go_simp); with_reducible rfl)
       simp only [Act.put,List.getElem_toArray,List.getElem_cons_succ,List.getElem_cons_zero,List.setIfInBounds_toArray,List.set_cons_zero,List.set_cons_succ]
       refine wpAnyH_take (i:=16) (v:=?vg16) rfl (by kernel_rfl) (by kernel_rfl) (by kernel_rfl) (fun _ _ _ h=>h) (Or.inl ⟨by kernel_rfl,?yg16⟩) (by assumption) ?rg16
       case yg16=>first | ((intro w hSw; (try dsimp only at hSw); go_simp); done) | ((intro w hSw; (try dsimp only at hSw); go_simp); with_reducible rfl)
       simp only [Act.put,List.getElem_toArray,List.getElem_cons_succ,List.getElem_cons_zero,List.setIfInBounds_toArray,List.set_cons_zero,List.set_cons_succ]
       refine wpAnyH_take (i:=17) (v:=?vg17) rfl (by kernel_rfl) (by kernel_rfl) (by kernel_rfl) (fun _ _ _ h=>h) (Or.inl ⟨by kernel_rfl,?yg17⟩) (by assumption) ?rg17
       case yg17=>first | ((intro w hSw; (try dsimp only at hSw); go_simp); done) | ((intro w hSw; (try dsimp only at hSw); go_simp); with_reducible rfl)
       simp only [Act.put,List.getElem_toArray,List.getElem_cons_succ,List.getElem_cons_zero,List.setIfInBounds_toArray,List.set_cons_zero,List.set_cons_succ]
       refine wpAnyH_take (i:=18) (v:=?vg18) rfl (by kernel_rfl) (by kernel_rfl) (by kernel_rfl) (fun _ _ _ h=>h) (Or.inl ⟨by kernel_rfl,?yg18⟩) (by assumption) ?rg18
       case yg18=>first | ((intro w hSw; (try dsimp only at hSw); go_simp); done) | ((intro w hSw; (try dsimp only at hSw); go_simp); with_reducible rfl)
       simp only [Act.put,List.getElem_toArray,List.getElem_cons_succ,List.getElem_cons_zero,List.setIfInBounds_toArray,List.set_cons_zero,List.set_cons_succ]
       refine wpAnyH_take (i:=19) (v:=?vg19) rfl (by kernel_rfl) (by kernel_rfl) (by kernel_rfl) (fun _ _ _ h=>h) (Or.inl ⟨by kernel_rfl,?yg19⟩) (by assumption) ?rg19
       case yg19=>first | ((intro w hSw; (try dsimp only at hSw); go_simp); done) | ((intro w hSw; (try dsimp only at hSw); go_simp); with_reducible rfl)
       simp only [Act.put,List.getElem_toArray,List.getElem_cons_succ,List.getElem_cons_zero,List.setIfInBounds_toArray,List.set_cons_zero,List.set_cons_succ]
       refine wpAnyH_take (i:=21) (v:=?vg21) rfl (by kernel_rfl) (by kernel_rfl) (by kernel_rfl) (fun _ _ _ h=>h) (Or.inl ⟨by kernel_rfl,?yg21⟩) (by assumption) ?rg21
       case yg21=>first | ((intro w hSw; (try dsimp only at hSw); go_simp); done) | ((intro w hSw; (try dsimp only at hSw); go_simp); with_reducible rfl)
       simp only [Act.put,List.getElem_toArray,List.getElem_cons_succ,List.getElem_cons_zero,List.setIfInBounds_toArray,List.set_cons_zero,List.set_cons_succ]
       refine wpAnyH_take (i:=22) (v:=?vg22) rfl (by kernel_rfl) (by kernel_rfl) (by kernel_rfl) (fun _ _ _ h=>h) (Or.inl ⟨by kernel_rfl,?yg22⟩) (by assumption) ?rg22
       case yg22=>first | ((intro w hSw; (try dsimp only at hSw); go_simp); done) | ((intro w hSw; (try dsimp only at hSw); go_simp); with_reducible rfl)
       simp only [Act.put,List.getElem_toArray,List.getElem_cons_succ,List.getElem_cons_zero,List.setIfInBounds_toArray,List.set_cons_zero,List.set_cons_succ]
       refine wpAnyH_take (i:=23) (v:=?vg23) rfl (by kernel_rfl) (by kernel_rfl) (by kernel_rfl) (fun _ _ _ h=>h) (Or.inl ⟨by kernel_rfl,?yg23⟩) (by assumption) ?rg23
       case yg23=>first | ((intro w hSw; (try dsimp only at hSw); go_simp); done) | ((intro w hSw; (try dsimp only at hSw); go_simp); with_reducible rfl)
       simp only [Act.put,List.getElem_toArray,List.getElem_cons_succ,List.getElem_cons_zero,List.setIfInBounds_toArray,List.set_cons_zero,List.set_cons_succ]
       refine wpAnyH_ready (rs:=[20]) (by kernel_rfl) (by simp) ?_
       refine AllReadyH.cons rfl (fun K hK=>?_) ?_
       rotate_left
       ·exact AllReadyH.nil
       go_simp
       have hcon:=callsIn_wide.1 (wFits_in 0 (w.heap.size+1) _ ⟨cs',cb',cm',false⟩ (.int .i64 k0) (.int .i64 0) (.int .i64 0) (.int .i64 k3) (.int .i64 k4) (.int .i64 k5) k2 k1 wa.drew hId.wa ⟨h1,h3⟩ ⟨h2,h4⟩)
       (with_reducible refine hcon.mono ?_)
       clear hcon
       rintro e wb ⟨he,hbb⟩
       replace he:e=.returned (.bool false):=by simpa [h5] using he
       subst he
       dsimp only
       have hbw:Below wa.heap.size wa wb:=hBd.trans (hbb.mono hBd.size)
       have hSb:=hS6 wb hbw
       refine hK.out _ _ ?_ (fun hHeld=>?_)
       ·exact hSb
       clear hK K
       try simp only [Act.put,List.getElem_toArray,List.getElem_cons_succ,List.getElem_cons_zero,List.setIfInBounds_toArray,List.set_cons_zero,List.set_cons_succ]
       refine wpAnyH_take (i:=24) (v:=?vg224) rfl (by kernel_rfl) (by kernel_rfl) (by kernel_rfl) (fun _ _ _ h=>h) (Or.inl ⟨by kernel_rfl,?yg224⟩) (by assumption) ?rg224
       case yg224=>first | ((intro w hSw; (try dsimp only at hSw); go_simp); done) | ((intro w hSw; (try dsimp only at hSw); go_simp); with_reducible rfl)
       simp only [Act.put,List.getElem_toArray,List.getElem_cons_succ,List.getElem_cons_zero,List.setIfInBounds_toArray,List.set_cons_zero,List.set_cons_succ]
       refine wpAnyH_take (i:=25) (v:=?vg225) rfl (by kernel_rfl) (by kernel_rfl) (by kernel_rfl) (fun _ _ _ h=>h) (Or.inl ⟨by kernel_rfl,?yg225⟩) (by assumption) ?rg225
       case yg225=>first | ((intro w hSw; (try dsimp only at hSw); go_simp); done) | ((intro w hSw; (try dsimp only at hSw); go_simp); with_reducible rfl)
       simp only [Act.put,List.getElem_toArray,List.getElem_cons_succ,List.getElem_cons_zero,List.setIfInBounds_toArray,List.set_cons_zero,List.set_cons_succ]
       refine wpAnyH_take (i:=26) (v:=?vg226) rfl (by kernel_rfl) (by kernel_rfl) (by kernel_rfl) (fun _ _ _ h=>h) (Or.inl ⟨by kernel_rfl,?yg226⟩) (by assumption) ?rg226
       case yg226=>first | ((intro w hSw; (try dsimp only at hSw); go_simp); done) | ((intro w hSw; (try dsimp only at hSw); go_simp); with_reducible rfl)
       simp only [Act.put,List.getElem_toArray,List.getElem_cons_succ,List.getElem_cons_zero,List.setIfInBounds_toArray,List.set_cons_zero,List.set_cons_succ]
       refine wpAnyH_take (i:=27) (v:=?vg227) rfl (by kernel_rfl) (by kernel_rfl) (by kernel_rfl) (fun _ _ _ h=>h) (Or.inl ⟨by kernel_rfl,?yg227⟩) (by assumption) ?rg227
       case yg227=>first | ((intro w hSw; (try dsimp only at hSw); go_simp); done) | ((intro w hSw; (try dsimp only at hSw); go_simp); with_reducible rfl)
       simp only [Act.put,List.getElem_toArray,List.getElem_cons_succ,List.getElem_cons_zero,List.setIfInBounds_toArray,List.set_cons_zero,List.set_cons_succ]
       refine wpAnyH_take (i:=28) (v:=?vg228) rfl (by kernel_rfl) (by kernel_rfl) (by kernel_rfl) (fun _ _ _ h=>h) (Or.inl ⟨by kernel_rfl,?yg228⟩) (by assumption) ?rg228
       case yg228=>first | ((intro w hSw; (try dsimp only at hSw); go_simp); done) | ((intro w hSw; (try dsimp only at hSw); go_simp); with_reducible rfl)
       simp only [Act.put,List.getElem_toArray,List.getElem_cons_succ,List.getElem_cons_zero,List.setIfInBounds_toArray,List.set_cons_zero,List.set_cons_succ]
       refine wpAnyH_take (i:=29) (v:=?vg229) rfl (by kernel_rfl) (by kernel_rfl) (by kernel_rfl) (fun _ _ _ h=>h) (Or.inl ⟨by kernel_rfl,?yg229⟩) (by assumption) ?rg229
       case yg229=>first | ((intro w hSw; (try dsimp only at hSw); go_simp); done) | ((intro w hSw; (try dsimp only at hSw); go_simp); with_reducible rfl)
       simp only [Act.put,List.getElem_toArray,List.getElem_cons_succ,List.getElem_cons_zero,List.setIfInBounds_toArray,List.set_cons_zero,List.set_cons_succ]
       refine wpAnyH_take (i:=30) (v:=undef) rfl (by kernel_rfl) (by kernel_rfl) (by kernel_rfl) (fun _ _ _ h=>h) (Or.inr ⟨by kernel_rfl,rfl⟩) (by assumption) ?_
       simp only [Act.put,List.getElem_toArray,List.getElem_cons_succ,List.getElem_cons_zero,List.setIfInBounds_toArray,List.set_cons_zero,List.set_cons_succ]
       refine wpAnyH_take (i:=31) (v:=undef) rfl (by kernel_rfl) (by kernel_rfl) (by kernel_rfl) (fun _ _ _ h=>h) (Or.inr ⟨by kernel_rfl,rfl⟩) (by assumption) ?_
       simp only [Act.put,List.getElem_toArray,List.getElem_cons_succ,List.getElem_cons_zero,List.setIfInBounds_toArray,List.set_cons_zero,List.set_cons_succ]
       refine wpAnyH_take (i:=32) (v:=undef) rfl (by kernel_rfl) (by kernel_rfl) (by kernel_rfl) (fun _ _ _ h=>h) (Or.inr ⟨by kernel_rfl,rfl⟩) (by assumption) ?_
       simp only [Act.put,List.getElem_toArray,List.getElem_cons_succ,List.getElem_cons_zero,List.setIfInBounds_toArray,List.set_cons_zero,List.set_cons_succ]
       refine wpAnyH_take (i:=33) (v:=undef) rfl (by kernel_rfl) (by kernel_rfl) (by kernel_rfl) (fun _ _ _ h=>h) (Or.inr ⟨by kernel_rfl,rfl⟩) (by assumption) ?_
       simp only [Act.put,List.getElem_toArray,List.getElem_cons_succ,List.getElem_cons_zero,List.setIfInBounds_toArray,List.set_cons_zero,List.set_cons_succ]
       refine wpAnyH_take (i:=34) (v:=undef) rfl (by kernel_rfl) (by kernel_rfl) (by kernel_rfl) (fun _ _ _ h=>h) (Or.inr ⟨by kernel_rfl,rfl⟩) (by assumption) ?_
       simp only [Act.put,List.getElem_toArray,List.getElem_cons_succ,List.getElem_cons_zero,List.setIfInBounds_toArray,List.set_cons_zero,List.set_cons_succ]
       refine wpAnyH_take (i:=35) (v:=undef) rfl (by kernel_rfl) (by kernel_rfl) (by kernel_rfl) (fun _ _ _ h=>h) (Or.inr ⟨by kernel_rfl,rfl⟩) (by assumption) ?_
       simp only [Act.put,List.getElem_toArray,List.getElem_cons_succ,List.getElem_cons_zero,List.setIfInBounds_toArray,List.set_cons_zero,List.set_cons_succ]
       refine wpAnyH_take (i:=36) (v:=undef) rfl (by kernel_rfl) (by kernel_rfl) (by kernel_rfl) (fun _ _ _ h=>h) (Or.inr ⟨by kernel_rfl,rfl⟩) (by assumption) ?_
       simp only [Act.put,List.getElem_toArray,List.getElem_cons_succ,List.getElem_cons_zero,List.setIfInBounds_toArray,List.set_cons_zero,List.set_cons_succ]
       refine wpAnyH_take (i:=37) (v:=undef) rfl (by kernel_rfl) (by kernel_rfl) (by kernel_rfl) (fun _ _ _ h=>h) (Or.inr ⟨by kernel_rfl,rfl⟩) (by assumption) ?_
       simp only [Act.put,List.getElem_toArray,List.getElem_cons_succ,List.getElem_cons_zero,List.setIfInBounds_toArray,List.set_cons_zero,List.set_cons_succ]
       refine wpAnyH_take (i:=38) (v:=undef) rfl (by kernel_rfl) (by kernel_rfl) (by kernel_rfl) (fun _ _ _ h=>h) (Or.inr ⟨by kernel_rfl,rfl⟩) (by assumption) ?_
       simp only [Act.put,List.getElem_toArray,List.getElem_cons_succ,List.getElem_cons_zero,List.setIfInBounds_toArray,List.set_cons_zero,List.set_cons_succ]
       refine wpAnyH_take (i:=39) (v:=?vg239) rfl (by kernel_rfl) (by kernel_rfl) (by kernel_rfl) (fun _ _ _ h=>h) (Or.inl ⟨by kernel_rfl,?yg239⟩) (by assumption) ?rg239
       case yg239=>first | ((intro w hSw; (try dsimp only at hSw); go_simp); done) | ((intro w hSw; (try dsimp only at hSw); go_simp); with_reducible rfl)
       simp only [Act.put,List.getElem_toArray,List.getElem_cons_succ,List.getElem_cons_zero,List.setIfInBounds_toArray,List.set_cons_zero,List.set_cons_succ]
       refine wpAnyH_take (i:=40) (v:=?vg240) rfl (by kernel_rfl) (by kernel_rfl) (by kernel_rfl) (fun _ _ _ h=>h) (Or.inl ⟨by kernel_rfl,?yg240⟩) (by assumption) ?rg240
       case yg240=>first | ((intro w hSw; (try dsimp only at hSw); go_simp); done) | ((intro w hSw; (try dsimp only at hSw); go_simp); with_reducible rfl)
       simp only [Act.put,List.getElem_toArray,List.getElem_cons_succ,List.getElem_cons_zero,List.setIfInBounds_toArray,List.set_cons_zero,List.set_cons_succ]
       refine wpAnyH_take (i:=41) (v:=?vg241) rfl (by kernel_rfl) (by kernel_rfl) (by kernel_rfl) (fun _ _ _ h=>h) (Or.inl ⟨by kernel_rfl,?yg241⟩) (by assumption) ?rg241
       case yg241=>first | ((intro w hSw; (try dsimp only at hSw); go_simp); done) | ((intro w hSw; (try dsimp only at hSw); go_simp); with_reducible rfl)
       simp only [Act.put,List.getElem_toArray,List.getElem_cons_succ,List.getElem_cons_zero,List.setIfInBounds_toArray,List.set_cons_zero,List.set_cons_succ]
       refine wpAnyH_done (by kernel_rfl) ?_ _
       gi_wp2
       exact ⟨⟨i+1,_,_,_,_,rfl,by omega,hIa.keep (hbw),hO'⟩,by simp [intOf]; omega⟩
  ·obtain rfl:i=ss.length:=by omega
   have hlI2:¬ ((ss.length:Nat) : Int) < (ss.length:Int):=by omega
   gi_wp2
   refine ⟨trivial,fun h=>by simp [Fence.wide] at h,(hWk _ _).mono ?_⟩
   rintro e w2 ⟨rfl,hb⟩
   gi_wp2
   exact bodyPost_ret (results_tmp rfl _ _ _) rfl ⟨rfl,(hI.keep hb).low⟩
end Go.Proofs.Ytimhpaijbbegaaa
