/- Part of a proof: see the last text. -/
import Derived.Test.YtimhpaijbbegaaaZw4
import Derived.Test.YtimhpaijbbegaaaZw3
import Derived.Test.YtimhpaijbbegaaaZw1
namespace Go.Proofs.Ytimhpaijbbegaaa
open Go.RowKit
set_option linter.unusedVariables false
set_option linter.unusedSimpArgs false
structure SnO (n:Nat) (W:World) (v0 v1 v2 v3 v4 v5:Value) (s:Sn) : Prop where
 st:W.ownsRow n 3 1 v0 s.st.length (iV s.st)
 nx:W.ownsRow n 3 1 v1 s.nx.length (iV s.nx)
 ri:RwO n W v2 s.ri
 gl:W.ownsRow n 3 1 v3 s.gl.length (iV s.gl)
 ha:RwO n W v4 s.ha
 lv:W.ownsRow n 3 1 v5 s.lv.length (iV s.lv)
theorem SnO.snM {n n':Nat} {w:World} {v0 v1 v2 v3 v4 v5:Value} {s:Sn} (h:SnO n w v0 v1 v2 v3 v4 v5 s) (hn:w.heap.size≤n') : SnM n' w v0 v1 v2 v3 v4 v5 s:=⟨own_slm h.st hn,own_slm h.nx hn,h.ri.rwM hn,own_slm h.gl hn,h.ha.rwM hn,own_slm h.lv hn⟩
theorem SnO.btw {X:Nat→Prop} {n:Nat} {w w':World} {v0 v1 v2 v3 v4 v5:Value} {s:Sn} (h:SnO n w v0 v1 v2 v3 v4 v5 s) (hb:Btw X w w') (hX:∀ j,X j→j < n) : SnO n w' v0 v1 v2 v3 v4 v5 s:=⟨own_btw h.st hb hX,own_btw h.nx hb hX,h.ri.btw hb hX,own_btw h.gl hb hX,h.ha.btw hb hX,own_btw h.lv hb hX⟩
theorem SnO.stay {n:Nat} {w w':World} {v0 v1 v2 v3 v4 v5:Value} {s:Sn} (h:SnO n w v0 v1 v2 v3 v4 v5 s) (hb:Below w.heap.size w w') : SnO n w' v0 v1 v2 v3 v4 v5 s:=⟨own_stay h.st hb,own_stay h.nx hb,h.ri.stay hb,own_stay h.gl hb,h.ha.stay hb,own_stay h.lv hb⟩
theorem SnO.weak {n n':Nat} {w:World} {v0 v1 v2 v3 v4 v5:Value} {s:Sn} (h:SnO n w v0 v1 v2 v3 v4 v5 s) (hn:n'≤n) : SnO n' w v0 v1 v2 v3 v4 v5 s:=⟨own_weak h.st hn,own_weak h.nx hn,h.ri.weak hn,own_weak h.gl hn,h.ha.weak hn,own_weak h.lv hn⟩
theorem RwO.val {n:Nat} {w:World} {v:Value} {rs:List (List Int)} (h:RwO n w v rs) : ∃ a c,v=.slice a rs.length c:=by
 obtain ⟨vs,h1,_⟩:=h
 exact own_val h1
theorem set_six {W:World} {b:Nat} {t:TypeId} {fr:Nat×Nat} {x0 x1 x2 x3 x4 x5:Value} (h:W.heap[b]? = some (Obj.cells #[x0,x1,x2,x3,x4,x5] t fr)) (z0 z1 z2 z3 z4 z5:Value) :
  ((((((W.setCell ⟨b,0,none⟩ z0).setCell ⟨b,1,none⟩ z1).setCell ⟨b,2,none⟩ z2).setCell ⟨b,3,none⟩ z3).setCell ⟨b,4,none⟩ z4).setCell ⟨b,5,none⟩ z5).heap[b]? = some (Obj.cells #[z0,z1,z2,z3,z4,z5] t fr):=by
 have:=(set_at (set_at (set_at (set_at (set_at (set_at h 0 z0) 1 z1) 2 z2) 3 z3) 4 z4) 5 z5)
 simp only [List.setIfInBounds_toArray,List.set_cons_zero,List.set_cons_succ] at this
 exact this
theorem loadSr (w:World) (B:Nat) (x0 x1 x2 x3 x4 x5:Value) (hb:w.heap[B]? = some (Obj.cells #[x0,x1,x2,x3,x4,x5] 39 (0,0))) : (loadVar 39 ⟨B,0,none⟩).run Try.prog w=.ok (.agg #[x0,x1,x2,x3,x4,x5]) w:=by
 have hc:∀ (k:Nat) (v:Value),#[x0,x1,x2,x3,x4,x5][k]? = some v→w.cell? ⟨B,k,none⟩=some v:=fun k v hk=>by simp only [World.cell?,hb]; simpa using hk
 obtain ⟨i,i1,i2⟩ : ∃ i,Try.prog.info? 39 = some i∧i.size=6:=size_of (by kernel_rfl)
 simp [loadVar,isAgg,run_underlying Try.underlying39,sizeOf,typeInfo,i1,i2,loadCells,loadCellsFrom,Addr.add,hc 0 x0 rfl,hc 1 x1 rfl,hc 2 x2 rfl,hc 3 x3 rfl,hc 4 x4 rfl,hc 5 x5 rfl]
theorem own_six {w:World} {B:Nat} {z0 z1 z2 z3 z4 z5:Value} {n:Nat} {e:TypeId} {sz k:Nat} {v:Value} {xs:List Value} (h:w.ownsRow n e sz v k xs) (hn:B < n) : ((((((w.setCell ⟨B,0,none⟩ z0).setCell ⟨B,1,none⟩ z1).setCell ⟨B,2,none⟩ z2).setCell ⟨B,3,none⟩ z3).setCell ⟨B,4,none⟩ z4).setCell ⟨B,5,none⟩ z5).ownsRow n e sz v k xs :=
 own_set (own_set (own_set (own_set (own_set (own_set h _ _ hn) _ _ hn) _ _ hn) _ _ hn) _ _ hn) _ _ hn
theorem RwO.six {w:World} {B:Nat} {z0 z1 z2 z3 z4 z5:Value} {n:Nat} {v:Value} {rs:List (List Int)} (h:RwO n w v rs) (hn:B < n) : RwO n ((((((w.setCell ⟨B,0,none⟩ z0).setCell ⟨B,1,none⟩ z1).setCell ⟨B,2,none⟩ z2).setCell ⟨B,3,none⟩ z3).setCell ⟨B,4,none⟩ z4).setCell ⟨B,5,none⟩ z5) v rs:=by
 obtain ⟨vs,h1,h2⟩:=h
 exact ⟨vs,own_six h1 hn,fun k hk=>let ⟨u,e,hu⟩:=h2 k hk; ⟨u,e,own_six hu hn⟩⟩
set_option maxRecDepth 4000 in
set_option maxHeartbeats 4000000 in
theorem snap_in (m:Nat) (v0 v1 v2 v3 v4 v5:Value) (s:Sn) (hf:s.few) (w:World) (hs:SnM w.heap.size w v0 v1 v2 v3 v4 v5 s) : CallsIn Fence.wide m Try.prog 7 #[.agg #[v0,v1,v2,v3,v4,v5]] w fun e w' =>
  ∃ u0 u1 u2 u3 u4 u5,e=.returned (.agg #[u0,u1,u2,u3,u4,u5])∧SnO w.heap.size w' u0 u1 u2 u3 u4 u5 s∧Below w.heap.size w w':=by
 refine callsIn_of_wp Try.func7 rfl trivial ?_ rfl
 simp only [Try.ntmps7,List.size_toArray,List.length_cons,List.length_nil,Nat.reduceAdd,Nat.reduceSub,Array.replicate_succ,Array.replicate_zero,List.push_toArray,List.append_toArray,List.nil_append,List.cons_append]
 obtain ⟨f0,f1,f2,f3,f4,f5⟩:=id hf
 obtain ⟨W1,hW1⟩ : ∃ W1,(w.alloc (.cells #[v0,v1,v2,v3,v4,v5] 38)).alloc (.cells #[.slice none 0 0,.slice none 0 0,.slice none 0 0,.slice none 0 0,.slice none 0 0,.slice none 0 0] 39)=W1:=⟨_,rfl⟩
 have hBw:Below w.heap.size w W1:=by rw [← hW1]; exact below_al2 _ _ _
 have hsz:W1.heap.size=w.heap.size+2:=by rw [← hW1]; simp
 have hb0:W1.heap[w.heap.size]? = some (Obj.cells #[v0,v1,v2,v3,v4,v5] 38 (0,0)):=by rw [← hW1]; exact heap_keep _ _ (World.alloc_heap_new _ _)
 have hx0:W1.heap[w.heap.size+1]? = some (Obj.cells #[.slice none 0 0,.slice none 0 0,.slice none 0 0,.slice none 0 0,.slice none 0 0,.slice none 0 0] 39 (0,0)):=by rw [← hW1]; exact heap_al2 _ _ _
 have hlt:w.heap.size+1 < w.heap.size+2:=Nat.lt_succ_self _
 have hSz:∀ w',Below (w.heap.size+1) W1 w'→w.heap.size+1≤w'.heap.size:=fun w' h=>by have:=h.size; omega
 have hSy:∀ w',Below (w.heap.size+1) W1 w'→w.heap.size+1 < w'.heap.size:=fun w' h=>by have:=h.size; omega
 have hS6:∀ w',Below (w.heap.size+1) W1 w'→(w'.cell? ⟨w.heap.size,0,none⟩=some v0∧w'.cell? ⟨w.heap.size,1,none⟩=some v1∧w'.cell? ⟨w.heap.size,2,none⟩=some v2∧w'.cell? ⟨w.heap.size,3,none⟩=some v3∧w'.cell? ⟨w.heap.size,4,none⟩=some v4∧w'.cell? ⟨w.heap.size,5,none⟩=some v5∧Below (w.heap.size+1) W1 w'):=by
  intro w' hw'
  have q:=fun (i:Nat) (u:Value) hi=>(hw'.cell (p:=⟨w.heap.size,i,none⟩) (Nat.lt_succ_self _)).trans (cell_of hb0 i u hi)
  exact ⟨q 0 _ rfl,q 1 _ rfl,q 2 _ rfl,q 3 _ rfl,q 4 _ rfl,q 5 _ rfl,hw'⟩
 have hSB:∀ w',(w'.cell? ⟨w.heap.size,0,none⟩=some v0∧w'.cell? ⟨w.heap.size,1,none⟩=some v1∧w'.cell? ⟨w.heap.size,2,none⟩=some v2∧w'.cell? ⟨w.heap.size,3,none⟩=some v3∧w'.cell? ⟨w.heap.size,4,none⟩=some v4∧w'.cell? ⟨w.heap.size,5,none⟩=some v5∧Below (w.heap.size+1) W1 w')→Below (w.heap.size+1) W1 w':=fun w' h=>h.2.2.2.2.2.2
 have hSB2:∀ w',Below (w.heap.size+1) W1 w'→SnM w'.heap.size w' v0 v1 v2 v3 v4 v5 s:=fun w' h=>((hs.keep hBw).keep (h.mono (Nat.le_add_right _ _))).up (by have:=hSz _ h; omega)
 have hBd:Below (w.heap.size+1) W1 W1.drew:=(Below.refl _ _).drew
 gi_wp2
 refine wpIn_wide.2 ?_
 go_region_held3 (fun w'=>w'.cell? ⟨w.heap.size,0,none⟩=some v0∧w'.cell? ⟨w.heap.size,1,none⟩=some v1∧w'.cell? ⟨w.heap.size,2,none⟩=some v2∧w'.cell? ⟨w.heap.size,3,none⟩=some v3∧w'.cell? ⟨w.heap.size,4,none⟩=some v4∧w'.cell? ⟨w.heap.size,5,none⟩=some v5∧Below (w.heap.size+1) W1 w') ((refine hS6 _ ?_; first | with_reducible exact hBd | with_reducible assumption | with_reducible exact hB5 | with_reducible exact hB4 | with_reducible exact hB3 | with_reducible exact hB2 | with_reducible exact hB1 | with_reducible exact hB0 | exact ((((((hB5.setCell (Nat.le_refl _) _).setCell (Nat.le_refl _) _).setCell (Nat.le_refl _) _).setCell (Nat.le_refl _) _).setCell (Nat.le_refl _) _).setCell (Nat.le_refl _) _) | fail)) ((first
  | (go_at_call 21; have hcw:Below (w.heap.size+1) W1 _:=hSB _ (by assumption); have hcon:=callsIn_wide.1 (ownRow_in 0 v0 s.st _ (hSB2 _ hcw).st (Nat.le_trans f0 (by decide))); (with_reducible refine hcon.mono ?_); clear hcon; rintro e w2 ⟨u0,rfl,hu0,hb0⟩; obtain ⟨a0,c0,rfl⟩:=own_val hu0; have hB0:=hcw.trans (hb0.mono (hSz _ hcw)); have hx1:=(hb0.block (w.heap.size+1) (hSy _ hcw)).trans hx0; skip)
  | (go_at_call 21; have hcw:Below (w.heap.size+1) W1 _:=hSB _ (by assumption); have hcon:=callsIn_wide.1 (ownRow_in 0 v1 s.nx _ (hSB2 _ hcw).nx (Nat.le_trans f1 (by decide))); (with_reducible refine hcon.mono ?_); clear hcon; rintro e w3 ⟨u1,rfl,hu1,hb1⟩; obtain ⟨a1,c1,rfl⟩:=own_val hu1; have hB1:=hcw.trans (hb1.mono (hSz _ hcw)); have hx2:=(hb1.block (w.heap.size+1) (hSy _ hcw)).trans hx1; skip)
  | (go_at_call 22; have hcw:Below (w.heap.size+1) W1 _:=hSB _ (by assumption); have hcon:=callsIn_wide.1 (ownRows_in 0 v2 s.ri _ (hSB2 _ hcw).ri f2); (with_reducible refine hcon.mono ?_); clear hcon; rintro e w4 ⟨u2,rfl,hu2,hb2⟩; obtain ⟨a2,c2,rfl⟩:=hu2.val; have hB2:=hcw.trans (hb2.mono (hSz _ hcw)); have hx3:=(hb2.block (w.heap.size+1) (hSy _ hcw)).trans hx2; skip)
  | (go_at_call 21; have hcw:Below (w.heap.size+1) W1 _:=hSB _ (by assumption); have hcon:=callsIn_wide.1 (ownRow_in 0 v3 s.gl _ (hSB2 _ hcw).gl (Nat.le_trans f3 (by decide))); (with_reducible refine hcon.mono ?_); clear hcon; rintro e w5 ⟨u3,rfl,hu3,hb3⟩; obtain ⟨a3,c3,rfl⟩:=own_val hu3; have hB3:=hcw.trans (hb3.mono (hSz _ hcw)); have hx4:=(hb3.block (w.heap.size+1) (hSy _ hcw)).trans hx3; skip)
  | (go_at_call 22; have hcw:Below (w.heap.size+1) W1 _:=hSB _ (by assumption); have hcon:=callsIn_wide.1 (ownRows_in 0 v4 s.ha _ (hSB2 _ hcw).ha f4); (with_reducible refine hcon.mono ?_); clear hcon; rintro e w6 ⟨u4,rfl,hu4,hb4⟩; obtain ⟨a4,c4,rfl⟩:=hu4.val; have hB4:=hcw.trans (hb4.mono (hSz _ hcw)); have hx5:=(hb4.block (w.heap.size+1) (hSy _ hcw)).trans hx4; skip)
  | (go_at_call 21; have hcw:Below (w.heap.size+1) W1 _:=hSB _ (by assumption); have hcon:=callsIn_wide.1 (ownRow_in 0 v5 s.lv _ (hSB2 _ hcw).lv (Nat.le_trans f5 (by decide))); (with_reducible refine hcon.mono ?_); clear hcon; rintro e w7 ⟨u5,rfl,hu5,hb5⟩; obtain ⟨a5,c5,rfl⟩:=own_val hu5; have hB5:=hcw.trans (hb5.mono (hSz _ hcw)); have hx6:=(hb5.block (w.heap.size+1) (hSy _ hcw)).trans hx5; have hx6:w7.heap[w.heap.size+1]? = some (Obj.cells #[.slice none 0 0,.slice none 0 0,.slice none 0 0,.slice none 0 0,.slice none 0 0,.slice none 0 0] 39 (0,0)):=hx6; have d0:=cell_of hx6 0 _ rfl; have q0:=froz_of hx6 0; have d1:=cell_of hx6 1 _ rfl; have q1:=froz_of hx6 1; have d2:=cell_of hx6 2 _ rfl; have q2:=froz_of hx6 2; have d3:=cell_of hx6 3 _ rfl; have q3:=froz_of hx6 3; have d4:=cell_of hx6 4 _ rfl; have q4:=froz_of hx6 4; have d5:=cell_of hx6 5 _ rfl; have q5:=froz_of hx6 5; skip)))
 have z2:W1.heap.size≤w2.heap.size:=hB0.size
 have z3:W1.heap.size≤w3.heap.size:=hB1.size
 have z4:W1.heap.size≤w4.heap.size:=hB2.size
 have z5:W1.heap.size≤w5.heap.size:=hB3.size
 have z6:W1.heap.size≤w6.heap.size:=hB4.size
 have hB6:Below w.heap.size w w7:=hBw.trans (hB5.mono (Nat.le_succ _))
 have o0:=own_weak (n':=w.heap.size+2) (own_stay (own_stay (own_stay (own_stay (own_stay hu0 hb1) hb2) hb3) hb4) hb5) (by show _≤W1.heap.size; omega)
 have o1:=own_weak (n':=w.heap.size+2) (own_stay (own_stay (own_stay (own_stay hu1 hb2) hb3) hb4) hb5) (by omega)
 have o2:=(((hu2.stay hb3).stay hb4).stay hb5).weak (n':=w.heap.size+2) (by omega)
 have o3:=own_weak (n':=w.heap.size+2) (own_stay (own_stay hu3 hb4) hb5) (by omega)
 have o4:=(hu4.stay hb5).weak (n':=w.heap.size+2) (by omega)
 have o5:=own_weak (n':=w.heap.size+2) hu5 (by omega)
 gi_wp2
 refine post_cell rfl rfl rfl (loadSr _ _ _ _ _ _ _ _ (set_six hx6 _ _ _ _ _ _)) ⟨_,_,_,_,_,_,rfl,SnO.weak (n:=w.heap.size+2) ?_ (by omega),?_⟩
 ·exact ⟨own_six o0 hlt,own_six o1 hlt,o2.six hlt,own_six o3 hlt,o4.six hlt,own_six o5 hlt⟩
 ·exact ((((((hB6.setCell (Nat.le_succ _) _).setCell (Nat.le_succ _) _).setCell (Nat.le_succ _) _).setCell (Nat.le_succ _) _).setCell (Nat.le_succ _) _).setCell (Nat.le_succ _) _)
end Go.Proofs.Ytimhpaijbbegaaa
namespace Go.Proofs.Ytimhpaijbbegaaa
open Go.RowKit
set_option linter.unusedVariables false
set_option linter.unusedSimpArgs false
theorem wp_append_run {P:Program} {w w':World} {o:Oper} {a:Act} {K:Act→World→Prop} {Q:Exit→Act→World→Prop} {v':Value} (s x:Operand) (t:TypeId) (hop:o.op=Op.call { callee:=Callee.builtin Builtin.append,args:=#[s,x],argTypes:=#[t,t] }) (hrun:(Builtin.append_ #[t,t] o.type #[a.eval s,a.eval x]).run P w=.ok v' w')
  (hK:K (a.put o.dst v') w') : o.wp P a w K Q:=by
 unfold Oper.wp execOp
 simp only [hop,resolve,invoke,builtin,Sem.run_bind,Sem.run_pure,Result.andThen_ok,List.map_toArray,List.map_cons,List.map_nil,hrun]
 exact hK
def RowS (X:Nat→Prop) (W:World) (u:Value) : Prop:=∃ k:Nat,k≤20∧((k=0∧∃ a c,u=.slice a 0 c)∨∃ g off c cur,u=.slice (some ⟨g,off,none⟩) k c∧X g∧W.heap[g]? = some (Obj.cells cur 3 (0,0))∧off+k≤cur.size)
theorem RowS.one {X:Nat→Prop} {W:World} {u:Value} (h:RowS X W u) : u.oneCell'=true:=by
 obtain ⟨k,_,⟨_,a,c,rfl⟩ | ⟨g,off,c,cur,rfl,_⟩⟩:=h <;> rfl
theorem RowS.val {X:Nat→Prop} {W:World} {u:Value} (h:RowS X W u) : ∃ a k c,u=.slice a k c:=by
 obtain ⟨k,_,⟨_,a,c,rfl⟩ | ⟨g,off,c,cur,rfl,_⟩⟩:=h
 ·exact ⟨a,0,c,rfl⟩
 ·exact ⟨_,k,c,rfl⟩
theorem RowS.le {X:Nat→Prop} {W:World} {u:Value} (h:RowS X W u) {a:Option Addr} {k c:Nat} (e:u=.slice a k c) : k≤20:=by
 obtain ⟨k',hk,⟨rfl,a,c,rfl⟩ | ⟨g,off,c,cur,rfl,_⟩⟩:=h
 ·cases e
  omega
 ·cases e
  exact hk
theorem RowS.at {X:Nat→Prop} {W:World} {a:Option Addr} {k c:Nat} (h:RowS X W (.slice a k c)) {j:Nat} (hj:j < k) : ∃ g off cur,a=some ⟨g,off,none⟩∧X g∧W.heap[g]? = some (Obj.cells cur 3 (0,0))∧off+j < cur.size:=by
 obtain ⟨k',hk,⟨rfl,a,c,e⟩ | ⟨g,off,c,cur,e,hX,hg,ho⟩⟩:=h
 ·cases e
  omega
 ·cases e
  exact ⟨g,off,cur,rfl,hX,hg,by omega⟩
theorem RowS.set {X:Nat→Prop} {W:World} {u:Value} (h:RowS X W u) (b i:Nat) (x:Value) : RowS X (W.setCell ⟨b,i,none⟩ x) u:=by
 obtain ⟨k,hk,h0 | ⟨g,off,c,cur,rfl,hX,hg,ho⟩⟩:=h
 ·exact ⟨k,hk,.inl h0⟩
 ·by_cases e:g=b
  ·subst e
   exact ⟨k,hk,.inr ⟨g,off,c,cur.setIfInBounds i x,rfl,hX,set_at hg i x,by simpa using ho⟩⟩
  ·exact ⟨k,hk,.inr ⟨g,off,c,cur,rfl,hX,set_off hg _ x e,ho⟩⟩
theorem RowS.same {X:Nat→Prop} {W W':World} {u:Value} (h:RowS X W u) (hb:∀ g cur,X g→W.heap[g]? = some (Obj.cells cur 3 (0,0))→W'.heap[g]? = W.heap[g]?) : RowS X W' u:=by
 obtain ⟨k,hk,h0 | ⟨g,off,c,cur,rfl,hX,hg,ho⟩⟩:=h
 ·exact ⟨k,hk,.inl h0⟩
 ·exact ⟨k,hk,.inr ⟨g,off,c,cur,rfl,hX,(hb g cur hX hg).trans hg,ho⟩⟩
theorem RowS.keep {X:Nat→Prop} {W W':World} {u:Value} (h:RowS X W u) (hb:Below W.heap.size W W') : RowS X W' u:=h.same fun g _ _ hg=>hb.block g (Array.getElem?_eq_some_iff.1 hg).1
theorem RowS.grown {X:Nat→Prop} {W W':World} {u v:Value} {n sz k:Nat} {xs:List Value} (h:RowS X W u) (hr:W.ownsRow n 35 sz v k xs) (hg:W.grownBy W' v.ownBlock) : RowS X W' u:=h.same fun g cur _ hc=>hg.block g (Array.getElem?_eq_some_iff.1 hc).1 (by
 rcases hr.2 with ⟨rfl,_⟩ | ⟨g',cap,cur',rfl,_,hg',_⟩
 ·simp [Value.ownBlock]
 ·intro e
  have:g=g':=by simpa [Value.ownBlock] using e
  subst this
  rw [hc] at hg'
  cases hg')
theorem rowS_own {X:Nat→Prop} {W:World} {u:Value} {n k:Nat} {xs:List Value} (h:W.ownsRow n 3 1 u k xs) (hk:k≤20) (hX:∀ g,n≤g→g < W.heap.size→X g) : RowS X W u:=by
 refine ⟨k,hk,?_⟩
 rcases h.2 with ⟨rfl,rfl⟩ | ⟨g,cap,cur,rfl,hn,hg,hc,_,hs,_⟩
 ·exact .inl ⟨rfl,_,_,rfl⟩
 ·exact .inr ⟨g,0,cap,cur,rfl,hX g hn (Array.getElem?_eq_some_iff.1 hg).1,hg,by omega⟩
def RwS (X:Nat→Prop) (W:World) (v:Value) (n:Nat) : Prop:=n≤20∧∃ vs:List Value,vs.length=n∧SlM 1 W.heap.size W v n vs∧∀ u ∈ vs,RowS X W u
theorem RwS.keep {X:Nat→Prop} {W W':World} {v:Value} {n:Nat} (h:RwS X W v n) (hb:Below W.heap.size W W') : RwS X W' v n:=by
 obtain ⟨h0,vs,h1,h2,h3⟩:=h
 exact ⟨h0,vs,h1,(h2.keep hb).up hb.size,fun u hu=>(h3 u hu).keep hb⟩
theorem RwS.val {X:Nat→Prop} {W:World} {v:Value} {n:Nat} (h:RwS X W v n) : ∃ a c,v=.slice a n c:=by
 obtain ⟨h0,vs,h1,h2,h3⟩:=h
 exact h2.val
structure SnS (X:Nat→Prop) (W:World) (v0 v1 v2 v3 v4 v5:Value) (s:Sn) : Prop where
 st:RowS X W v0
 nx:RowS X W v1
 ri:RwS X W v2 s.ri.length
 gl:RowS X W v3
 ha:RwS X W v4 s.ha.length
 lv:RowS X W v5
theorem SnS.keep {X:Nat→Prop} {W W':World} {v0 v1 v2 v3 v4 v5:Value} {s:Sn} (h:SnS X W v0 v1 v2 v3 v4 v5 s) (hb:Below W.heap.size W W') : SnS X W' v0 v1 v2 v3 v4 v5 s:=⟨h.st.keep hb,h.nx.keep hb,h.ri.keep hb,h.gl.keep hb,h.ha.keep hb,h.lv.keep hb⟩
structure SpI (X:Nat→Prop) (w wr:World) (v:Value) (us:List Value) : Prop where
 own:wr.ownsRow (w.heap.size+1) 35 1 v us.length us
 rows:∀ u ∈ us,RowS X wr u
 btw:Btw X w wr
theorem SpI.get {X:Nat→Prop} {w wr:World} {v:Value} {us:List Value} (h:SpI X w wr v us) {i:Nat} (hi:i < us.length) : ∃ b c,v=.slice (some ⟨b,0,none⟩) us.length c∧wr.cell? ⟨b,i,none⟩=some us[i]∧RowS X wr us[i]:=by
 have h0:=h.own
 rcases h.own.2 with ⟨rfl,e⟩ | ⟨g,cap,cur,rfl,_,hg,_⟩
 ·omega
 ·refine ⟨g,cap,rfl,?_,h.rows _ (List.getElem_mem hi)⟩
  have:=h0.cells (g:=g) rfl i us[i] (List.getElem?_eq_getElem hi)
  rw [add_mk,Nat.zero_add] at this
  exact this
theorem SpI.set {X:Nat→Prop} {w wr:World} {v:Value} {us:List Value} (h:SpI X w wr v us) {g:Nat} {cur:Array Value} (hX:X g) (hg:wr.heap[g]? = some (Obj.cells cur 3 (0,0))) (i:Nat) (x:Value) : SpI X w (wr.setCell ⟨g,i,none⟩ x) v us:=by
 refine ⟨⟨h.own.1,?_⟩,fun u hu=>(h.rows u hu).set _ _ _,h.btw.setCell _ _ (.inl hX)⟩
 rcases h.own.2 with e | ⟨g',cap,cur',rfl,hn,hg',r⟩
 ·exact .inl e
 ·refine .inr ⟨g',cap,cur',rfl,hn,set_off hg' _ _ (fun e=>?_),r⟩
  dsimp only at e
  rw [e,hg] at hg'
  cases hg'
set_option maxRecDepth 4000 in
set_option maxHeartbeats 4000000 in
theorem spoil_in (m:Nat) (X:Nat→Prop) (v0 v1 v2 v3 v4 v5:Value) (s:Sn) (w:World) (hs:SnS X w v0 v1 v2 v3 v4 v5 s) : CallsIn Fence.wide m Try.prog 10 #[.agg #[v0,v1,v2,v3,v4,v5]] w fun e w'=>e=.returned (.tuple #[])∧Btw X w w':=by
 refine callsIn_of_wp Try.func10 rfl trivial ?_ rfl
 simp only [Try.ntmps10,List.size_toArray,List.length_cons,List.length_nil,Nat.reduceAdd,Nat.reduceSub,Array.replicate_succ,Array.replicate_zero,List.push_toArray,List.append_toArray,List.nil_append,List.cons_append]
 obtain ⟨i0,hi,hz0,hz1,hz2⟩:=info_parts infoIs
 obtain ⟨a0,k0,c0,rfl⟩:=hs.st.val
 obtain ⟨a1,k1,c1,rfl⟩:=hs.nx.val
 obtain ⟨a3,k3,c3,rfl⟩:=hs.gl.val
 obtain ⟨a5,k5,c5,rfl⟩:=hs.lv.val
 obtain ⟨a2,c2,rfl⟩:=hs.ri.val
 obtain ⟨a4,c4,rfl⟩:=hs.ha.val
 obtain ⟨W1,hW1⟩ : ∃ W1,w.alloc (.cells #[.slice a0 k0 c0,.slice a1 k1 c1,.slice a2 s.ri.length c2,.slice a3 k3 c3,.slice a4 s.ha.length c4,.slice a5 k5 c5] 38)=W1:=⟨_,rfl⟩
 have hB1:Below w.heap.size w W1:=by rw [← hW1]; exact (Below.refl _ w).alloc (Nat.le_refl _) _
 have hz1s:W1.heap.size=w.heap.size+1:=by rw [← hW1]; simp
 have hb0:W1.heap[w.heap.size]? = some (Obj.cells #[.slice a0 k0 c0,.slice a1 k1 c1,.slice a2 s.ri.length c2,.slice a3 k3 c3,.slice a4 s.ha.length c4,.slice a5 k5 c5] 38 (0,0)):=by rw [← hW1]; exact World.alloc_heap_new _ _
 have g0:=cell_of hb0 0 _ rfl
 have g1:=cell_of hb0 1 _ rfl
 have g3:=cell_of hb0 3 _ rfl
 have g5:=cell_of hb0 5 _ rfl
 obtain ⟨W2,hW2⟩ : ∃ W2,W1.alloc (.cells #[.slice a0 k0 c0,.slice a1 k1 c1,.slice a3 k3 c3,.slice a5 k5 c5] 35)=W2:=⟨_,rfl⟩
 have hB2:Below W1.heap.size W1 W2:=by rw [← hW2]; exact (Below.refl _ W1).alloc (Nat.le_refl _) _
 have hz2s:W2.heap.size=w.heap.size+2:=by rw [← hW2]; simp [hz1s]
 have hB12:Below w.heap.size w W2:=hB1.trans (hB2.mono (by omega))
 obtain ⟨n2,us2,l2,m2,r2⟩:=hs.ri
 obtain ⟨n4,us4,l4,m4,r4⟩:=hs.ha
 have hr2':W2.drew.ownsRow (w.heap.size+1) 35 1 (.slice (some ⟨w.heap.size+1,0,none⟩) 4 4) 4 [.slice a0 k0 c0,.slice a1 k1 c1,.slice a3 k3 c3,.slice a5 k5 c5] :=
  ⟨rfl,.inr ⟨w.heap.size+1,4,#[.slice a0 k0 c0,.slice a1 k1 c1,.slice a3 k3 c3,.slice a5 k5 c5],rfl,Nat.le_refl _,by show W2.heap[w.heap.size+1]? = _; rw [← hz1s,← hW2]; exact World.alloc_heap_new _ _,by decide,by decide,rfl,rfl⟩⟩
 obtain ⟨x3,w3,p1,p2,p3⟩:=app_slm (P:=Try.prog) 36 36 35 Try.underlying36 hi hz0 hz1 hz2 rfl (by decide) hr2' (m2.keep hB12.drew) (fun u hu=>(r2 u hu).one) (by unfold maxLen; omega) (by omega) (by show _≤W2.heap.size; omega)
 have hb23:Below (w.heap.size+1) W2 w3:=below_grown hr2' (Below.refl _ W2).drew (by show _≤W2.heap.size; omega) p3
 have hb3:Below w.heap.size w w3:=hB12.trans (hb23.mono (Nat.le_succ _))
 obtain ⟨x4,w4,y1,y2,y3⟩:=app_slm (P:=Try.prog) 36 36 35 Try.underlying36 hi hz0 hz1 hz2 rfl (by decide) p2 (m4.keep hb3) (fun u hu=>(r4 u hu).one) (by unfold maxLen; omega) (by omega) (by have:=hb23.size; omega)
 have hb34:Below (w.heap.size+1) w3 w4:=below_grown p2 (Below.refl _ _) (by have:=hb23.size; omega) y3
 have hSI:SpI X w w4 x4 ([.slice a0 k0 c0,.slice a1 k1 c1,.slice a3 k3 c3,.slice a5 k5 c5]++us2++us4):=by
  refine ⟨?_,?_,.of (hb3.trans (hb34.mono (Nat.le_succ _)))⟩
  ·have:([.slice a0 k0 c0,.slice a1 k1 c1,.slice a3 k3 c3,.slice a5 k5 c5]++us2++us4:List Value).length=4+s.ri.length+s.ha.length:=by simp [l2,l4]; omega
   rw [this]
   exact y2
  ·intro u hu
   have h0:RowS X w u:=by
    rcases List.mem_append.1 hu with hu | hu
    ·rcases List.mem_append.1 hu with hu | hu
     ·simp only [List.mem_cons,List.not_mem_nil,or_false] at hu
      rcases hu with rfl | rfl | rfl | rfl
      ·exact hs.st
      ·exact hs.nx
      ·exact hs.gl
      ·exact hs.lv
     ·exact r2 u hu
    ·exact r4 u hu
   have h2:RowS X W2.drew u:=h0.same fun g _ _ hg=>hB12.drew.block g (Array.getElem?_eq_some_iff.1 hg).1
   exact (h2.grown hr2' p3).grown p2 y3
 have husl:([.slice a0 k0 c0,.slice a1 k1 c1,.slice a3 k3 c3,.slice a5 k5 c5]++us2++us4:List Value).length≤44:=by simp [l2,l4]; omega
 obtain ⟨us,hus⟩ : ∃ us,([.slice a0 k0 c0,.slice a1 k1 c1,.slice a3 k3 c3,.slice a5 k5 c5]++us2++us4:List Value)=us:=⟨_,rfl⟩
 rw [hus] at hSI husl
 have hS2:∀ w',Below (w.heap.size+1) W2 w'→(w'.cell? ⟨w.heap.size,2,none⟩=some (.slice a2 s.ri.length c2)∧w'.cell? ⟨w.heap.size,4,none⟩=some (.slice a4 s.ha.length c4)∧Below (w.heap.size+1) W2 w'):=by
  intro w' hw'
  have hc:=(hB2.mono (Nat.le_of_eq hz1s.symm)).trans hw'
  exact ⟨(hc.cell (p:=⟨w.heap.size,2,none⟩) (Nat.lt_succ_self _)).trans (cell_of hb0 2 _ rfl),(hc.cell (p:=⟨w.heap.size,4,none⟩) (Nat.lt_succ_self _)).trans (cell_of hb0 4 _ rfl),hw'⟩
 have hBd:Below (w.heap.size+1) W2 W2.drew:=(Below.refl _ _).drew
 have hb24:=hb23.trans hb34
 gi_wp2
 refine wpIn_wide.2 ?_
 go_region_held3 (fun w'=>w'.cell? ⟨w.heap.size,2,none⟩=some (.slice a2 s.ri.length c2)∧w'.cell? ⟨w.heap.size,4,none⟩=some (.slice a4 s.ha.length c4)∧Below (w.heap.size+1) W2 w') ((refine hS2 _ ?_; first | with_reducible exact hBd | with_reducible exact hb23 | with_reducible exact hb24 | fail)) ((first
  | (rw [if_pos (by rfl)]; refine wp_append_run _ _ _ rfl p1 ?_)
  | (rw [if_pos (by rfl)]; refine wp_append_run _ _ _ rfl y1 ?_)
  | (refine wp_append_run _ _ _ rfl p1 ?_)
  | (refine wp_append_run _ _ _ rfl y1 ?_)))
 obtain ⟨a6,c6,rfl⟩:=own_val hSI.own
 gi_wp2
 gi_loopw [3] (fun p wr=>∃ i:Nat,p=.int .i64 (i:Int)∧i≤us.length∧SpI X w wr (.slice a6 us.length c6) us) (fun p _=>us.length - (intOf p).toNat)
 case atStart=>exact ⟨0,rfl,Nat.zero_le _,hSI⟩
 case round =>
  obtain ⟨i,rfl,hi,hI⟩:=hrel
  by_cases hlt:i < us.length
  ·have hlI:(i:Int) < (us.length:Int):=by omega
   obtain ⟨b,c,hv,hc,hrow⟩:=hI.get hlt
   cases hv
   obtain ⟨au,kk,cu,hu⟩:=hrow.val
   have hkk:kk≤20:=hrow.le hu
   gi_wp2
   gi_loopw [4] (fun p wk=>∃ k:Nat,p=.int .i64 (k:Int)∧k≤kk∧SpI X w wk (.slice (some ⟨b,0,none⟩) us.length c6) us) (fun p _=>kk - (intOf p).toNat)
   case atStart=>exact ⟨0,rfl,Nat.zero_le _,hI⟩
   case round =>
    obtain ⟨k,rfl,hk,hI2⟩:=hrel
    obtain ⟨b',c',hv2,hc2,hrow2⟩:=hI2.get hlt
    cases hv2
    rw [hu] at hc2 hrow2
    by_cases hltk:k < kk
    ·have hlI2:(k:Int) < (kk:Int):=by omega
     obtain ⟨g,off,cur,rfl,hX,hg,hoff⟩:=hrow2.at hltk
     obtain ⟨xo,hxo⟩ : ∃ xo,wr.cell? ⟨g,off+k,none⟩=some xo:=⟨_,cell_of hg (off+k) _ (Array.getElem?_eq_getElem (by omega))⟩
     have hfr:=froz_of hg (off+k)
     gi_wp2
     exact ⟨⟨k+1,rfl,by omega,hI2.set hX hg _ _⟩,by simp [intOf]; omega⟩
    ·obtain rfl:k=kk:=by omega
     have hlI2:¬ ((k:Nat) : Int) < (k:Int):=by omega
     gi_wp2
     exact ⟨⟨i+1,rfl,by omega,hI2⟩,by simp [intOf]; omega⟩
  ·obtain rfl:i=us.length:=by omega
   have hlI:¬ ((us.length:Nat) : Int) < (us.length:Int):=by omega
   gi_wp2
   exact bodyPost_end (results_none rfl _ _ _) rfl ⟨rfl,hI.btw⟩
end Go.Proofs.Ytimhpaijbbegaaa
namespace Go.Proofs.Ytimhpaijbbegaaa
open Go.RowKit
set_option linter.unusedVariables false
set_option linter.unusedSimpArgs false
def FewR (s:Sn) (w:World) (e:Ending) (w':World) : Prop:=((e=.returned (.bool true)∧s.few)∨(e=.returned (.bool false)∧¬ s.few))∧Below w.heap.size w w'
set_option maxRecDepth 4000 in
set_option maxHeartbeats 4000000 in
theorem few_in (m:Nat) (v0 v1 v2 v3 v4 v5:Value) (s:Sn) (w:World) (hs:SnM w.heap.size w v0 v1 v2 v3 v4 v5 s) : CallsIn Fence.wide m Try.prog 6 #[.agg #[v0,v1,v2,v3,v4,v5],.int .i64 20] w (FewR s w):=by
 refine callsIn_of_wp Try.func6 rfl trivial ?_ rfl
 simp only [Try.ntmps6,List.size_toArray,List.length_cons,List.length_nil,Nat.reduceAdd,Nat.reduceSub,Array.replicate_succ,Array.replicate_zero,List.push_toArray,List.append_toArray,List.nil_append,List.cons_append]
 obtain ⟨a0,c0,rfl⟩:=hs.st.val
 obtain ⟨a1,c1,rfl⟩:=hs.nx.val
 obtain ⟨a2,c2,rfl⟩:=hs.ri.val
 obtain ⟨a3,c3,rfl⟩:=hs.gl.val
 obtain ⟨a4,c4,rfl⟩:=hs.ha.val
 obtain ⟨a5,c5,rfl⟩:=hs.lv.val
 obtain ⟨W1,hW1⟩ : ∃ W1,w.alloc (.cells #[.slice a0 s.st.length c0,.slice a1 s.nx.length c1,.slice a2 s.ri.length c2,.slice a3 s.gl.length c3,.slice a4 s.ha.length c4,.slice a5 s.lv.length c5] 38)=W1:=⟨_,rfl⟩
 have hB1:Below w.heap.size w W1:=by rw [← hW1]; exact (Below.refl _ w).alloc (Nat.le_refl _) _
 have hb0:W1.heap[w.heap.size]? = some (Obj.cells #[.slice a0 s.st.length c0,.slice a1 s.nx.length c1,.slice a2 s.ri.length c2,.slice a3 s.gl.length c3,.slice a4 s.ha.length c4,.slice a5 s.lv.length c5] 38 (0,0)):=by rw [← hW1]; exact World.alloc_heap_new _ _
 have g0:=cell_of hb0 0 _ rfl
 have g1:=cell_of hb0 1 _ rfl
 have g2:=cell_of hb0 2 _ rfl
 have g3:=cell_of hb0 3 _ rfl
 have g4:=cell_of hb0 4 _ rfl
 have g5:=cell_of hb0 5 _ rfl
 by_cases h0:s.st.length≤20
 case neg =>
  have k0:(20:Int) < (s.st.length:Int):=by omega
  gi_wp2
  exact bodyPost_ret (results_tmp rfl _ _ _) rfl ⟨.inr ⟨rfl,fun hf=>h0 hf.1⟩,hB1⟩
 have k0:¬ (20:Int) < (s.st.length:Int):=by omega
 by_cases h1:s.nx.length≤20
 case neg =>
  have k1:(20:Int) < (s.nx.length:Int):=by omega
  gi_wp2
  exact bodyPost_ret (results_tmp rfl _ _ _) rfl ⟨.inr ⟨rfl,fun hf=>h1 hf.2.1⟩,hB1⟩
 have k1:¬ (20:Int) < (s.nx.length:Int):=by omega
 by_cases h2:s.ri.length≤20
 case neg =>
  have k2:(20:Int) < (s.ri.length:Int):=by omega
  gi_wp2
  exact bodyPost_ret (results_tmp rfl _ _ _) rfl ⟨.inr ⟨rfl,fun hf=>h2 hf.2.2.1.1⟩,hB1⟩
 have k2:¬ (20:Int) < (s.ri.length:Int):=by omega
 by_cases h3:s.gl.length≤20
 case neg =>
  have k3:(20:Int) < (s.gl.length:Int):=by omega
  gi_wp2
  exact bodyPost_ret (results_tmp rfl _ _ _) rfl ⟨.inr ⟨rfl,fun hf=>h3 hf.2.2.2.1⟩,hB1⟩
 have k3:¬ (20:Int) < (s.gl.length:Int):=by omega
 by_cases h4:s.ha.length≤20
 case neg =>
  have k4:(20:Int) < (s.ha.length:Int):=by omega
  gi_wp2
  exact bodyPost_ret (results_tmp rfl _ _ _) rfl ⟨.inr ⟨rfl,fun hf=>h4 hf.2.2.2.2.1.1⟩,hB1⟩
 have k4:¬ (20:Int) < (s.ha.length:Int):=by omega
 by_cases h5:s.lv.length≤20
 case neg =>
  have k5:(20:Int) < (s.lv.length:Int):=by omega
  gi_wp2
  exact bodyPost_ret (results_tmp rfl _ _ _) rfl ⟨.inr ⟨rfl,fun hf=>h5 hf.2.2.2.2.2⟩,hB1⟩
 have k5:¬ (20:Int) < (s.lv.length:Int):=by omega
 gi_wp2
 gi_loopw [5] (fun p wr=>∃ k:Nat,p=.int .i64 (k:Int)∧k≤s.ri.length∧(∀ (j:Nat) (hj:j < s.ri.length),j < k→s.ri[j].length≤20)∧wr=W1) (fun p _=>s.ri.length - (intOf p).toNat)
 case atStart=>exact ⟨0,rfl,Nat.zero_le _,fun j hj h=>absurd h (Nat.not_lt_zero _),by first | rfl | trivial⟩
 case round =>
  obtain ⟨k,rfl,hk,hq,hW⟩:=hrel
  replace hW:=hW.symm
  subst hW
  by_cases hlt:k < s.ri.length
  ·have hlI:(k:Int) < (s.ri.length:Int):=by omega
   obtain ⟨b,off,c,rv,hv,hb,hc,hrv⟩:=((hs.ri.keep hB1).get hlt)
   cases hv
   obtain ⟨ar,cr,rfl⟩:=hrv.val
   by_cases hr:s.ri[k].length≤20
   ·have kr:¬ (20:Int) < (s.ri[k].length:Int):=by omega
    gi_wp2
    refine ⟨⟨k+1,rfl,by omega,fun j hj hjk=>?_,by first | rfl | trivial⟩,by simp [intOf]; omega⟩
    by_cases e:j=k
    ·subst e
     exact hr
    ·exact hq j hj (by omega)
   ·have kr:(20:Int) < (s.ri[k].length:Int):=by omega
    gi_wp2
    exact bodyPost_ret (results_tmp rfl _ _ _) rfl ⟨.inr ⟨rfl,fun hf=>hr (hf.2.2.1.2 _ (List.getElem_mem hlt))⟩,hB1⟩
  ·obtain rfl:k=s.ri.length:=by omega
   have hlI:¬ ((s.ri.length:Nat) : Int) < (s.ri.length:Int):=by omega
   have hq2:∀ r ∈ s.ri,r.length≤20:=fun r hr=>by
    obtain ⟨j,hj,e⟩:=List.getElem_of_mem hr
    have:=hq j hj hj
    rwa [e] at this
   gi_wp2
   gi_loopw [6] (fun p wr=>∃ k:Nat,p=.int .i64 (k:Int)∧k≤s.ha.length∧(∀ (j:Nat) (hj:j < s.ha.length),j < k→s.ha[j].length≤20)∧wr=W1) (fun p _=>s.ha.length - (intOf p).toNat)
   case atStart=>exact ⟨0,rfl,Nat.zero_le _,fun j hj h=>absurd h (Nat.not_lt_zero _),by first | rfl | trivial⟩
   case round =>
    obtain ⟨k,rfl,hk,hq,hW⟩:=hrel
    replace hW:=hW.symm
    subst hW
    by_cases hlt:k < s.ha.length
    ·have hlI:(k:Int) < (s.ha.length:Int):=by omega
     obtain ⟨b,off,c,rv,hv,hb,hc,hrv⟩:=((hs.ha.keep hB1).get hlt)
     cases hv
     obtain ⟨ar,cr,rfl⟩:=hrv.val
     by_cases hr:s.ha[k].length≤20
     ·have kr:¬ (20:Int) < (s.ha[k].length:Int):=by omega
      gi_wp2
      refine ⟨⟨k+1,rfl,by omega,fun j hj hjk=>?_,by first | rfl | trivial⟩,by simp [intOf]; omega⟩
      by_cases e:j=k
      ·subst e
       exact hr
      ·exact hq j hj (by omega)
     ·have kr:(20:Int) < (s.ha[k].length:Int):=by omega
      gi_wp2
      exact bodyPost_ret (results_tmp rfl _ _ _) rfl ⟨.inr ⟨rfl,fun hf=>hr (hf.2.2.2.2.1.2 _ (List.getElem_mem hlt))⟩,hB1⟩
    ·obtain rfl:k=s.ha.length:=by omega
     have hlI:¬ ((s.ha.length:Nat) : Int) < (s.ha.length:Int):=by omega
     have hq4:∀ r ∈ s.ha,r.length≤20:=fun r hr=>by
      obtain ⟨j,hj,e⟩:=List.getElem_of_mem hr
      have:=hq j hj hj
      rwa [e] at this
     gi_wp2
     exact bodyPost_ret (results_tmp rfl _ _ _) rfl ⟨.inl ⟨rfl,h0,h1,⟨h2,hq2⟩,h3,⟨h4,hq4⟩,h5⟩,hB1⟩
end Go.Proofs.Ytimhpaijbbegaaa
namespace Go.Proofs.Ytimhpaijbbegaaa
open Go.RowKit
set_option linter.unusedVariables false
set_option linter.unusedSimpArgs false
set_option maxRecDepth 4000 in
set_option maxHeartbeats 4000000 in
theorem is_in (m:Nat) (B:Nat) (v u:Value) (c:Ct) (L:List Wt) (g:Int) (w:World) (hB:w.heap[B]? = some (Obj.cells #[v,iZ c.si,iZ c.by_,iZ c.mv,.bool c.bk] 30 (0,0))) (hv:MpAt w.heap.size w v L) (ha:Apart L) (hl:∀ x ∈ L,wfG x.g) (hg:wfG g) (hR:SlM 10 w.heap.size w u L.length (wtC L)) (hn:L.length≤1000) :
  CallsIn Fence.wide m Try.prog 11 #[.pointer (some ⟨B,0,none⟩),.agg #[u,iZ c.si,iZ c.by_,iZ c.mv,.bool c.bk],iZ g] w fun e w'=>e=.returned (.bool true)∧Below w.heap.size w w':=by
 refine callsIn_of_wp Try.func11 rfl trivial ?_ rfl
 simp only [Try.ntmps11,List.size_toArray,List.length_cons,List.length_nil,Nat.reduceAdd,Nat.reduceSub,Array.replicate_succ,Array.replicate_zero,List.push_toArray,List.append_toArray,List.nil_append,List.cons_append]
 obtain ⟨a0,c0,rfl⟩:=hR.val
 obtain ⟨W1,hW1⟩ : ∃ W1,w.alloc (.cells #[.slice a0 L.length c0,iZ c.si,iZ c.by_,iZ c.mv,.bool c.bk] 33)=W1:=⟨_,rfl⟩
 have hB1:Below w.heap.size w W1:=by rw [← hW1]; exact (Below.refl _ w).alloc (Nat.le_refl _) _
 have hz1:W1.heap[w.heap.size]? = some (Obj.cells #[.slice a0 L.length c0,iZ c.si,iZ c.by_,iZ c.mv,.bool c.bk] 33 (0,0)):=by rw [← hW1]; exact World.alloc_heap_new _ _
 have hs1:w.heap.size≤W1.heap.size:=hB1.size
 have hBl:B < w.heap.size:=(Array.getElem?_eq_some_iff.1 hB).1
 have d0:=cell_of hz1 0 _ rfl
 have d1:=cell_of hz1 1 _ rfl
 have d2:=cell_of hz1 2 _ rfl
 have d3:=cell_of hz1 3 _ rfl
 have d4:=cell_of hz1 4 _ rfl
 dsimp only [iZ] at d0 d1 d2 d3 d4 hW1 ⊢
 gi_wp2
 refine ⟨trivial,fun h=>by simp [Fence.wide] at h,?_⟩
 refine (of_in (m - 1) _ L c g W1 ((hR.keep hB1).up hs1) hn).mono ?_
 obtain ⟨y,hy⟩ : ∃ y,(ofW L g).getD (w0 g)=y:=⟨_,rfl⟩
 rw [hy]
 obtain ⟨yg,ysi,yby,ymv,ybk,yli,yhd,⟨ykd,yat,yah⟩⟩:=y
 rintro e w2 ⟨rfl,hb2⟩
 dsimp only [Wt.cs,iZ,iM]
 have hB2:Below w.heap.size w w2:=hB1.trans (hb2.mono hs1)
 obtain ⟨w3,hw3⟩ : ∃ w3,w2.alloc (.cells #[.int .i64 yg,.int .i64 ysi,.int .i64 yby,.int .i64 ymv,.bool ybk,.int .i64 (yli:Int),.bool yhd,.int .i64 (ykd:Int),.int .i64 (yat:Int),.int .i64 (yah:Int)] 63)=w3:=⟨_,rfl⟩
 have hs2:w.heap.size≤w2.heap.size:=hB2.size
 have hB3:Below w.heap.size w w3:=by rw [← hw3]; exact hB2.alloc hs2 _
 have hz3:w3.heap[w2.heap.size]? = some (Obj.cells #[.int .i64 yg,.int .i64 ysi,.int .i64 yby,.int .i64 ymv,.bool ybk,.int .i64 (yli:Int),.bool yhd,.int .i64 (ykd:Int),.int .i64 (yat:Int),.int .i64 (yah:Int)] 63 (0,0)):=by rw [← hw3]; exact World.alloc_heap_new _ _
 have hs3:w2.heap.size < w3.heap.size:=(Array.getElem?_eq_some_iff.1 hz3).1
 gi_wp2
 obtain ⟨b7,hb7⟩ : ∃ b7,w2.heap.size=b7:=⟨_,rfl⟩
 rw [hb7] at hz3 hs3 ⊢
 have hS6:∀ w',Below w3.heap.size w3 w'→(w'.cell? ⟨b7,1,none⟩=some (.int .i64 ysi)∧w'.cell? ⟨b7,2,none⟩=some (.int .i64 yby)∧w'.cell? ⟨b7,3,none⟩=some (.int .i64 ymv)∧w'.cell? ⟨b7,4,none⟩=some (.bool ybk)∧Below w3.heap.size w3 w'):=by
  intro w' hw'
  have q:=fun (i:Nat) (x:Value) hi=>(hw'.cell (p:=⟨b7,i,none⟩) hs3).trans (cell_of hz3 i x hi)
  exact ⟨q 1 _ rfl,q 2 _ rfl,q 3 _ rfl,q 4 _ rfl,hw'⟩
 have hSB:∀ w',(w'.cell? ⟨b7,1,none⟩=some (.int .i64 ysi)∧w'.cell? ⟨b7,2,none⟩=some (.int .i64 yby)∧w'.cell? ⟨b7,3,none⟩=some (.int .i64 ymv)∧w'.cell? ⟨b7,4,none⟩=some (.bool ybk)∧Below w3.heap.size w3 w')→Below w3.heap.size w3 w':=fun w' h=>h.2.2.2.2
 have hSB2:∀ w',Below w3.heap.size w3 w'→w'.heap[B]? = some (Obj.cells #[v,iZ c.si,iZ c.by_,iZ c.mv,.bool c.bk] 30 (0,0))∧MpAt w'.heap.size w' v L:=by
  intro w' h
  have hk:=hB3.trans (h.mono hB3.size)
  exact ⟨(hk.block B hBl).trans hB,(hv.keep hk).up hk.size⟩
 have hBd:Below w3.heap.size w3 w3.drew:=(Below.refl _ _).drew
 refine wpIn_wide.2 ?_
 go_region_held3 (fun w'=>w'.cell? ⟨b7,1,none⟩=some (.int .i64 ysi)∧w'.cell? ⟨b7,2,none⟩=some (.int .i64 yby)∧w'.cell? ⟨b7,3,none⟩=some (.int .i64 ymv)∧w'.cell? ⟨b7,4,none⟩=some (.bool ybk)∧Below w3.heap.size w3 w') ((refine hS6 _ ?_; first | with_reducible exact hBd | with_reducible exact hX3 | with_reducible exact hX2 | with_reducible exact hX1 | with_reducible exact hX0 | fail)) ((first
  | (go_at_call 16; have hcw:Below w3.heap.size w3 _:=hSB _ (by assumption); have hcon:=callsIn_wide.1 (wSince_in 0 B v c L g _ (hSB2 _ hcw).1 (hSB2 _ hcw).2 ha hl hg); (with_reducible refine hcon.mono ?_); clear hcon; rintro e x0 ⟨he,hx⟩; rw [hy] at he; dsimp only [pw,iZ] at he; subst he; have hX0:=hcw.trans (hx.mono hcw.size); skip)
  | (go_at_call 17; have hcw:Below w3.heap.size w3 _:=hSB _ (by assumption); have hcon:=callsIn_wide.1 (wBypassed_in 0 B v c L g _ (hSB2 _ hcw).1 (hSB2 _ hcw).2 ha hl hg); (with_reducible refine hcon.mono ?_); clear hcon; rintro e x1 ⟨he,hx⟩; rw [hy] at he; dsimp only [pw,iZ] at he; subst he; have hX1:=hcw.trans (hx.mono hcw.size); skip)
  | (go_at_call 18; have hcw:Below w3.heap.size w3 _:=hSB _ (by assumption); have hcon:=callsIn_wide.1 (wMoves_in 0 B v c L g _ (hSB2 _ hcw).1 (hSB2 _ hcw).2 ha hl hg); (with_reducible refine hcon.mono ?_); clear hcon; rintro e x2 ⟨he,hx⟩; rw [hy] at he; dsimp only [pw,iZ] at he; subst he; have hX2:=hcw.trans (hx.mono hcw.size); skip)
  | (go_at_call 19; have hcw:Below w3.heap.size w3 _:=hSB _ (by assumption); have hcon:=callsIn_wide.1 (wBack_in 0 B v c L g _ (hSB2 _ hcw).1 (hSB2 _ hcw).2 ha hl hg); (with_reducible refine hcon.mono ?_); clear hcon; rintro e x3 ⟨he,hx⟩; rw [hy] at he; dsimp only [pw,iZ] at he; subst he; have hX3:=hcw.trans (hx.mono hcw.size); skip)))
 gi_wp2
 exact bodyPost_ret (results_tmp rfl _ _ _) rfl ⟨rfl,hB3.trans (hX3.mono hB3.size)⟩
end Go.Proofs.Ytimhpaijbbegaaa
namespace Go.Proofs.Ytimhpaijbbegaaa
open Go.RowKit
set_option linter.unusedVariables false
set_option linter.unusedSimpArgs false
structure Sv where
 v0:Value
 v1:Value
 v2:Value
 v3:Value
 v4:Value
 v5:Value
 s:Sn
def Sv.cs (x:Sv) : List Value:=[x.v0,x.v1,x.v2,x.v3,x.v4,x.v5]
def svC:List Sv→List Value
 | []=>[]
 | x::l=>x.cs++svC l
theorem svC_len (l:List Sv) : (svC l).length=l.length * 6:=by
 induction l with
 | nil=>rfl
 | cons x l ih=>simp only [svC,List.length_append,ih,List.length_cons,Sv.cs,List.length_nil]; omega
theorem svC_get (l:List Sv) (k j:Nat) (hk:k < l.length) (hj:j < 6) : (svC l)[k * 6+j]? = l[k].cs[j]?:=by
 induction l generalizing k with
 | nil=>simp at hk
 | cons x l ih =>
  have hx:x.cs.length=6:=rfl
  cases k with
  | zero =>
   simp only [svC,Nat.zero_mul,Nat.zero_add,List.getElem_cons_zero]
   rw [List.getElem?_append_left (by omega)]
  | succ k =>
   simp only [svC,List.getElem_cons_succ]
   rw [List.getElem?_append_right (by omega),hx,show (k+1) * 6+j - 6=k * 6+j by omega]
   exact ih k (by simpa using hk)
structure LawI (w wr:World) (k0 k1 k2 k3 k4 k5:Int) (vm vr:Value) (c:Ct) (L:List Wt) : Prop where
 low:Below w.heap.size w wr
 cf:wr.heap[w.heap.size]? = some (Obj.cells #[iZ k0,iZ k1,iZ k2,iZ k3,iZ k4,iZ k5] 24 (0,0))
 wa:wr.heap[w.heap.size+1]? = some (Obj.cells #[vm,iZ c.si,iZ c.by_,iZ c.mv,.bool c.bk] 30 (0,0))
 re:wr.heap[w.heap.size+1+1]? = some (Obj.cells #[vr,iZ c.si,iZ c.by_,iZ c.mv,.bool c.bk] 33 (0,0))
 mp:MpAt wr.heap.size wr vm L
 rl:SlM 10 wr.heap.size wr vr L.length (wtC L)
theorem LawI.lt {w wr:World} {k0 k1 k2 k3 k4 k5:Int} {vm vr:Value} {c:Ct} {L:List Wt} (h:LawI w wr k0 k1 k2 k3 k4 k5 vm vr c L) : w.heap.size+1+1 < wr.heap.size:=(Array.getElem?_eq_some_iff.1 h.re).1
theorem LawI.keep {w wr w':World} {k0 k1 k2 k3 k4 k5:Int} {vm vr:Value} {c:Ct} {L:List Wt} (h:LawI w wr k0 k1 k2 k3 k4 k5 vm vr c L) (hb:Below wr.heap.size wr w') : LawI w w' k0 k1 k2 k3 k4 k5 vm vr c L :=
 have hl:=h.lt
 ⟨h.low.trans (hb.mono (by omega)),(hb.block _ (by omega)).trans h.cf,(hb.block _ (by omega)).trans h.wa,(hb.block _ hl).trans h.re,(h.mp.keep hb).up hb.size,(h.rl.keep hb).up hb.size⟩
structure OkL (L:List Wt) (n:Nat) : Prop where
 ok:∀ x ∈ L,x.Ok (n:Int)
 ap:Apart L
 wf:∀ x ∈ L,wfG x.g
 len:L.length≤1000
theorem OkL.nil:OkL [] 0:=⟨fun x h=>(by cases h),List.Pairwise.nil,fun x h=>(by cases h),Nat.zero_le _⟩
theorem OkL.look {L:List Wt} {n:Nat} (h:OkL L n) (c:Ct) (s:Sn) (hf:s.few) : OkL (lookTo L c s s.st.length).1 (n+1):=by
 have h1:=hf.1
 refine ⟨?_,lookTo_apart _ _ _ _,fun x hx=>?_,?_⟩
 ·have:=lookTo_ok (c:=c) h.ok (by omega) hf s.st.length
  simpa using this
 ·have:=lookTo_mem hx
  unfold wfG
  omega
 ·have:=lookTo_len L c s s.st.length
  omega
theorem snS_btw {Y:Nat→Prop} {n:Nat} {w2 w7:World} {u0 u1 u2 u3 u4 u5:Value} {s:Sn} (h:SnO n w2 u0 u1 u2 u3 u4 u5 s) (hf:s.few) (hb:Btw Y w2 w7) (hY:∀ j,Y j→j < n) : SnS (fun j=>n≤j∧j < w2.heap.size) w7 u0 u1 u2 u3 u4 u5 s:=by
 have one:∀ {u:Value},RowS (fun j=>n≤j∧j < w2.heap.size) w2 u→RowS (fun j=>n≤j∧j < w2.heap.size) w7 u:=fun hu=>hu.same fun g _ hX _=>hb.block g hX.2 (fun e=>by have:=hY g e; omega)
 have row:∀ {u:Value} {k:Nat} {xs:List Value},w2.ownsRow n 3 1 u k xs→k≤20→RowS (fun j=>n≤j∧j < w2.heap.size) w7 u:=fun hu hk=>one (rowS_own hu hk (fun g h1 h2=>⟨h1,h2⟩))
 have rows:∀ {v:Value} {rs:List (List Int)},RwO n w2 v rs→(rs.length≤20∧∀ r ∈ rs,r.length≤20)→RwS (fun j=>n≤j∧j < w2.heap.size) w7 v rs.length:=by
  intro v rs hv hn
  obtain ⟨vs,h1,h2⟩:=hv
  have hl:=h1.1
  refine ⟨hn.1,vs,by omega,own_slm (own_btw h1 hb hY) (Nat.le_refl _),fun u hu=>?_⟩
  obtain ⟨i,hi,e⟩:=List.getElem_of_mem hu
  obtain ⟨x,e2,hx⟩:=h2 i (by omega)
  rw [List.getElem?_eq_getElem hi,e] at e2
  cases e2
  exact row hx (hn.2 _ (List.getElem_mem _))
 exact ⟨row h.st hf.1,row h.nx hf.2.1,rows h.ri hf.2.2.1,row h.gl hf.2.2.2.1,rows h.ha hf.2.2.2.2.1,row h.lv hf.2.2.2.2.2⟩
theorem set_five {W:World} {b:Nat} {t:TypeId} {fr:Nat×Nat} {x0 x1 x2 x3 x4:Value} (h:W.heap[b]? = some (Obj.cells #[x0,x1,x2,x3,x4] t fr)) (z0 z1 z2 z3 z4:Value) :
  (((((W.setCell ⟨b,0,none⟩ z0).setCell ⟨b,1,none⟩ z1).setCell ⟨b,2,none⟩ z2).setCell ⟨b,3,none⟩ z3).setCell ⟨b,4,none⟩ z4).heap[b]? = some (Obj.cells #[z0,z1,z2,z3,z4] t fr):=by
 have:=(set_at (set_at (set_at (set_at (set_at h 0 z0) 1 z1) 2 z2) 3 z3) 4 z4)
 simp only [List.setIfInBounds_toArray,List.set_cons_zero,List.set_cons_succ] at this
 exact this
theorem btw_five {X:Nat→Prop} {w W:World} {b:Nat} (h:Btw X w W) (hX:X b) (z0 z1 z2 z3 z4:Value) : Btw X w (((((W.setCell ⟨b,0,none⟩ z0).setCell ⟨b,1,none⟩ z1).setCell ⟨b,2,none⟩ z2).setCell ⟨b,3,none⟩ z3).setCell ⟨b,4,none⟩ z4) :=
 ((((h.setCell _ _ (.inl hX)).setCell _ _ (.inl hX)).setCell _ _ (.inl hX)).setCell _ _ (.inl hX)).setCell _ _ (.inl hX)
theorem slm_btw {X:Nat→Prop} {w w':World} {n:Nat} {e:TypeId} {sz k:Nat} {v:Value} {xs:List Value} (h:w.ownsRow n e sz v k xs) (hb:Btw X w w') (hX:∀ j,X j→j < n) : SlM sz w.heap.size w' v k xs:=by
 have h1:=own_slm h (Nat.le_refl _)
 have h2:=own_slm (own_btw h hb hX) (Nat.le_refl _)
 obtain ⟨l1,⟨e1,a,c,rfl⟩ | ⟨b,off,c,rfl,hlt,_⟩⟩:=h1
 ·exact ⟨l1,.inl ⟨e1,a,c,rfl⟩⟩
 ·obtain ⟨l2,⟨e2,a',c',hv⟩ | ⟨b',off',c',hv,_,hc⟩⟩:=h2
  ·cases hv
   exact ⟨l1,.inl ⟨e2,_,_,rfl⟩⟩
  ·cases hv
   exact ⟨l1,.inr ⟨b,off,c,rfl,hlt,hc⟩⟩
theorem rwm_btw {X:Nat→Prop} {w w':World} {n:Nat} {v:Value} {rs:List (List Int)} (h:RwO n w v rs) (hb:Btw X w w') (hX:∀ j,X j→j < n) : RwM w.heap.size w' v rs:=by
 obtain ⟨vs,h1,h2⟩:=h
 have hl:=h1.1
 refine ⟨vs,by omega,slm_btw h1 hb hX,fun k hk=>?_⟩
 obtain ⟨u,e,hu⟩:=h2 k hk
 exact ⟨u,e,slm_btw hu hb hX⟩
theorem SnO.snX {n:Nat} {w:World} {v0 v1 v2 v3 v4 v5:Value} {s:Sn} (h:SnO n w v0 v1 v2 v3 v4 v5 s) {X:Nat→Prop} (hX:∀ j,X j→j < n) : SnX X w v0 v1 v2 v3 v4 v5 s:=fun w' hb=>⟨slm_btw h.st hb hX,slm_btw h.nx hb hX,rwm_btw h.ri hb hX,slm_btw h.gl hb hX,rwm_btw h.ha hb hX,slm_btw h.lv hb hX⟩
end Go.Proofs.Ytimhpaijbbegaaa
