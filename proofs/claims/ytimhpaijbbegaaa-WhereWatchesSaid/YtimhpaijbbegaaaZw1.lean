/- Part of a proof: see the last text. -/
import Derived.Test.YtimhpaijbbegaaaZw0
import Derived.Deep.Upon
import Derived.Deep.RegionHeld3
namespace Go.Proofs.Ytimhpaijbbegaaa
open Go.RowKit
set_option linter.unusedVariables false
set_option linter.unusedSimpArgs false
theorem own_one {l:List Pl} : ∀ u ∈ plC l,u.oneCell'=true:=by
 induction l with
 | nil=>intro u h; cases h
 | cons p l ih =>
  intro u h
  simp only [plC,List.mem_cons] at h
  rcases h with rfl | rfl | rfl | h
  ·rfl
  ·rfl
  ·rfl
  ·exact ih u h
theorem wpListIn_append_run {F:Fence} {n:Nat} {P:Program} {w w':World} {ops:Array Oper} {rest:List Oper} {o:Oper} {a:Act} {Q:Exit→Act→World→Prop} {v':Value}
  (hg:o.guard=none) (s x:Operand) (t:TypeId) (hop:o.op=Op.call { callee:=Callee.builtin Builtin.append,args:=#[s,x],argTypes:=#[t,t] }) (hrun:(Builtin.append_ #[t,t] o.type #[a.eval s,a.eval x]).run P w=.ok v' w')
  (hK:wpListIn F n P ops Q rest (a.put o.dst v') w') : wpListIn F n P ops Q (o::rest) a w:=by
 refine wpListIn_plain hg fun K hK'=>?_
 unfold Oper.wpIn
 refine ⟨?_,?_⟩
 ·simp [Oper.about,hop,resolve,Target.leads,Sem.run_pure]
 ·rw [Oper.semAt_plain F _ _ (by rw [hop]; intro c hc'; cases hc')]
  simp [execOp,hop,resolve,invoke,builtin,hrun,Result.andThen]
  exact hK' _ _ hK
theorem app_any {P:Program} {W:World} {base base':Nat} (t ty e:TypeId) {i:TypeInfo} {z:Value} {size bytes:Nat} (ht:P.underlying t=some (.slice e)) (hi:P.info? e=some i) (hz:i.zero=some z) (hsize:i.size=size) (hby:i.bytes=bytes) (hzs:z.cells.size=size) (hsz:0 < size) {v u:Value} {n m:Nat} {xs ys:List Value}
  (hr:W.ownsRow base e size v n xs) (hu:W.ownsRow base' e size u m ys) (h1:∀ u ∈ ys,u.oneCell'=true) (h63:n+m≤maxLen) (hb:(n+m) * bytes≤140737488355328) (hbase:base≤W.heap.size) :
  ∃ v' w',(Builtin.append_ #[t,t] ty #[v,u]).run P W=.ok v' w'∧w'.ownsRow base e size v' (n+m) (xs++ys)∧W.grownBy w' v.ownBlock:=by
 have hu0:=hu
 rcases hu with ⟨hl,⟨rfl,rfl⟩ | ⟨g,cap,cur,rfl,_,hg,hc,_,hs,hx⟩⟩
 ·have hy:ys=[]:=List.eq_nil_of_length_eq_zero (by rw [hl]; simp)
  subst hy
  obtain ⟨a,c,hnc,rfl⟩ : ∃ a c,n≤c∧v=.slice a n c:=by
   rcases hr.2 with ⟨rfl,rfl⟩ | ⟨g,cap,cur,rfl,_,_,h,_⟩
   ·exact ⟨_,_,Nat.le_refl _,rfl⟩
   ·exact ⟨_,_,h,rfl⟩
  exact ⟨_,_,run_append_nothing W t t ty e i ht hi a n c hnc _ (Src.ofNil _ ht 0),by simpa using hr,⟨rfl,rfl,rfl,Nat.le_refl _,fun _ _ _=>rfl⟩⟩
 ·obtain ⟨v',w',r1,r2,r3,_⟩:=run_append_own (P:=P) W base t ty e i z size bytes ht hi hz hsize hby hzs hsz v n xs hr ⟨g,0,none⟩ m cap ys hl (hu0.cells rfl) h1 h63 hb hbase
  exact ⟨v',w',r1,r2,r3⟩
theorem Below.grownBy {W W':World} (h:Below W.heap.size W W') : W.grownBy W' none:=⟨h.os,h.tape,h.output,h.size,fun k hk _=>h.block k hk⟩
theorem own_stay {w w':World} {n:Nat} {e:TypeId} {sz k:Nat} {v:Value} {xs:List Value} (h:w.ownsRow n e sz v k xs) (hb:Below w.heap.size w w') : w'.ownsRow n e sz v k xs:=by
 refine h.kept (Below.grownBy hb) ?_
 cases v.ownBlock with
 | none=>exact .inl rfl
 | some b=>exact .inr (by simp)
structure Sn where
 st:List Int
 nx:List Int
 ri:List (List Int)
 gl:List Int
 ha:List (List Int)
 lv:List Int
def Sn.few (s:Sn) : Prop:=s.st.length≤20∧s.nx.length≤20∧(s.ri.length≤20∧∀ r ∈ s.ri,r.length≤20)∧s.gl.length≤20∧(s.ha.length≤20∧∀ r ∈ s.ha,r.length≤20)∧s.lv.length≤20
structure SnM (n:Nat) (W:World) (v0 v1 v2 v3 v4 v5:Value) (s:Sn) : Prop where
 st:SlM 1 n W v0 s.st.length (iV s.st)
 nx:SlM 1 n W v1 s.nx.length (iV s.nx)
 ri:RwM n W v2 s.ri
 gl:SlM 1 n W v3 s.gl.length (iV s.gl)
 ha:RwM n W v4 s.ha
 lv:SlM 1 n W v5 s.lv.length (iV s.lv)
theorem SnM.keep {n:Nat} {W W':World} {v0 v1 v2 v3 v4 v5:Value} {s:Sn} (h:SnM n W v0 v1 v2 v3 v4 v5 s) (hb:Below n W W') : SnM n W' v0 v1 v2 v3 v4 v5 s:=⟨h.st.keep hb,h.nx.keep hb,h.ri.keep hb,h.gl.keep hb,h.ha.keep hb,h.lv.keep hb⟩
def Sn.items (s:Sn) : List (Pl×Int):=Proofs.Ytimhpaijbbegaaa.items s.nx s.gl s.ri s.ha
theorem SlM.up {sz n n' k:Nat} {W:World} {v:Value} {xs:List Value} (h:SlM sz n W v k xs) (hn:n≤n') : SlM sz n' W v k xs:=by
 obtain ⟨h1,h2 | ⟨b,off,c,rfl,hlt,hc⟩⟩:=h
 ·exact ⟨h1,.inl h2⟩
 ·exact ⟨h1,.inr ⟨b,off,c,rfl,Nat.lt_of_lt_of_le hlt hn,hc⟩⟩
theorem rowsTo_succ {kd k:Nat} {rs:List (List Int)} (hk:k < rs.length) : rowsTo kd rs (k+1)=rowsTo kd rs k++rowTo kd k rs[k] rs[k].length:=by
 show rowsTo kd rs k++rowTo kd k (rs.getD k []) (rs.getD k []).length=_
 rw [List.getD_eq_getElem?_getD,List.getElem?_eq_getElem hk]
 rfl
theorem nextTo_succ {k:Nat} {l:List Int} (hk:k < l.length) : nextTo l (k+1)=nextTo l k++if l[k] = -1 then [] else [(⟨1,k,0⟩,l[k])]:=by
 show nextTo l k++(if l.getD k 0 = -1 then [] else [(⟨1,k,0⟩,l.getD k 0)])=_
 rw [List.getD_eq_getElem?_getD,List.getElem?_eq_getElem hk]
 rfl
theorem own_weak {w:World} {n n':Nat} {e:TypeId} {sz k:Nat} {v:Value} {xs:List Value} (h:w.ownsRow n e sz v k xs) (hn:n'≤n) : w.ownsRow n' e sz v k xs:=by
 obtain ⟨h1,h2 | ⟨g,cap,cur,a,b,r⟩⟩:=h
 ·exact ⟨h1,.inl h2⟩
 ·exact ⟨h1,.inr ⟨g,cap,cur,a,Nat.le_trans hn b,r⟩⟩
theorem rows_lt {kd k:Nat} {rs:List (List Int)} (h:rs.length≤20∧∀ r ∈ rs,r.length≤20) (hk:k≤rs.length) : (rowsTo kd rs k).length≤400:=by
 have:∀ k,k≤rs.length→(rowsTo kd rs k).length≤20 * k:=by
  intro k
  induction k with
  | zero=>intro _; simp [rowsTo]
  | succ k ih =>
   intro hk
   rw [rowsTo_succ (by omega),List.length_append,rowTo_len]
   have:=ih (by omega)
   have:=h.2 _ (List.getElem_mem (show k < rs.length by omega))
   omega
 have:=this k hk
 omega
set_option maxRecDepth 4000 in
set_option maxHeartbeats 4000000 in
theorem refPlaces_in (m:Nat) (v0 v1 v2 v3 v4 v5:Value) (s:Sn) (hf:s.few) (g:Int) (w:World) (hs:SnM w.heap.size w v0 v1 v2 v3 v4 v5 s) : CallsIn Fence.wide m Try.prog 25 #[.agg #[v0,v1,v2,v3,v4,v5],iZ g] w fun e w'=>∃ u,e=.returned u∧w'.ownsRow w.heap.size 61 3 u (picks g s.items).length (plC (picks g s.items))∧Below w.heap.size w w':=by
 refine callsIn_of_wp Try.func25 rfl trivial ?_ rfl
 simp only [Try.ntmps25,List.size_toArray,List.length_cons,List.length_nil,Nat.reduceAdd,Nat.reduceSub,Array.replicate_succ,Array.replicate_zero,List.push_toArray,List.append_toArray,List.nil_append,List.cons_append]
 obtain ⟨i0,hi,hz0,hz1,hz2⟩:=info_parts infoRp
 obtain ⟨fst,fnx,fri,fgl,fha,flv⟩:=hf
 obtain ⟨a1,c1,rfl⟩:=hs.nx.val
 obtain ⟨a2,c2,rfl⟩:=hs.ri.val
 obtain ⟨a3,c3,rfl⟩:=hs.gl.val
 obtain ⟨a4,c4,rfl⟩:=hs.ha.val
 obtain ⟨W1,hW1⟩ : ∃ W1,w.alloc (.cells #[v0,.slice a1 s.nx.length c1,.slice a2 s.ri.length c2,.slice a3 s.gl.length c3,.slice a4 s.ha.length c4,v5] 39)=W1:=⟨_,rfl⟩
 have hsz:W1.heap.size=w.heap.size+1:=by rw [← hW1]; simp
 have hBw:Below w.heap.size w W1:=by rw [← hW1]; exact (Below.refl _ w).alloc (Nat.le_refl _) _
 have hb0:W1.heap[w.heap.size]? = some (Obj.cells #[v0,.slice a1 s.nx.length c1,.slice a2 s.ri.length c2,.slice a3 s.gl.length c3,.slice a4 s.ha.length c4,v5] 39 (0,0)):=by rw [← hW1]; exact World.alloc_heap_new _ _
 have hbx:∀ W',Below W1.heap.size W1 W'→∀ i u,#[v0,.slice a1 s.nx.length c1,.slice a2 s.ri.length c2,.slice a3 s.gl.length c3,.slice a4 s.ha.length c4,v5][i]? = some u→W'.cell? ⟨w.heap.size,i,none⟩=some u:=by
  intro W' hW' i u hu
  have:=(hW'.block w.heap.size (by omega)).trans hb0
  simp only [World.cell?,this]
  simpa using hu
 have hc1:=hbx _ (Below.refl _ _) 1 _ rfl
 dsimp only [iZ]
 gi_wp2
 gi_loopw [5,6] (fun v p wr=>∃ k:Nat,p=.int .i64 (k:Int)∧k≤s.nx.length∧wr.ownsRow W1.heap.size 61 3 v (picks g (nextTo s.nx k)).length (plC (picks g (nextTo s.nx k)))∧Below W1.heap.size W1 wr) (fun _ p _=>s.nx.length - (intOf p).toNat)
 case atStart=>exact ⟨0,rfl,Nat.zero_le _,World.ownsRow_nil _ _ _ _,Below.refl _ _⟩
 case round =>
  obtain ⟨k,rfl,hk,hr,hB⟩:=hrel
  have hcb:=hbx _ hB 1 _ rfl
  by_cases hlt:k < s.nx.length
  ·have hlI:(k:Int) < (s.nx.length:Int):=by omega
   obtain ⟨b,off,c,hv,hb,hc⟩:=((hs.nx.keep hBw).keep (hB.mono (by omega))).get hlt
   cases hv
   have e1:=nextTo_succ hlt
   have hpl:=picks_len g (nextTo s.nx k)
   have hpn:=nextTo_len s.nx k
   obtain ⟨x,hx⟩ : ∃ x,s.nx[k]=x:=⟨_,rfl⟩
   rw [hx] at hc e1
   by_cases hg:x=g
   ·subst hg
    by_cases hm:x = -1
    ·subst hm
     rw [if_pos rfl,List.append_nil] at e1
     gi_wp2
     exact ⟨⟨k+1,rfl,by omega,by rw [e1]; exact hr,hB⟩,by simp [intOf]; omega⟩
    ·rw [if_neg hm] at e1
     have hmb:(x != -1)=true:=by simpa using hm
     have e2:picks x (nextTo s.nx (k+1))=picks x (nextTo s.nx k)++[⟨1,k,0⟩]:=by rw [e1,picks_app]; simp [picks]
     gi_wp2_with (gi_at_builtin; refine wpListIn_append_own _ rfl _ _ 67 rfl W1.heap.size 61 i0 (.agg #[.int .i64 0,.int .i64 0,.int .i64 0]) 3 24 Try.underlying67 hi hz0 hz1 hz2 rfl (by decide) _ _ _ rfl (hr.alloc _) ⟨wr.heap.size,0,none⟩ 1 1 [.int .i64 1,.int .i64 (k:Int),.int .i64 0] rfl rfl (cell_three_new _ _ _ _ _) (by simp [Value.oneCell']) (by unfold maxLen; omega) (by omega) (by have:=hB.size; simp; omega) ?_; intro v' w1 hown' hgrow _)
     have hgrow2:(wr.alloc (.cells #[.int .i64 1,.int .i64 (k:Int),.int .i64 0] 61)).grownBy w1 u5.ownBlock:=hgrow
     refine ⟨⟨k+1,rfl,by omega,?_,hB.trans (below_grown hr ((Below.refl _ wr).alloc hB.size _) (by simp; have:=hB.size; omega) hgrow2)⟩,by simp [intOf]; omega⟩
     rw [e2,plC_app,List.length_append]
     exact hown'
   ·have hgb:(x == g)=false:=by simpa using hg
    have e2:picks g (nextTo s.nx (k+1))=picks g (nextTo s.nx k):=by
     rw [e1,picks_app]
     split <;> simp [picks,hg]
    gi_wp2
    exact ⟨⟨k+1,rfl,by omega,by rw [e2]; exact hr,hB⟩,by simp [intOf]; omega⟩
  ·obtain rfl:k=s.nx.length:=by omega
   have hlI:¬ ((s.nx.length:Nat) : Int) < (s.nx.length:Int):=by omega
   have hrL:=hr
   have hBL:=hB
   clear hr hB
   gi_wp2
   gi_loopw [5,7] (fun v p wr=>∃ k:Nat,p=.int .i64 (k:Int)∧k≤s.ri.length∧wr.ownsRow W1.heap.size 61 3 v (picks g (nextTo s.nx s.nx.length++rowsTo 2 s.ri k)).length (plC (picks g (nextTo s.nx s.nx.length++rowsTo 2 s.ri k)))∧Below W1.heap.size W1 wr) (fun _ p _=>s.ri.length - (intOf p).toNat)
   case atStart=>exact ⟨0,rfl,Nat.zero_le _,by rw [show rowsTo 2 s.ri 0=[] from rfl,List.append_nil]; exact hrL,hBL⟩
   clear hrL hBL hcb
   case round =>
    obtain ⟨k,rfl,hk,hr,hB⟩:=hrel
    have hcb:=hbx _ hB 2 _ rfl
    by_cases hlt:k < s.ri.length
    ·have hlI:(k:Int) < (s.ri.length:Int):=by omega
     obtain ⟨b,off,c,rv,hv,hb,hc,hrv⟩:=(((hs.ri.keep hBw).keep (hB.mono (by omega))).get hlt)
     cases hv
     have hB1:W1.heap.size≤wr.heap.size:=hB.size
     gi_wp2
     refine ⟨trivial,fun h=>by simp [Fence.wide] at h,(row_in (m - 1) rv s.ri[k] 2 k g wr (hrv.up (by omega)) (by have:=fri.2 _ (List.getElem_mem hlt); omega)).mono ?_⟩
     rintro e w3 ⟨u,rfl,hu,hb3⟩
     have hpl:=picks_len g (rowTo 2 k s.ri[k] s.ri[k].length)
     rw [rowTo_len] at hpl
     have hr1:=fri.2 _ (List.getElem_mem hlt)
     have hp2:=picks_len g (nextTo s.nx s.nx.length++rowsTo 2 s.ri k)
     have hp3:=rows_lt (kd:=2) fri hk
     have hp4:=nextTo_len s.nx s.nx.length
     have hp5:=rows_lt (kd:=2) fri (Nat.le_refl s.ri.length)
     have hp6:(rowsTo 3 [s.gl] 1).length=s.gl.length:=by simp [rowsTo,rowTo_len]
     simp only [List.length_append] at hp2
     obtain ⟨v',w1,q1,q2,q3⟩:=app_any 67 67 61 Try.underlying67 hi hz0 hz1 hz2 rfl (by decide) (own_stay hr hb3) hu own_one (by unfold maxLen; omega) (by omega) (Nat.le_trans hB1 hb3.size)
     gi_wp2_with (gi_at_builtin; refine wpListIn_append_run rfl _ _ _ rfl q1 ?_)
     refine ⟨⟨k+1,rfl,by omega,?_,(hB.trans (hb3.mono hB1)).trans ?_⟩,by simp [intOf]; omega⟩
     ·rw [rowsTo_succ hlt,← List.append_assoc,picks_app g (_++_),plC_app,List.length_append]
      exact q2
     ·exact below_grown (own_stay hr hb3) (Below.refl _ _) (Nat.le_trans hB1 hb3.size) q3
    ·obtain rfl:k=s.ri.length:=by omega
     have hlI:¬ ((s.ri.length:Nat) : Int) < (s.ri.length:Int):=by omega
     have hcg:=hbx _ hB 3 _ rfl
     have hB1:W1.heap.size≤wr.heap.size:=hB.size
     gi_wp2
     refine ⟨trivial,fun h=>by simp [Fence.wide] at h,(row_in (m - 1) _ s.gl 3 0 g wr (((hs.gl.keep hBw).keep (hB.mono (by omega))).up (by omega)) (by omega)).mono ?_⟩
     rintro e w3 ⟨u,rfl,hu,hb3⟩
     have hpl:=picks_len g (rowTo 3 0 s.gl s.gl.length)
     rw [rowTo_len] at hpl
     have hp2:=picks_len g (nextTo s.nx s.nx.length++rowsTo 2 s.ri s.ri.length)
     have hp3:=rows_lt (kd:=2) fri (Nat.le_refl _)
     have hp4:=nextTo_len s.nx s.nx.length
     simp only [List.length_append] at hp2
     obtain ⟨v',w1,q1,q2,q3⟩:=app_any 67 67 61 Try.underlying67 hi hz0 hz1 hz2 rfl (by decide) (own_stay hr hb3) hu own_one (by unfold maxLen; omega) (by omega) (Nat.le_trans hB1 hb3.size)
     have hBL:=(hB.trans (hb3.mono hB1)).trans (below_grown (own_stay hr hb3) (Below.refl _ _) (Nat.le_trans hB1 hb3.size) q3)
     have hrL:w1.ownsRow W1.heap.size 61 3 v' (picks g (nextTo s.nx s.nx.length++rowsTo 2 s.ri s.ri.length++rowsTo 3 [s.gl] 1)).length (plC (picks g (nextTo s.nx s.nx.length++rowsTo 2 s.ri s.ri.length++rowsTo 3 [s.gl] 1))):=by
      rw [show rowsTo 3 [s.gl] 1=rowTo 3 0 s.gl s.gl.length from by simp [rowsTo],picks_app g (_++_),plC_app,List.length_append]
      exact q2
     clear hr hB hB1 hb3 q2 q3
     gi_wp2_with (gi_at_builtin; refine wpListIn_append_run rfl _ _ _ rfl q1 ?_)
     clear q1
     gi_loopw [5,8] (fun v p wr=>∃ k:Nat,p=.int .i64 (k:Int)∧k≤s.ha.length∧wr.ownsRow W1.heap.size 61 3 v (picks g (nextTo s.nx s.nx.length++rowsTo 2 s.ri s.ri.length++rowsTo 3 [s.gl] 1++rowsTo 4 s.ha k)).length (plC (picks g (nextTo s.nx s.nx.length++rowsTo 2 s.ri s.ri.length++rowsTo 3 [s.gl] 1++rowsTo 4 s.ha k)))∧Below W1.heap.size W1 wr) (fun _ p _=>s.ha.length - (intOf p).toNat)
     case atStart=>exact ⟨0,rfl,Nat.zero_le _,by rw [show rowsTo 4 s.ha 0=[] from rfl,List.append_nil]; exact hrL,hBL⟩
     clear hrL hBL hcb hcg
     case round =>
      obtain ⟨k,rfl,hk,hr,hB⟩:=hrel
      have hcb:=hbx _ hB 4 _ rfl
      by_cases hlt:k < s.ha.length
      ·have hlI:(k:Int) < (s.ha.length:Int):=by omega
       obtain ⟨b,off,c,rv,hv,hb,hc,hrv⟩:=(((hs.ha.keep hBw).keep (hB.mono (by omega))).get hlt)
       cases hv
       have hB1:W1.heap.size≤wr.heap.size:=hB.size
       gi_wp2
       refine ⟨trivial,fun h=>by simp [Fence.wide] at h,(row_in (m - 1) rv s.ha[k] 4 k g wr (hrv.up (by omega)) (by have:=fha.2 _ (List.getElem_mem hlt); omega)).mono ?_⟩
       rintro e w3 ⟨u,rfl,hu,hb3⟩
       have hpl:=picks_len g (rowTo 4 k s.ha[k] s.ha[k].length)
       rw [rowTo_len] at hpl
       have hr1:=fha.2 _ (List.getElem_mem hlt)
       have hp2:=picks_len g (nextTo s.nx s.nx.length++rowsTo 2 s.ri s.ri.length++rowsTo 3 [s.gl] 1++rowsTo 4 s.ha k)
       have hp3:=rows_lt (kd:=4) fha hk
       have hp4:=nextTo_len s.nx s.nx.length
       have hp5:=rows_lt (kd:=2) fri (Nat.le_refl s.ri.length)
       have hp6:(rowsTo 3 [s.gl] 1).length=s.gl.length:=by simp [rowsTo,rowTo_len]
       simp only [List.length_append] at hp2
       obtain ⟨v',w1,q1,q2,q3⟩:=app_any 67 67 61 Try.underlying67 hi hz0 hz1 hz2 rfl (by decide) (own_stay hr hb3) hu own_one (by unfold maxLen; omega) (by omega) (Nat.le_trans hB1 hb3.size)
       gi_wp2_with (gi_at_builtin; refine wpListIn_append_run rfl _ _ _ rfl q1 ?_)
       refine ⟨⟨k+1,rfl,by omega,?_,(hB.trans (hb3.mono hB1)).trans ?_⟩,by simp [intOf]; omega⟩
       ·rw [rowsTo_succ hlt,← List.append_assoc,picks_app g (_++_),plC_app,List.length_append]
        exact q2
       ·exact below_grown (own_stay hr hb3) (Below.refl _ _) (Nat.le_trans hB1 hb3.size) q3
      ·obtain rfl:k=s.ha.length:=by omega
       have hlI:¬ ((s.ha.length:Nat) : Int) < (s.ha.length:Int):=by omega
       gi_wp2
       refine bodyPost_ret (results_tmp rfl _ _ _) rfl ⟨_,rfl,?_,hBw.trans (hB.mono (by omega))⟩
       refine own_weak ?_ (by omega:w.heap.size≤W1.heap.size)
       exact hr
end Go.Proofs.Ytimhpaijbbegaaa
namespace Go.Proofs.Ytimhpaijbbegaaa
open Go.RowKit
set_option linter.unusedVariables false
set_option linter.unusedSimpArgs false
set_option maxHeartbeats 4000000 in
theorem step_in (m:Nat) (x:Wt) (b:Int) (hx:x.Ok b) (hb:b≤1000) (lv:Value) (o:Option Pl) (hk:∀ p,o=some p→p.kd≤4∧p.at_≤1000∧p.ah≤1000) (w:World) (hl:PlAt w lv o) :
  CallsIn Fence.wide m Try.prog 24 #[.agg x.cs.toArray,lv] w fun e w'=>e=.returned (.agg (stepW x o).cs.toArray)∧Below w.heap.size w w':=by
 refine callsIn_of_wp Try.func24 rfl trivial ?_ rfl
 simp only [Try.ntmps24,List.size_toArray,List.length_cons,List.length_nil,Nat.reduceAdd,Nat.reduceSub,Array.replicate_succ,Array.replicate_zero,List.push_toArray,List.append_toArray,List.nil_append,List.cons_append]
 obtain ⟨g,si,by_,mv,bk,li,hd,⟨xk,xa,xh⟩⟩:=x
 obtain ⟨⟨h1,h2⟩,⟨h3,h4⟩,⟨h5,h6⟩,h7,h8⟩:=hx
 dsimp only at h1 h2 h3 h4 h5 h6 h7 h8
 obtain ⟨rv,hrv⟩ : ∃ rv,Value.agg (stepW ⟨g,si,by_,mv,bk,li,hd,⟨xk,xa,xh⟩⟩ o).cs.toArray=rv:=⟨_,rfl⟩
 rw [hrv]
 cases o with
 | none =>
  obtain ⟨a,c,rfl⟩:=hl
  dsimp only [Wt.cs,iM,iZ]
  gi_wp2
  refine post_cell rfl rfl rfl (loadWt _ _ _ _ _ _ _ _ _ _ _ _ (heap_al2 _ _ _)) ⟨?_,below_al2 _ _ _⟩
  rw [← hrv]
  rfl
 | some p =>
  obtain ⟨kd,at_,ah⟩:=p
  obtain ⟨k1,k2,k3⟩:=hk _ rfl
  obtain ⟨bl,off,n,c,rfl,c1,c2,c3,hlt⟩:=hl
  dsimp only at k1 k2 k3
  dsimp only [Wt.cs,iM,iZ] at c1 c2 c3 ⊢
  have hlt:bl < w.heap.size:=hlt
  have n0:bl ≠ w.heap.size:=by omega
  have n1:bl ≠ w.heap.size+1:=by omega
  have n2:((n:Int)+1 == 0)=false:=by
   rw [beq_eq_false_iff_ne]
   omega
  rcases (by omega:kd=0∨kd=1∨kd=2∨kd=3∨kd=4) with rfl | rfl | rfl | rfl | rfl
  ·gi_wp2
   refine post_cell rfl rfl rfl (loadWt _ _ _ _ _ _ _ _ _ _ _ _ (heap_al3 _ _ _ _)) ⟨?_,below_al3 _ _ _ _⟩
   rw [← hrv]
   rfl
  ·have hl:(li:Int) > 0↔0 < li:=by omega
   by_cases hq:0 < li
   ·have hq':(0:Int) < (li:Int):=by omega
    gi_wp2
    refine post_cell rfl rfl rfl (loadWt _ _ _ _ _ _ _ _ _ _ _ _ (heap_al3 _ _ _ _)) ⟨?_,below_al3 _ _ _ _⟩
    rw [← hrv]
    simp [stepW,Wt.cs,hq]
   ·have hq':¬ (0:Int) < (li:Int):=by omega
    gi_wp2
    refine post_cell rfl rfl rfl (loadWt _ _ _ _ _ _ _ _ _ _ _ _ (heap_al3 _ _ _ _)) ⟨?_,below_al3 _ _ _ _⟩
    rw [← hrv]
    simp [stepW,Wt.cs,hq]
  ·rcases (by cases hd <;> simp:hd=false∨hd=true) with hd0 | hd0
   ·have q1:hd=false:=hd0
    subst q1
    gi_wp2
    refine post_cell rfl rfl rfl (loadWt _ _ _ _ _ _ _ _ _ _ _ _ (heap_al3 _ _ _ _)) ⟨?_,below_al3 _ _ _ _⟩
    rw [← hrv]
    simp [stepW,Wt.cs]
   ·have q1:hd=true:=hd0
    subst q1
    by_cases q2:xk=2
    ·subst q2
     by_cases q3:at_=xa
     ·skip
      subst q3
      gi_wp2
      all_goals
       refine post_cell rfl rfl rfl (loadWt _ _ _ _ _ _ _ _ _ _ _ _ (heap_al3 _ _ _ _)) ⟨?_,below_al3 _ _ _ _⟩
       rw [← hrv]
       simp [stepW,Wt.cs]
       omega
     ·have q4:((at_:Int) == (xa:Int))=false:=by rw [beq_eq_false_iff_ne]; omega
      gi_wp2
      refine post_cell rfl rfl rfl (loadWt _ _ _ _ _ _ _ _ _ _ _ _ (heap_al3 _ _ _ _)) ⟨?_,below_al3 _ _ _ _⟩
      rw [← hrv]
      simp [stepW,Wt.cs,q3]
    ·have q4:((2:Int) == (xk:Int))=false:=by rw [beq_eq_false_iff_ne]; omega
     have q5:¬ 2=xk:=fun e=>q2 e.symm
     gi_wp2
     refine post_cell rfl rfl rfl (loadWt _ _ _ _ _ _ _ _ _ _ _ _ (heap_al3 _ _ _ _)) ⟨?_,below_al3 _ _ _ _⟩
     rw [← hrv]
     simp [stepW,Wt.cs,q2,q5]
  ·by_cases hq:li=2
   ·subst hq
    rcases (by cases hd <;> simp:hd=false∨hd=true) with hd0 | hd0
    ·have q1:hd=false:=hd0
     subst q1
     gi_wp2
     refine post_cell rfl rfl rfl (loadWt _ _ _ _ _ _ _ _ _ _ _ _ (heap_al3 _ _ _ _)) ⟨?_,below_al3 _ _ _ _⟩
     rw [← hrv]
     simp [stepW,Wt.cs]
    ·have q1:hd=true:=hd0
     subst q1
     by_cases q2:xk=3
     ·subst q2
      by_cases q3:at_=xa
      ·skip
       subst q3
       gi_wp2
       all_goals
        refine post_cell rfl rfl rfl (loadWt _ _ _ _ _ _ _ _ _ _ _ _ (heap_al3 _ _ _ _)) ⟨?_,below_al3 _ _ _ _⟩
        rw [← hrv]
        simp [stepW,Wt.cs]
        omega
      ·have q4:((at_:Int) == (xa:Int))=false:=by rw [beq_eq_false_iff_ne]; omega
       gi_wp2
       refine post_cell rfl rfl rfl (loadWt _ _ _ _ _ _ _ _ _ _ _ _ (heap_al3 _ _ _ _)) ⟨?_,below_al3 _ _ _ _⟩
       rw [← hrv]
       simp [stepW,Wt.cs,q3]
     ·have q4:((3:Int) == (xk:Int))=false:=by rw [beq_eq_false_iff_ne]; omega
      have q5:¬ 3=xk:=fun e=>q2 e.symm
      gi_wp2
      refine post_cell rfl rfl rfl (loadWt _ _ _ _ _ _ _ _ _ _ _ _ (heap_al3 _ _ _ _)) ⟨?_,below_al3 _ _ _ _⟩
      rw [← hrv]
      simp [stepW,Wt.cs,q2,q5]
   ·have hq2:((li:Int) == 2)=false:=by rw [beq_eq_false_iff_ne]; omega
    rcases (by cases hd <;> simp:hd=false∨hd=true) with hd0 | hd0
    ·have q1:hd=false:=hd0
     subst q1
     gi_wp2
     refine post_cell rfl rfl rfl (loadWt _ _ _ _ _ _ _ _ _ _ _ _ (heap_al3 _ _ _ _)) ⟨?_,below_al3 _ _ _ _⟩
     rw [← hrv]
     simp [stepW,Wt.cs,hq]
    ·have q1:hd=true:=hd0
     subst q1
     by_cases q2:xk=3
     ·subst q2
      by_cases q3:at_=xa
      ·skip
       subst q3
       gi_wp2
       all_goals
        refine post_cell rfl rfl rfl (loadWt _ _ _ _ _ _ _ _ _ _ _ _ (heap_al3 _ _ _ _)) ⟨?_,below_al3 _ _ _ _⟩
        rw [← hrv]
        simp [stepW,Wt.cs,hq]
        omega
      ·have q4:((at_:Int) == (xa:Int))=false:=by rw [beq_eq_false_iff_ne]; omega
       gi_wp2
       refine post_cell rfl rfl rfl (loadWt _ _ _ _ _ _ _ _ _ _ _ _ (heap_al3 _ _ _ _)) ⟨?_,below_al3 _ _ _ _⟩
       rw [← hrv]
       simp [stepW,Wt.cs,hq,q3]
     ·have q4:((3:Int) == (xk:Int))=false:=by rw [beq_eq_false_iff_ne]; omega
      have q5:¬ 3=xk:=fun e=>q2 e.symm
      gi_wp2
      refine post_cell rfl rfl rfl (loadWt _ _ _ _ _ _ _ _ _ _ _ _ (heap_al3 _ _ _ _)) ⟨?_,below_al3 _ _ _ _⟩
      rw [← hrv]
      simp [stepW,Wt.cs,hq,q2,q5]
  ·gi_wp2
   refine post_cell rfl rfl rfl (loadWt _ _ _ _ _ _ _ _ _ _ _ _ (heap_al3 _ _ _ _)) ⟨?_,below_al3 _ _ _ _⟩
   rw [← hrv]
   simp [stepW,Wt.cs]
end Go.Proofs.Ytimhpaijbbegaaa
namespace Go.Proofs.Ytimhpaijbbegaaa
open Go.RowKit
set_option linter.unusedVariables false
set_option linter.unusedSimpArgs false
def lookTo (L:List Wt) (c:Ct) (s:Sn) : Nat→List Wt×Ct
 | 0=>([],c)
 | k+1=>if s.st.getD k 0=1 then ((lookTo L c s k).1++[stepW ((ofW L k).getD (w0 k)) (picks k s.items).head?],mostC (lookTo L c s k).2 ⟨(stepW ((ofW L k).getD (w0 k)) (picks k s.items).head?).si,(stepW ((ofW L k).getD (w0 k)) (picks k s.items).head?).by_,(stepW ((ofW L k).getD (w0 k)) (picks k s.items).head?).mv,(stepW ((ofW L k).getD (w0 k)) (picks k s.items).head?).bk⟩) else lookTo L c s k
theorem lookTo_len (L:List Wt) (c:Ct) (s:Sn) (k:Nat) : (lookTo L c s k).1.length≤k:=by
 induction k with
 | zero=>exact Nat.le_refl _
 | succ k ih =>
  show (if s.st.getD k 0=1 then _ else _:List Wt×Ct).1.length≤k+1
  split
  ·simp; exact ih
  ·omega
theorem max_if (a b:Int) : max a b=if a < b then b else a:=by split <;> omega
theorem infoRw:(Try.prog.info? 63).map (fun i=>(i.zero,i.size,i.bytes))=some (some (.agg #[.int .i64 0,.int .i64 0,.int .i64 0,.int .i64 0,.bool false,.int .i64 0,.bool false,.int .i64 0,.int .i64 0,.int .i64 0]),10,80):=by kernel_rfl
theorem cell_of {W:World} {g:Nat} {xs:Array Value} {t:TypeId} {fr:Nat×Nat} (h:W.heap[g]? = some (Obj.cells xs t fr)) : ∀ (i:Nat) (u:Value),xs[i]? = some u→W.cell? ⟨g,i,none⟩=some u:=by
 intro i u hu
 simp only [World.cell?,h]
 simpa using hu
theorem froz_of {W:World} {g:Nat} {xs:Array Value} {t:TypeId} (h:W.heap[g]? = some (Obj.cells xs t (0,0))) : ∀ (i:Nat),W.frozen? ⟨g,i,none⟩=false:=by
 intro i
 simp [World.frozen?,h]
theorem own_val {w:World} {n:Nat} {e:TypeId} {sz k:Nat} {v:Value} {xs:List Value} (h:w.ownsRow n e sz v k xs) : ∃ a c,v=.slice a k c:=by
 rcases h.2 with ⟨rfl,rfl⟩ | ⟨g,cap,cur,rfl,_⟩
 ·exact ⟨_,_,rfl⟩
 ·exact ⟨_,_,rfl⟩
theorem set_at {W:World} {g:Nat} {xs:Array Value} {t:TypeId} {fr:Nat×Nat} (h:W.heap[g]? = some (Obj.cells xs t fr)) (i:Nat) (u:Value) : (W.setCell ⟨g,i,none⟩ u).heap[g]? = some (Obj.cells (xs.setIfInBounds i u) t fr):=by
 simp [World.setCell,Array.getElem?_modify,h]
theorem set_off {W:World} {g:Nat} {o:Option Obj} (h:W.heap[g]? = o) (a:Addr) (u:Value) (hne:g ≠ a.block) : (W.setCell a u).heap[g]? = o:=(Below.heap_setCell W a u g hne).trans h
theorem own_set {w:World} {n:Nat} {e:TypeId} {sz k:Nat} {v:Value} {xs:List Value} (h:w.ownsRow n e sz v k xs) (a:Addr) (u:Value) (hn:a.block < n) : (w.setCell a u).ownsRow n e sz v k xs:=by
 obtain ⟨h1,h2 | ⟨g,cap,cur,q1,q2,q3,r⟩⟩:=h
 ·exact ⟨h1,.inl h2⟩
 ·exact ⟨h1,.inr ⟨g,cap,cur,q1,q2,set_off q3 a u (by omega),r⟩⟩
theorem ofW_ok {L:List Wt} {b:Int} (h:∀ x ∈ L,x.Ok b) (hb:0≤b) (g h':Int) : ((ofW L g).getD (w0 h')).Ok b:=by
 unfold ofW
 cases e:L.find? fun x=>x.g == g with
 | none =>
  refine ⟨?_,?_,?_,?_,?_⟩ <;> simp [w0] <;> omega
 | some x=>exact h x (List.mem_of_find?_eq_some e)
structure WatchAt (w W1 wr:World) (v:Value) (c:Ct) : Prop where
 sz:W1.heap.size≤wr.heap.size
 below:Below w.heap.size w wr
 x0:wr.heap[w.heap.size]? = some (Obj.cells #[v,iZ c.si,iZ c.by_,iZ c.mv,.bool c.bk] 33 (0,0))
 x1:wr.heap[w.heap.size+1]? = W1.heap[w.heap.size+1]?
 x2:wr.heap[w.heap.size+1+1]? = W1.heap[w.heap.size+1+1]?
theorem RwM.up {n n':Nat} {W:World} {v:Value} {rs:List (List Int)} (h:RwM n W v rs) (hn:n≤n') : RwM n' W v rs:=by
 obtain ⟨vs,h1,h2,h3⟩:=h
 exact ⟨vs,h1,h2.up hn,fun k hk=>let ⟨u,e,hu⟩:=h3 k hk; ⟨u,e,hu.up hn⟩⟩
theorem SnM.up {n n':Nat} {W:World} {v0 v1 v2 v3 v4 v5:Value} {s:Sn} (h:SnM n W v0 v1 v2 v3 v4 v5 s) (hn:n≤n') : SnM n' W v0 v1 v2 v3 v4 v5 s:=⟨h.st.up hn,h.nx.up hn,h.ri.up hn,h.gl.up hn,h.ha.up hn,h.lv.up hn⟩
theorem rowTo_mem {kd a:Nat} {l:List Int} : ∀ {k:Nat} {x:Pl×Int},x ∈ rowTo kd a l k→x.1.kd=kd∧x.1.at_=a∧x.1.ah < k
 | 0,x,h=>by cases h
 | k+1,x,h=>by
  rcases List.mem_append.1 h with h | h
  ·have:=rowTo_mem h
   omega
  ·rw [List.mem_singleton.1 h]
   exact ⟨rfl,rfl,Nat.lt_succ_self _⟩
theorem rowsTo_mem {kd:Nat} {rs:List (List Int)} (hr:∀ r ∈ rs,r.length≤20) : ∀ {k:Nat} {x:Pl×Int},k≤rs.length→x ∈ rowsTo kd rs k→x.1.kd=kd∧x.1.at_ < k∧x.1.ah≤20
 | 0,x,_,h=>by cases h
 | k+1,x,hk,h=>by
  rw [rowsTo_succ (by omega)] at h
  rcases List.mem_append.1 h with h | h
  ·have:=rowsTo_mem hr (by omega) h
   omega
  ·have:=rowTo_mem h
   have:=hr _ (List.getElem_mem (show k < rs.length by omega))
   omega
theorem nextTo_mem {l:List Int} : ∀ {k:Nat} {x:Pl×Int},k≤l.length→x ∈ nextTo l k→x.1.kd=1∧x.1.at_ < k∧x.1.ah=0
 | 0,x,_,h=>by cases h
 | k+1,x,hk,h=>by
  rw [nextTo_succ (by omega)] at h
  rcases List.mem_append.1 h with h | h
  ·have:=nextTo_mem (by omega) h
   omega
  ·split at h
   ·cases h
   ·rw [List.mem_singleton.1 h]
    exact ⟨rfl,Nat.lt_succ_self _,rfl⟩
theorem Sn.items_ok {s:Sn} (hf:s.few) {x:Pl×Int} (h:x ∈ s.items) : x.1.kd≤4∧x.1.at_≤1000∧x.1.ah≤1000:=by
 obtain ⟨f0,f1,⟨f2,f2'⟩,f3,⟨f4,f4'⟩,f5⟩:=hf
 unfold Sn.items Proofs.Ytimhpaijbbegaaa.items at h
 rcases List.mem_append.1 h with h | h
 ·rcases List.mem_append.1 h with h | h
  ·rcases List.mem_append.1 h with h | h
   ·have:=nextTo_mem (Nat.le_refl _) h
    omega
   ·have:=rowsTo_mem f2' (Nat.le_refl _) h
    omega
  ·have:=rowsTo_mem (rs:=[s.gl]) (by intro r hr; rw [List.mem_singleton.1 hr]; exact f3) (by simp) h
   omega
 ·have:=rowsTo_mem f4' (Nat.le_refl _) h
  omega
theorem picks_ok {s:Sn} (hf:s.few) (g:Int) : ∀ p,(picks g s.items).head? = some p→p.kd≤4∧p.at_≤1000∧p.ah≤1000:=by
 intro p hp
 have h1:=List.mem_of_mem_head? hp
 unfold picks at h1
 obtain ⟨x,hx,rfl⟩:=List.mem_map.1 h1
 exact s.items_ok hf (List.mem_filter.1 hx).1
theorem plAt_own {w:World} {n:Nat} {e:TypeId} {u:Value} {ps:List Pl} (h:w.ownsRow n e 3 u ps.length (plC ps)) : PlAt w u ps.head?:=by
 cases ps with
 | nil =>
  rcases h.2 with ⟨rfl,_⟩ | ⟨g,cap,cur,rfl,_⟩
  ·exact ⟨_,_,rfl⟩
  ·exact ⟨_,_,rfl⟩
 | cons p ps =>
  have h0:=h
  rcases h.2 with ⟨_,e0⟩ | ⟨g,cap,cur,rfl,_,hg,_⟩
  ·cases e0
  ·have hc:=h0.cells (g:=g) rfl
   refine ⟨g,0,ps.length,cap,rfl,hc 0 _ rfl,hc 1 _ rfl,hc 2 _ rfl,(Array.getElem?_eq_some_iff.1 hg).1⟩
theorem run_max2 {P:Program} {W:World} {a b:Int} {ts:Array TypeId} {t:TypeId} : (Builtin.max_ ts t #[.int .i64 a,.int .i64 b]).run P W=.ok (.int .i64 (max a b)) W:=by
 have e:max a b=if b > a then b else a:=by split <;> omega
 rw [e]
 rfl
theorem wpListIn_max {F:Fence} {n:Nat} {P:Program} {w:World} {ops:Array Oper} {rest:List Oper} {o:Oper} {a:Act} {Q:Exit→Act→World→Prop} {p q:Int}
  (hg:o.guard=none) (s x:Operand) (t:TypeId) (hop:o.op=Op.call { callee:=Callee.builtin Builtin.max,args:=#[s,x],argTypes:=#[t,t] }) (h1:a.eval s=.int .i64 p) (h2:a.eval x=.int .i64 q)
  (hK:wpListIn F n P ops Q rest (a.put o.dst (.int .i64 (max p q))) w) : wpListIn F n P ops Q (o::rest) a w:=by
 refine wpListIn_plain hg fun K hK'=>?_
 unfold Oper.wpIn
 refine ⟨?_,?_⟩
 ·simp [Oper.about,hop,resolve,Target.leads,Sem.run_pure]
 ·rw [Oper.semAt_plain F _ _ (by rw [hop]; intro c hc'; cases hc')]
  simp [execOp,hop,resolve,invoke,builtin,h1,h2,run_max2,Result.andThen]
  exact hK' _ _ hK
theorem set_ten {W:World} {b:Nat} {t:TypeId} {fr:Nat×Nat} {x0 x1 x2 x3 x4 x5 x6 x7 x8 x9:Value} (h:W.heap[b]? = some (Obj.cells #[x0,x1,x2,x3,x4,x5,x6,x7,x8,x9] t fr)) (z0 z1 z2 z3 z4 z5 z6 z7 z8 z9:Value) :
  ((((((((((W.setCell ⟨b,0,none⟩ z0).setCell ⟨b,1,none⟩ z1).setCell ⟨b,2,none⟩ z2).setCell ⟨b,3,none⟩ z3).setCell ⟨b,4,none⟩ z4).setCell ⟨b,5,none⟩ z5).setCell ⟨b,6,none⟩ z6).setCell ⟨b,7,none⟩ z7).setCell ⟨b,8,none⟩ z8).setCell ⟨b,9,none⟩ z9).heap[b]? = some (Obj.cells #[z0,z1,z2,z3,z4,z5,z6,z7,z8,z9] t fr):=by
 have:=set_at (set_at (set_at (set_at (set_at (set_at (set_at (set_at (set_at (set_at h 0 z0) 1 z1) 2 z2) 3 z3) 4 z4) 5 z5) 6 z6) 7 z7) 8 z8) 9 z9
 simp only [List.setIfInBounds_toArray,List.set_cons_zero,List.set_cons_succ] at this
 exact this
theorem cell_new_list (w:World) (xs:List Value) (t:TypeId) : ∀ j u,xs[j]? = some u→(w.alloc (.cells xs.toArray t)).cell? ((⟨w.heap.size,0,none⟩ : Addr).add j)=some u:=by
 intro j u hu
 have h:(w.alloc (.cells xs.toArray t)).heap[w.heap.size]? = some (Obj.cells xs.toArray t (0,0)):=World.alloc_heap_new _ _
 have e:(⟨w.heap.size,0,none⟩ : Addr).add j=⟨w.heap.size,j,none⟩:=by
  unfold Addr.add
  split <;> simp_all
 rw [e]
 exact cell_of h j u (by simpa using hu)
set_option maxRecDepth 4000 in
set_option maxHeartbeats 4000000 in
theorem look_in (m:Nat) (v v0 v1 v2 v3 v4 v5:Value) (L:List Wt) (c:Ct) (s:Sn) (hf:s.few) (b:Int) (hb:b≤100) (hb0:0≤b) (hO:∀ x ∈ L,x.Ok b) (hl:L.length≤1000) (w:World) (hL:SlM 10 w.heap.size w v L.length (wtC L)) (hs:SnM w.heap.size w v0 v1 v2 v3 v4 v5 s) :
    CallsIn Fence.wide m Try.prog 8 #[.agg #[v,iZ c.si,iZ c.by_,iZ c.mv,.bool c.bk],.agg #[v0,v1,v2,v3,v4,v5]] w fun e w' =>
      ∃ u,e=.returned (.agg #[u,iZ (lookTo L c s s.st.length).2.si,iZ (lookTo L c s s.st.length).2.by_,iZ (lookTo L c s s.st.length).2.mv,.bool (lookTo L c s s.st.length).2.bk]) ∧
        w'.ownsRow w.heap.size 63 10 u (lookTo L c s s.st.length).1.length (wtC (lookTo L c s s.st.length).1)∧Below w.heap.size w w':=by
  refine callsIn_of_wp Try.func8 rfl trivial ?_ rfl
  simp only [Try.ntmps8,List.size_toArray,List.length_cons,List.length_nil,Nat.reduceAdd,Nat.reduceSub,Array.replicate_succ,Array.replicate_zero,List.push_toArray,List.append_toArray,List.nil_append,List.cons_append]
  obtain ⟨i0,hi,hz0,hz1,hz2⟩:=info_parts infoRw
  obtain ⟨a0,c0,rfl⟩:=hs.st.val
  dsimp only [iZ]
  obtain ⟨W1,hW1⟩ : ∃ W1,((w.alloc (.cells #[v,.int .i64 c.si,.int .i64 c.by_,.int .i64 c.mv,.bool c.bk] 33)).alloc (.cells #[.slice a0 s.st.length c0,v1,v2,v3,v4,v5] 39)).alloc (.cells #[.slice none 0 0,.int .i64 0,.int .i64 0,.int .i64 0,.bool false] 33)=W1:=⟨_,rfl⟩
  gi_wp2
  gi_loopw [5,6] (fun u p wr=>∃ k:Nat,p=.int .i64 (k:Int)∧k≤s.st.length∧WatchAt w W1 wr v (lookTo L c s k).2∧wr.ownsRow W1.heap.size 63 10 u (lookTo L c s k).1.length (wtC (lookTo L c s k).1)) (fun _ p _=>s.st.length - (intOf p).toNat)
  case atStart =>
    refine ⟨0,rfl,Nat.zero_le _,⟨Nat.le_refl _,by rw [← hW1]; exact below_al3 _ _ _ _,?_,rfl,rfl⟩,World.ownsRow_nil _ _ _ _⟩
    rw [← hW1]
    exact heap_keep _ _ (heap_keep _ _ (World.alloc_heap_new _ _))
  case round =>
    obtain ⟨k,rfl,hk,hB,hr⟩:=hrel
    obtain ⟨hsz,hBw,hx0,hx1,hx2⟩:=hB
    obtain ⟨l,c1,hlc⟩ : ∃ l c1,lookTo L c s k=(l,c1):=⟨_,_,rfl⟩
    rw [hlc] at hr hx0
    dsimp only [iZ] at hr hx0
    obtain ⟨s1,b1,m1,k1⟩:=c1
    have hW1a:W1.heap[w.heap.size+1]? = some (Obj.cells #[.slice a0 s.st.length c0,v1,v2,v3,v4,v5] 39 (0,0)):=by rw [← hW1]; exact heap_al3 _ _ _ _
    have hW1s:W1.heap.size=w.heap.size+1+1+1:=by rw [← hW1]; simp
    have hW1b:W1.heap[w.heap.size+1+1]? = some (Obj.cells #[.slice none 0 0,.int .i64 0,.int .i64 0,.int .i64 0,.bool false] 33 (0,0)):=by rw [← hW1]; exact heap_nw3 _ _ _ _
    rw [hW1a] at hx1
    rw [hW1b] at hx2
    have y2:=cell_of hx2
    have e20:=y2 0 _ rfl
    have e21:=y2 1 _ rfl
    have e22:=y2 2 _ rfl
    have e23:=y2 3 _ rfl
    have e24:=y2 4 _ rfl
    have g0:=froz_of hx2 0
    have g1:=froz_of hx2 1
    have g2:=froz_of hx2 2
    have g3:=froz_of hx2 3
    have g4:=froz_of hx2 4
    have hfs:=hf.1
    obtain ⟨ua,uc,rfl⟩:=own_val hr
    have y0:=cell_of hx0
    have f0:=froz_of hx0 0
    have f1:=froz_of hx0 1
    have f2:=froz_of hx0 2
    have f3:=froz_of hx0 3
    have f4:=froz_of hx0 4
    have y1:=cell_of hx1
    have e00:=y0 0 _ rfl
    have e01:=y0 1 _ rfl
    have e02:=y0 2 _ rfl
    have e03:=y0 3 _ rfl
    have e04:=y0 4 _ rfl
    have e10:=y1 0 _ rfl
    have e11:=y1 1 _ rfl
    have e12:=y1 2 _ rfl
    have e13:=y1 3 _ rfl
    have e14:=y1 4 _ rfl
    have e15:=y1 5 _ rfl
    dsimp only [iZ] at e00 e01 e02 e03 e04
    by_cases hlt:k < s.st.length
    · have hlI:(k:Int) < (s.st.length:Int):=by omega
      obtain ⟨bb,off,cp,hv,hbb,hc⟩:=(hs.st.keep hBw).get hlt
      cases hv
      obtain ⟨x,hx⟩ : ∃ x,s.st[k]=x:=⟨_,rfl⟩
      rw [hx] at hc
      have hgx:s.st.getD k 0=x:=by rw [List.getD_eq_getElem?_getD,List.getElem?_eq_getElem hlt,hx]; rfl
      by_cases h1:x=1
      · subst h1
        gi_wp2
        refine ⟨trivial,fun h=>by simp [Fence.wide] at h,(of_in (m - 1) v L ⟨s1,b1,m1,k1⟩ k wr ((hL.keep hBw).up hBw.size) hl).mono ?_⟩
        rintro e w2 ⟨rfl,hb2⟩
        obtain ⟨y,hy⟩ : ∃ y,(ofW L (k:Int)).getD (w0 k)=y:=⟨_,rfl⟩
        rw [hy]
        have yO:y.Ok b:=by rw [← hy]; exact ofW_ok hO hb0 _ _
        obtain ⟨yg,ysi,yby,ymv,ybk,yli,yhd,⟨ykd,yat,yah⟩⟩:=y
        dsimp only [Wt.cs,iZ,iM]
        gi_wp2
        obtain ⟨W3,hW3⟩ : ∃ W3,w2.alloc (.cells #[.int .i64 yg,.int .i64 ysi,.int .i64 yby,.int .i64 ymv,.bool ybk,.int .i64 (yli:Int),.bool yhd,.int .i64 (ykd:Int),.int .i64 (yat:Int),.int .i64 (yah:Int)] 63)=W3:=⟨_,rfl⟩
        rw [hW3]
        obtain ⟨b7,hb7⟩ : ∃ b7,w2.heap.size=b7:=⟨_,rfl⟩
        rw [hb7]
        have hW3s:W3.heap.size=b7+1:=by rw [← hW3,← hb7]; simp
        have ht7:W3.heap[b7]? = some (Obj.cells #[.int .i64 yg,.int .i64 ysi,.int .i64 yby,.int .i64 ymv,.bool ybk,.int .i64 (yli:Int),.bool yhd,.int .i64 (ykd:Int),.int .i64 (yat:Int),.int .i64 (yah:Int)] 63 (0,0)):=by rw [← hW3,← hb7]; exact World.alloc_heap_new _ _
        have hB3:Below wr.heap.size wr W3:=by rw [← hW3]; exact hb2.alloc hb2.size _
        have hwr7:wr.heap.size≤b7:=by rw [← hb7]; exact hb2.size
        have hS6:∀ w',Below b7 W3 w'→(w'.cell? ⟨w.heap.size+1,0,none⟩=some (.slice (some ⟨bb,off,none⟩) s.st.length c0)∧w'.cell? ⟨w.heap.size+1,1,none⟩=some v1∧w'.cell? ⟨w.heap.size+1,2,none⟩=some v2∧w'.cell? ⟨w.heap.size+1,3,none⟩=some v3∧w'.cell? ⟨w.heap.size+1,4,none⟩=some v4∧w'.cell? ⟨w.heap.size+1,5,none⟩=some v5∧Below b7 W3 w'):=by
          intro w' hw'
          have hx:Below wr.heap.size wr w':=hB3.trans (hw'.mono hwr7)
          have q:=fun (i:Nat)=>hx.cell (p:=⟨w.heap.size+1,i,none⟩) (by dsimp only; omega)
          exact ⟨(q 0).trans e10,(q 1).trans e11,(q 2).trans e12,(q 3).trans e13,(q 4).trans e14,(q 5).trans e15,hw'⟩
        have hBd:Below b7 W3 W3.drew:=(Below.refl _ _).drew
        have ht8:W3.drew.heap[b7]? = _:=ht7
        have d70:=cell_of ht8 0 _ rfl
        have d71:=cell_of ht8 1 _ rfl
        have d72:=cell_of ht8 2 _ rfl
        have d73:=cell_of ht8 3 _ rfl
        have d74:=cell_of ht8 4 _ rfl
        have d75:=cell_of ht8 5 _ rfl
        have d76:=cell_of ht8 6 _ rfl
        have d77:=cell_of ht8 7 _ rfl
        have d78:=cell_of ht8 8 _ rfl
        have d79:=cell_of ht8 9 _ rfl
        have hsP:SnM W3.drew.heap.size W3.drew (.slice (some ⟨bb,off,none⟩) s.st.length c0) v1 v2 v3 v4 v5 s:=(hs.keep (hBw.trans ((hB3.trans (hBd.mono hwr7)).mono hBw.size))).up (Nat.le_trans hBw.size (hB3.trans (hBd.mono hwr7)).size)
        have hW3d:b7 < W3.drew.heap.size:=(Array.getElem?_eq_some_iff.1 ht8).1
        obtain ⟨z,hz⟩ : ∃ z,stepW ⟨yg,ysi,yby,ymv,ybk,yli,yhd,⟨ykd,yat,yah⟩⟩ (picks (k:Int) s.items).head? = z:=⟨_,rfl⟩
        obtain ⟨zg,zsi,zby,zmv,zbk,zli,zhd,⟨zkd,zat,zah⟩⟩:=z
        refine wpIn_wide.2 ?_
        refine wp_region_held_drew (S:=(fun w'=>w'.cell? ⟨w.heap.size+1,0,none⟩=some (.slice (some ⟨bb,off,none⟩) s.st.length c0)∧w'.cell? ⟨w.heap.size+1,1,none⟩=some v1∧w'.cell? ⟨w.heap.size+1,2,none⟩=some v2∧w'.cell? ⟨w.heap.size+1,3,none⟩=some v3∧w'.cell? ⟨w.heap.size+1,4,none⟩=some v4∧w'.cell? ⟨w.heap.size+1,5,none⟩=some v5∧Below b7 W3 w')) (by kernel_rfl) ?_ (fun hHeld=>?_)
        · (refine hS6 _ ?_; first | with_reducible exact hB5 | with_reducible exact hB4 | with_reducible exact hBd | exact ((((((((((hB5.setCell (Nat.le_refl _) _).setCell (Nat.le_refl _) _).setCell (Nat.le_refl _) _).setCell (Nat.le_refl _) _).setCell (Nat.le_refl _) _).setCell (Nat.le_refl _) _).setCell (Nat.le_refl _) _).setCell (Nat.le_refl _) _).setCell (Nat.le_refl _) _).setCell (Nat.le_refl _) _))
        refine wpAnyH_take (i:=1) (v:=?va1) rfl (by kernel_rfl) (by kernel_rfl) (by kernel_rfl) (fun _ _ _ h=>h) (Or.inl ⟨by kernel_rfl,?ya1⟩) (by assumption) ?ra1
        case ya1=>first | ((intro w hSw; (try dsimp only at hSw); go_simp); done) | ((intro w hSw; (try dsimp only at hSw); go_simp); with_reducible rfl)
        simp only [Act.put,List.getElem_toArray,List.getElem_cons_succ,List.getElem_cons_zero,List.setIfInBounds_toArray,List.set_cons_zero,List.set_cons_succ]
        refine wpAnyH_take (i:=2) (v:=?va2) rfl (by kernel_rfl) (by kernel_rfl) (by kernel_rfl) (fun _ _ _ h=>h) (Or.inl ⟨by kernel_rfl,?ya2⟩) (by assumption) ?ra2
        case ya2=>first | ((intro w hSw; (try dsimp only at hSw); go_simp); done) | ((intro w hSw; (try dsimp only at hSw); go_simp); with_reducible rfl)
        simp only [Act.put,List.getElem_toArray,List.getElem_cons_succ,List.getElem_cons_zero,List.setIfInBounds_toArray,List.set_cons_zero,List.set_cons_succ]
        refine wpAnyH_ready (rs:=[0,3]) (by kernel_rfl) (by simp) ?_
        refine AllReadyH.cons rfl (fun K hK=>?_) ?_
        go_simp
        refine hK.out _ _ ?_ (fun hHeld=>?_)
        · (refine hS6 _ ?_; first | with_reducible exact hB5 | with_reducible exact hB4 | with_reducible exact hBd | exact ((((((((((hB5.setCell (Nat.le_refl _) _).setCell (Nat.le_refl _) _).setCell (Nat.le_refl _) _).setCell (Nat.le_refl _) _).setCell (Nat.le_refl _) _).setCell (Nat.le_refl _) _).setCell (Nat.le_refl _) _).setCell (Nat.le_refl _) _).setCell (Nat.le_refl _) _).setCell (Nat.le_refl _) _))
        clear hK K
        try simp only [Act.put,List.getElem_toArray,List.getElem_cons_succ,List.getElem_cons_zero,List.setIfInBounds_toArray,List.set_cons_zero,List.set_cons_succ]
        refine wpAnyH_ready (rs:=[3]) (by kernel_rfl) (by simp) ?_
        refine AllReadyH.cons rfl (fun K hK=>?_) AllReadyH.nil
        go_simp
        refine (callsIn_wide.1 (refPlaces_in 0 _ v1 v2 v3 v4 v5 s hf _ _ hsP)).mono ?_
        rintro e w4 ⟨u4,rfl,hu4,hb4⟩
        have hB4:Below b7 W3 w4:=hBd.trans (hb4.mono (Nat.le_of_lt hW3d))
        have hp4:=plAt_own hu4
        have ht9:w4.heap[b7]? = some (Obj.cells #[.int .i64 yg,.int .i64 ysi,.int .i64 yby,.int .i64 ymv,.bool ybk,.int .i64 (yli:Int),.bool yhd,.int .i64 (ykd:Int),.int .i64 (yat:Int),.int .i64 (yah:Int)] 63 (0,0)):=(hb4.block b7 hW3d).trans ht8
        have hW4d:b7 < w4.heap.size:=(Array.getElem?_eq_some_iff.1 ht9).1
        have d80:=cell_of ht9 0 _ rfl
        have d81:=cell_of ht9 1 _ rfl
        have d82:=cell_of ht9 2 _ rfl
        have d83:=cell_of ht9 3 _ rfl
        have d84:=cell_of ht9 4 _ rfl
        have d85:=cell_of ht9 5 _ rfl
        have d86:=cell_of ht9 6 _ rfl
        have d87:=cell_of ht9 7 _ rfl
        have d88:=cell_of ht9 8 _ rfl
        have d89:=cell_of ht9 9 _ rfl
        try dsimp only
        refine hK.out _ _ ?_ (fun hHeld=>?_)
        · (refine hS6 _ ?_; first | with_reducible exact hB5 | with_reducible exact hB4 | with_reducible exact hBd | exact ((((((((((hB5.setCell (Nat.le_refl _) _).setCell (Nat.le_refl _) _).setCell (Nat.le_refl _) _).setCell (Nat.le_refl _) _).setCell (Nat.le_refl _) _).setCell (Nat.le_refl _) _).setCell (Nat.le_refl _) _).setCell (Nat.le_refl _) _).setCell (Nat.le_refl _) _).setCell (Nat.le_refl _) _))
        clear hK K
        try simp only [Act.put,List.getElem_toArray,List.getElem_cons_succ,List.getElem_cons_zero,List.setIfInBounds_toArray,List.set_cons_zero,List.set_cons_succ]
        refine wpAnyH_ready (rs:=[4]) (by kernel_rfl) (by simp) ?_
        refine AllReadyH.cons rfl (fun K hK=>?_) AllReadyH.nil
        go_simp
        refine (callsIn_wide.1 (step_in 0 _ b yO (by omega) _ _ (picks_ok hf _) _ hp4)).mono ?_
        rintro e w5 ⟨he,hb5⟩
        rw [hz] at he
        dsimp only [Wt.cs,iZ,iM] at he
        subst he
        have hB5:Below b7 W3 w5:=hB4.trans (hb5.mono (Nat.le_of_lt hW4d))
        have hta:w5.heap[b7]? = some (Obj.cells #[.int .i64 yg,.int .i64 ysi,.int .i64 yby,.int .i64 ymv,.bool ybk,.int .i64 (yli:Int),.bool yhd,.int .i64 (ykd:Int),.int .i64 (yat:Int),.int .i64 (yah:Int)] 63 (0,0)):=(hb5.block b7 hW4d).trans ht9
        have d90:=cell_of hta 0 _ rfl
        have d91:=cell_of hta 1 _ rfl
        have d92:=cell_of hta 2 _ rfl
        have d93:=cell_of hta 3 _ rfl
        have d94:=cell_of hta 4 _ rfl
        have d95:=cell_of hta 5 _ rfl
        have d96:=cell_of hta 6 _ rfl
        have d97:=cell_of hta 7 _ rfl
        have d98:=cell_of hta 8 _ rfl
        have d99:=cell_of hta 9 _ rfl
        have q90:=froz_of hta 0
        have q91:=froz_of hta 1
        have q92:=froz_of hta 2
        have q93:=froz_of hta 3
        have q94:=froz_of hta 4
        have q95:=froz_of hta 5
        have q96:=froz_of hta 6
        have q97:=froz_of hta 7
        have q98:=froz_of hta 8
        have q99:=froz_of hta 9
        try dsimp only
        refine hK.out _ _ ?_ (fun hHeld=>?_)
        · (refine hS6 _ ?_; first | with_reducible exact hB5 | with_reducible exact hB4 | with_reducible exact hBd | exact ((((((((((hB5.setCell (Nat.le_refl _) _).setCell (Nat.le_refl _) _).setCell (Nat.le_refl _) _).setCell (Nat.le_refl _) _).setCell (Nat.le_refl _) _).setCell (Nat.le_refl _) _).setCell (Nat.le_refl _) _).setCell (Nat.le_refl _) _).setCell (Nat.le_refl _) _).setCell (Nat.le_refl _) _))
        clear hK K
        try simp only [Act.put,List.getElem_toArray,List.getElem_cons_succ,List.getElem_cons_zero,List.setIfInBounds_toArray,List.set_cons_zero,List.set_cons_succ]
        refine wpAnyH_ready (rs:=[5]) (by kernel_rfl) (by simp) ?_
        refine AllReadyH.cons rfl (fun K hK=>?_) AllReadyH.nil
        go_simp
        refine hK.out _ _ ?_ (fun hHeld=>?_)
        · (refine hS6 _ ?_; first | with_reducible exact hB5 | with_reducible exact hB4 | with_reducible exact hBd | exact ((((((((((hB5.setCell (Nat.le_refl _) _).setCell (Nat.le_refl _) _).setCell (Nat.le_refl _) _).setCell (Nat.le_refl _) _).setCell (Nat.le_refl _) _).setCell (Nat.le_refl _) _).setCell (Nat.le_refl _) _).setCell (Nat.le_refl _) _).setCell (Nat.le_refl _) _).setCell (Nat.le_refl _) _))
        clear hK K
        try simp only [Act.put,List.getElem_toArray,List.getElem_cons_succ,List.getElem_cons_zero,List.setIfInBounds_toArray,List.set_cons_zero,List.set_cons_succ]
        refine wpAnyH_done (by kernel_rfl) ?_ _
        rotate_left
        refine AllReadyH.cons rfl (fun K hK=>?_) AllReadyH.nil
        go_simp
        refine (callsIn_wide.1 (refPlaces_in 0 _ v1 v2 v3 v4 v5 s hf _ _ hsP)).mono ?_
        rintro e w4 ⟨u4,rfl,hu4,hb4⟩
        have hB4:Below b7 W3 w4:=hBd.trans (hb4.mono (Nat.le_of_lt hW3d))
        have hp4:=plAt_own hu4
        have ht9:w4.heap[b7]? = some (Obj.cells #[.int .i64 yg,.int .i64 ysi,.int .i64 yby,.int .i64 ymv,.bool ybk,.int .i64 (yli:Int),.bool yhd,.int .i64 (ykd:Int),.int .i64 (yat:Int),.int .i64 (yah:Int)] 63 (0,0)):=(hb4.block b7 hW3d).trans ht8
        have hW4d:b7 < w4.heap.size:=(Array.getElem?_eq_some_iff.1 ht9).1
        have d80:=cell_of ht9 0 _ rfl
        have d81:=cell_of ht9 1 _ rfl
        have d82:=cell_of ht9 2 _ rfl
        have d83:=cell_of ht9 3 _ rfl
        have d84:=cell_of ht9 4 _ rfl
        have d85:=cell_of ht9 5 _ rfl
        have d86:=cell_of ht9 6 _ rfl
        have d87:=cell_of ht9 7 _ rfl
        have d88:=cell_of ht9 8 _ rfl
        have d89:=cell_of ht9 9 _ rfl
        try dsimp only
        refine hK.out _ _ ?_ (fun hHeld=>?_)
        · (refine hS6 _ ?_; first | with_reducible exact hB5 | with_reducible exact hB4 | with_reducible exact hBd | exact ((((((((((hB5.setCell (Nat.le_refl _) _).setCell (Nat.le_refl _) _).setCell (Nat.le_refl _) _).setCell (Nat.le_refl _) _).setCell (Nat.le_refl _) _).setCell (Nat.le_refl _) _).setCell (Nat.le_refl _) _).setCell (Nat.le_refl _) _).setCell (Nat.le_refl _) _).setCell (Nat.le_refl _) _))
        clear hK K
        try simp only [Act.put,List.getElem_toArray,List.getElem_cons_succ,List.getElem_cons_zero,List.setIfInBounds_toArray,List.set_cons_zero,List.set_cons_succ]
        refine wpAnyH_ready (rs:=[0]) (by kernel_rfl) (by simp) ?_
        refine AllReadyH.cons rfl (fun K hK=>?_) AllReadyH.nil
        go_simp
        refine hK.out _ _ ?_ (fun hHeld=>?_)
        · (refine hS6 _ ?_; first | with_reducible exact hB5 | with_reducible exact hB4 | with_reducible exact hBd | exact ((((((((((hB5.setCell (Nat.le_refl _) _).setCell (Nat.le_refl _) _).setCell (Nat.le_refl _) _).setCell (Nat.le_refl _) _).setCell (Nat.le_refl _) _).setCell (Nat.le_refl _) _).setCell (Nat.le_refl _) _).setCell (Nat.le_refl _) _).setCell (Nat.le_refl _) _).setCell (Nat.le_refl _) _))
        clear hK K
        try simp only [Act.put,List.getElem_toArray,List.getElem_cons_succ,List.getElem_cons_zero,List.setIfInBounds_toArray,List.set_cons_zero,List.set_cons_succ]
        refine wpAnyH_ready (rs:=[4]) (by kernel_rfl) (by simp) ?_
        refine AllReadyH.cons rfl (fun K hK=>?_) AllReadyH.nil
        go_simp
        refine (callsIn_wide.1 (step_in 0 _ b yO (by omega) _ _ (picks_ok hf _) _ hp4)).mono ?_
        rintro e w5 ⟨he,hb5⟩
        rw [hz] at he
        dsimp only [Wt.cs,iZ,iM] at he
        subst he
        have hB5:Below b7 W3 w5:=hB4.trans (hb5.mono (Nat.le_of_lt hW4d))
        have hta:w5.heap[b7]? = some (Obj.cells #[.int .i64 yg,.int .i64 ysi,.int .i64 yby,.int .i64 ymv,.bool ybk,.int .i64 (yli:Int),.bool yhd,.int .i64 (ykd:Int),.int .i64 (yat:Int),.int .i64 (yah:Int)] 63 (0,0)):=(hb5.block b7 hW4d).trans ht9
        have d90:=cell_of hta 0 _ rfl
        have d91:=cell_of hta 1 _ rfl
        have d92:=cell_of hta 2 _ rfl
        have d93:=cell_of hta 3 _ rfl
        have d94:=cell_of hta 4 _ rfl
        have d95:=cell_of hta 5 _ rfl
        have d96:=cell_of hta 6 _ rfl
        have d97:=cell_of hta 7 _ rfl
        have d98:=cell_of hta 8 _ rfl
        have d99:=cell_of hta 9 _ rfl
        have q90:=froz_of hta 0
        have q91:=froz_of hta 1
        have q92:=froz_of hta 2
        have q93:=froz_of hta 3
        have q94:=froz_of hta 4
        have q95:=froz_of hta 5
        have q96:=froz_of hta 6
        have q97:=froz_of hta 7
        have q98:=froz_of hta 8
        have q99:=froz_of hta 9
        try dsimp only
        refine hK.out _ _ ?_ (fun hHeld=>?_)
        · (refine hS6 _ ?_; first | with_reducible exact hB5 | with_reducible exact hB4 | with_reducible exact hBd | exact ((((((((((hB5.setCell (Nat.le_refl _) _).setCell (Nat.le_refl _) _).setCell (Nat.le_refl _) _).setCell (Nat.le_refl _) _).setCell (Nat.le_refl _) _).setCell (Nat.le_refl _) _).setCell (Nat.le_refl _) _).setCell (Nat.le_refl _) _).setCell (Nat.le_refl _) _).setCell (Nat.le_refl _) _))
        clear hK K
        try simp only [Act.put,List.getElem_toArray,List.getElem_cons_succ,List.getElem_cons_zero,List.setIfInBounds_toArray,List.set_cons_zero,List.set_cons_succ]
        refine wpAnyH_ready (rs:=[5]) (by kernel_rfl) (by simp) ?_
        refine AllReadyH.cons rfl (fun K hK=>?_) AllReadyH.nil
        go_simp
        refine hK.out _ _ ?_ (fun hHeld=>?_)
        · (refine hS6 _ ?_; first | with_reducible exact hB5 | with_reducible exact hB4 | with_reducible exact hBd | exact ((((((((((hB5.setCell (Nat.le_refl _) _).setCell (Nat.le_refl _) _).setCell (Nat.le_refl _) _).setCell (Nat.le_refl _) _).setCell (Nat.le_refl _) _).setCell (Nat.le_refl _) _).setCell (Nat.le_refl _) _).setCell (Nat.le_refl _) _).setCell (Nat.le_refl _) _).setCell (Nat.le_refl _) _))
        clear hK K
        try simp only [Act.put,List.getElem_toArray,List.getElem_cons_succ,List.getElem_cons_zero,List.setIfInBounds_toArray,List.set_cons_zero,List.set_cons_succ]
        refine wpAnyH_done (by kernel_rfl) ?_ _
        all_goals
          have ht6:=set_ten hta (iZ zg) (iZ zsi) (iZ zby) (iZ zmv) (.bool zbk) (iM zli) (.bool zhd) (iM zkd) (iM zat) (iM zah)
          dsimp only [iZ,iM] at ht6
          obtain ⟨w6,hw6⟩ : ∃ w6,((((((((((w5.setCell ⟨b7,0,none⟩ (.int .i64 zg)).setCell ⟨b7,1,none⟩ (.int .i64 zsi)).setCell ⟨b7,2,none⟩ (.int .i64 zby)).setCell ⟨b7,3,none⟩ (.int .i64 zmv)).setCell ⟨b7,4,none⟩ (.bool zbk)).setCell ⟨b7,5,none⟩ (.int .i64 (zli:Int))).setCell ⟨b7,6,none⟩ (.bool zhd)).setCell ⟨b7,7,none⟩ (.int .i64 (zkd:Int))).setCell ⟨b7,8,none⟩ (.int .i64 (zat:Int))).setCell ⟨b7,9,none⟩ (.int .i64 (zah:Int)))=w6:=⟨_,rfl⟩
          have hB6:Below b7 W3 w6:=by rw [← hw6]; exact ((((((((((hB5.setCell (Nat.le_refl _) _).setCell (Nat.le_refl _) _).setCell (Nat.le_refl _) _).setCell (Nat.le_refl _) _).setCell (Nat.le_refl _) _).setCell (Nat.le_refl _) _).setCell (Nat.le_refl _) _).setCell (Nat.le_refl _) _).setCell (Nat.le_refl _) _).setCell (Nat.le_refl _) _)
          rw [hw6] at ht6 ⊢
          have hBr:Below wr.heap.size wr w6:=hB3.trans (hB6.mono hwr7)
          have hr6:=own_stay hr hBr
          have o0:=cell_of ht6 0 _ rfl
          have o1:=cell_of ht6 1 _ rfl
          have o2:=cell_of ht6 2 _ rfl
          have o3:=cell_of ht6 3 _ rfl
          have o4:=cell_of ht6 4 _ rfl
          have o5:=cell_of ht6 5 _ rfl
          have o6:=cell_of ht6 6 _ rfl
          have o7:=cell_of ht6 7 _ rfl
          have o8:=cell_of ht6 8 _ rfl
          have o9:=cell_of ht6 9 _ rfl
          have hlk:l.length≤k:=by
            have:=lookTo_len L c s k
            rw [hlc] at this
            exact this
          have hrow:∀ j,(Value.slice ua l.length uc).ownBlock=some j→W1.heap.size≤j∧j < wr.heap.size:=by
            intro j ej
            rcases hr.2 with ⟨eq,_⟩ | ⟨gg,cap,cur,eq,h8,h9,_⟩
            · rw [eq] at ej
              simp [Value.ownBlock] at ej
            · rw [eq] at ej
              have:gg=j:=by simpa [Value.ownBlock] using ej
              subst this
              exact ⟨h8,(Array.getElem?_eq_some_iff.1 h9).1⟩
          have hW6s:wr.heap.size≤w6.heap.size:=hBr.size
          have hb7s:b7 < w6.heap.size:=(Array.getElem?_eq_some_iff.1 ht6).1
          have hlt2:lookTo L c s (k+1)=(l++[⟨zg,zsi,zby,zmv,zbk,zli,zhd,⟨zkd,zat,zah⟩⟩],mostC ⟨s1,b1,m1,k1⟩ ⟨zsi,zby,zmv,zbk⟩):=by
            show (if s.st.getD k 0=1 then _ else _)=_
            rw [if_pos hgx,hy,hz,hlc]
          cases k1
          all_goals
           gi_wp2_with (first
            | (gi_at_builtin; refine wpListIn_append_own _ rfl _ _ 31 rfl W1.heap.size 63 i0 (.agg #[.int .i64 0,.int .i64 0,.int .i64 0,.int .i64 0,.bool false,.int .i64 0,.bool false,.int .i64 0,.int .i64 0,.int .i64 0]) 10 80 Try.underlying31 hi hz0 hz1 hz2 rfl (by decide) _ _ _ rfl (hr6.alloc _) ⟨w6.heap.size,0,none⟩ 1 1 [.int .i64 zg,.int .i64 zsi,.int .i64 zby,.int .i64 zmv,.bool zbk,.int .i64 (zli:Int),.bool zhd,.int .i64 (zkd:Int),.int .i64 (zat:Int),.int .i64 (zah:Int)] rfl rfl (cell_new_list _ _ _) (by simp [Value.oneCell']) (by unfold maxLen; omega) (by omega) (by simp; omega) ?_; intro v' w8 hown' hgrow _; have hg8:(w6.alloc (.cells #[.int .i64 zg,.int .i64 zsi,.int .i64 zby,.int .i64 zmv,.bool zbk,.int .i64 (zli:Int),.bool zhd,.int .i64 (zkd:Int),.int .i64 (zat:Int),.int .i64 (zah:Int)] 63)).grownBy w8 (Value.slice ua l.length uc).ownBlock:=hgrow; have ht8b:=(hg8.block b7 (by simp; omega) (fun e=>by have:=hrow _ e.symm; omega)).trans (heap_keep _ _ ht6); have hx8:=(hg8.block w.heap.size (by simp; omega) (fun e=>by have:=hrow _ e.symm; omega)).trans (heap_keep _ _ ((hBr.block w.heap.size (by omega)).trans hx0)); have p1:=cell_of ht8b 1 _ rfl; have p2:=cell_of ht8b 2 _ rfl; have p3:=cell_of ht8b 3 _ rfl; have p4:=cell_of ht8b 4 _ rfl; have r1:=cell_of hx8 1 _ rfl; have r2:=cell_of hx8 2 _ rfl; have r3:=cell_of hx8 3 _ rfl; have r4:=cell_of hx8 4 _ rfl; have j1:=froz_of hx8 1; have j2:=froz_of hx8 2; have j3:=froz_of hx8 3; have j4:=froz_of hx8 4; have hne7:b7 ≠ w.heap.size:=(by omega); skip)
            | (gi_at_builtin; refine wpListIn_max rfl _ _ _ rfl rfl rfl ?_))
           have hB8:Below W1.heap.size wr w8:=(hBr.mono hsz).trans (below_grown hr6 ((Below.refl _ w6).alloc (Nat.le_trans hsz hW6s) _) (by simp; omega) hg8)
           have hx18:=(hB8.block (w.heap.size+1) (by omega)).trans (hx1.trans hW1a.symm)
           have hx28:=(hB8.block (w.heap.size+1+1) (by omega)).trans (hx2.trans hW1b.symm)
           refine ⟨⟨k+1,rfl,by omega,?_,?_⟩,by simp [intOf]; omega⟩
           · rw [hlt2]
             have hx:=set_at (set_at (set_at (set_at hx8 1 (.int .i64 (if s1 < zsi then zsi else s1))) 2 (.int .i64 (if b1 < zby then zby else b1))) 3 (.int .i64 (if m1 < zmv then zmv else m1))) 4
             refine ⟨?_,?_,?_,?_,?_⟩
             · exact Nat.le_trans hsz (by simp only [World.setCell,Array.size_modify]; exact hB8.size)
             · exact ((((hBw.trans (hB8.mono (by omega))).setCell (Nat.le_refl _) _).setCell (Nat.le_refl _) _).setCell (Nat.le_refl _) _).setCell (Nat.le_refl _) _
             · refine (hx _).trans ?_
               simp only [List.setIfInBounds_toArray,List.set_cons_zero,List.set_cons_succ,mostC,max_if,Bool.false_or,Bool.true_or]
             · exact set_off (set_off (set_off (set_off hx18 _ _ (by dsimp only; omega)) _ _ (by dsimp only; omega)) _ _ (by dsimp only; omega)) _ _ (by dsimp only; omega)
             · exact set_off (set_off (set_off (set_off hx28 _ _ (by dsimp only; omega)) _ _ (by dsimp only; omega)) _ _ (by dsimp only; omega)) _ _ (by dsimp only; omega)
           · rw [hlt2]
             have hq:w8.ownsRow W1.heap.size 63 10 v' (l++[(⟨zg,zsi,zby,zmv,zbk,zli,zhd,⟨zkd,zat,zah⟩⟩ : Wt)]).length (wtC (l++[⟨zg,zsi,zby,zmv,zbk,zli,zhd,⟨zkd,zat,zah⟩⟩])):=by
               rw [wtC_app,List.length_append]
               exact hown'
             exact own_set (own_set (own_set (own_set hq _ _ (by dsimp only; omega)) _ _ (by dsimp only; omega)) _ _ (by dsimp only; omega)) _ _ (by dsimp only; omega)
      · have hgb:(x == 1)=false:=by simpa using h1
        gi_wp2
        have e2:lookTo L c s (k+1)=(l,⟨s1,b1,m1,k1⟩):=by
          rw [← hlc]
          show (if s.st.getD k 0=1 then _ else _)=_
          rw [if_neg (by rw [hgx]; exact h1)]
        refine ⟨⟨k+1,rfl,by omega,?_,?_⟩,by simp [intOf]; omega⟩
        · rw [e2]
          exact ⟨hsz,hBw,hx0,hx1.trans hW1a.symm,hx2.trans hW1b.symm⟩
        · rw [e2]
          exact hr
    · obtain rfl:k=s.st.length:=by omega
      have hlI:¬ ((s.st.length:Nat) : Int) < (s.st.length:Int):=by omega
      gi_wp2
      refine post_cell rfl rfl rfl (loadWa _ _ _ _ _ _ _ (set_at (set_at (set_at (set_at (set_at (set_off hx2 _ _ (by dsimp only; omega)) 0 _) 1 _) 2 _) 3 _) 4 _)) ⟨_,rfl,?_,?_⟩
      · refine own_weak (n:=W1.heap.size) ?_ (by omega)
        refine own_set (own_set (own_set (own_set (own_set (own_set hr _ _ ?_) _ _ ?_) _ _ ?_) _ _ ?_) _ _ ?_) _ _ ?_ <;> dsimp only <;> omega
      · refine (((((hBw.setCell ?_ _).setCell ?_ _).setCell ?_ _).setCell ?_ _).setCell ?_ _).setCell ?_ _ <;> dsimp only <;> omega
end Go.Proofs.Ytimhpaijbbegaaa
