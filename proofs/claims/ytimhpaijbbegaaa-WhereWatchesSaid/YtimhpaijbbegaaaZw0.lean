/- Part of a proof: see the last text. -/
import Derived.RangeFuncNested
import Derived.RangeFuncBound
import Derived.RangeFuncCalls
import Derived.RangeFuncLeaves
import Derived.RangeFuncBox
import Derived.Maps.AppendAt
import Derived.Shelf.Abstract
import Derived.Shelf.RegionOpen
import Derived.WalkKit
import Derived.OwnWalkIn
import Derived.TacticsInMore
import Derived.LoopNIn
import Derived.LoopIn
import Derived.Test.YtimhpaijbbegaaaRows
namespace Go.Proofs.Ytimhpaijbbegaaa
open Go.RowKit
set_option linter.unusedVariables false
set_option linter.unusedSimpArgs false
attribute [local go_sem] Oper.semAt_some
structure Pl where
 kd:Nat
 at_:Nat
 ah:Nat
deriving DecidableEq
def rowTo (kd a:Nat) (l:List Int) : Nat→List (Pl×Int)
 | 0=>[]
 | k+1=>rowTo kd a l k++[(⟨kd,a,k⟩,l.getD k 0)]
def rowsTo (kd:Nat) (rs:List (List Int)) : Nat→List (Pl×Int)
 | 0=>[]
 | k+1=>rowsTo kd rs k++rowTo kd k (rs.getD k []) (rs.getD k []).length
def nextTo (l:List Int) : Nat→List (Pl×Int)
 | 0=>[]
 | k+1=>nextTo l k++if l.getD k 0 = -1 then [] else [(⟨1,k,0⟩,l.getD k 0)]
def Pl.enc (p:Pl) : Value:=.agg #[.int .i64 (p.kd:Int),.int .i64 (p.at_:Int),.int .i64 (p.ah:Int)]
abbrev itE (x:Pl×Int) : Array Value:=#[x.1.enc,.int .i64 x.2]
structure Kpt (n:Nat) (W W':World) : Prop where
 below:Below n W W'
 typed:∀ (j:Nat) arr e s,W.heap[j]? = some (Obj.cells arr e s)→e ≠ 55→e ≠ 58→W'.heap[j]? = some (Obj.cells arr e s)
theorem Kpt.refl (n:Nat) (W:World) : Kpt n W W:=⟨Below.refl _ _,fun _ _ _ _ h _ _=>h⟩
theorem Kpt.trans {n:Nat} {A B C:World} (h:Kpt n A B) (k:Kpt n B C) : Kpt n A C:=⟨h.below.trans k.below,fun j a e s h1 h2 h3=>k.typed j a e s (h.typed j a e s h1 h2 h3) h2 h3⟩
def Safe (n:Nat) (W:World) (b:Nat) : Prop:=b < n∨∃ arr e s,W.heap[b]? = some (Obj.cells arr e s)∧e ≠ 55∧e ≠ 58
theorem Safe.keep {n b:Nat} {W W':World} (h:Safe n W b) (hk:Kpt n W W') : Safe n W' b∧W'.heap[b]? = W.heap[b]?:=by
 rcases h with h | ⟨arr,e,s,h,h1,h2⟩
 ·exact ⟨.inl h,hk.below.block b h⟩
 ·have:=hk.typed b arr e s h h1 h2
  exact ⟨.inr ⟨arr,e,s,this,h1,h2⟩,by rw [this,h]⟩
def SlK (n:Nat) (W:World) (v:Value) (xs:List Value) : Prop :=
 (xs=[]∧∃ a c,v=.slice a 0 c)∨∃ b off c,v=.slice (some ⟨b,off,none⟩) xs.length c∧Safe n W b∧∀ j:Nat,j < xs.length→W.cell? ⟨b,off+j,none⟩=xs[j]?
theorem SlK.keep {n:Nat} {W W':World} {v:Value} {xs:List Value} (h:SlK n W v xs) (hk:Kpt n W W') : SlK n W' v xs:=by
 rcases h with h | ⟨b,off,c,rfl,hs,hc⟩
 ·exact .inl h
 ·obtain ⟨k1,k2⟩:=hs.keep hk
  exact .inr ⟨b,off,c,rfl,k1,fun j hj=>by rw [← hc j hj]; simp only [World.cell?,k2]⟩
theorem SlK.val {n:Nat} {W:World} {v:Value} {xs:List Value} (h:SlK n W v xs) : ∃ a c,v=.slice a xs.length c:=by
 rcases h with ⟨rfl,a,c,rfl⟩ | ⟨b,off,c,rfl,_⟩
 ·exact ⟨a,c,rfl⟩
 ·exact ⟨_,c,rfl⟩
abbrev iV (l:List Int) : List Value:=l.map fun n=>Value.int .i64 n
theorem SlK.valI {n:Nat} {W:World} {v:Value} {l:List Int} (h:SlK n W v (iV l)) : ∃ a c,v=.slice a l.length c:=by
 obtain ⟨a,c,e⟩:=h.val
 exact ⟨a,c,by rw [e]; simp⟩
structure RwK (n:Nat) (W:World) (v:Value) (rs:List (List Int)) : Prop where
 ex:∃ vs:List Value,vs.length=rs.length∧SlK n W v vs∧∀ k,k < rs.length→SlK n W (vs.getD k undef) (iV (rs.getD k []))
theorem RwK.keep {n:Nat} {W W':World} {v:Value} {rs:List (List Int)} (h:RwK n W v rs) (hk:Kpt n W W') : RwK n W' v rs:=by
 obtain ⟨vs,h1,h2,h3⟩:=h.ex
 exact ⟨vs,h1,h2.keep hk,fun k hlt=>(h3 k hlt).keep hk⟩
theorem rowTo_len (kd a:Nat) (l:List Int) (k:Nat) : (rowTo kd a l k).length=k:=by
 induction k with
 | zero=>rfl
 | succ k ih=>simp [rowTo,ih]
theorem rowsTo_len {kd:Nat} {rs:List (List Int)} (h:∀ r ∈ rs,r.length≤1000) (k:Nat) (hk:k≤rs.length) : (rowsTo kd rs k).length≤1000 * k:=by
 induction k with
 | zero=>simp [rowsTo]
 | succ k ih =>
  have e:rs.getD k []=rs[k]:=by rw [List.getD_eq_getElem?_getD,List.getElem?_eq_getElem (by omega)]; rfl
  have:=ih (by omega)
  have h2:=h _ (List.getElem_mem (show k < rs.length by omega))
  simp only [rowsTo,List.length_append,rowTo_len,e]
  omega
theorem nextTo_len (l:List Int) (k:Nat) : (nextTo l k).length≤k:=by
 induction k with
 | zero=>simp [nextTo]
 | succ k ih =>
  simp only [nextTo,List.length_append]
  split <;> simp <;> omega
theorem YieldAt.wide {m m':Nat} {P:Program} {l:Nat} {args:Array Value} {W:World} {R:Ending→World→Prop} (h:YieldAt Fence.wide m P l args W R) : YieldAt Fence.wide m' P l args W R:=by
 obtain ⟨fn,tmps,assign,body,h1,h2⟩:=h
 exact ⟨fn,tmps,assign,body,h1,h2.1,fun c cs _=>h2.2 c cs (room_wide _)⟩
abbrev YOK (m l n₀:Nat) (J Jx:List (Pl×Int)→World→Prop) : Prop:=∀ pre x W,J pre W→pre.length < 10000000→YieldAt Fence.wide m Try.prog l (itE x) W fun e W'=>(e=.returned (.bool true)∧J (pre++[x]) W'∧Kpt n₀ W W')∨(e=.returned (.bool false)∧Jx (pre++[x]) W')
set_option maxHeartbeats 1000000 in
theorem rows_in (m l n₀ Bt kd:Nat) (lv:Value) (rs:List (List Int)) (hn:rs.length≤1000∧∀ r ∈ rs,r.length≤1000) (J Jx:List (Pl×Int)→World→Prop) (hY:∀ m,YOK m l n₀ J Jx) (pre:List (Pl×Int)) (W:World)
  (hbox:Boxed W Bt 121 (.func (.yield l) #[] #[])) (hlv:RwK n₀ W lv rs) (h0:J pre W) (hpl:pre.length≤5000000) :
  CallsIn Fence.wide m Try.prog 51 #[.int .i64 (kd:Int),lv,.pointer (some ⟨Bt,0,none⟩)] W fun e W' =>
   (e=.returned (.bool true)∧J (pre++rowsTo kd rs rs.length) W'∧Kpt n₀ W W')∨(e=.returned (.bool false)∧∃ q,Jx q W'):=by
 refine callsIn_of_wp Try.func51 rfl trivial ?_ rfl
 simp only [Try.ntmps51,List.size_toArray,List.length_cons,List.length_nil,Nat.reduceAdd,Nat.reduceSub,Array.replicate_succ,Array.replicate_zero,List.push_toArray,List.append_toArray,List.nil_append,List.cons_append]
 obtain ⟨vs,hvl,hsl,hrw⟩:=hlv.ex
 obtain ⟨a0,c0,rfl⟩ : ∃ a c,lv=.slice a rs.length c:=by
  rcases hsl with ⟨h1,a,c,rfl⟩ | ⟨b,off,c,rfl,_⟩
  ·rw [h1] at hvl
   exact ⟨a,c,by rw [← hvl]; rfl⟩
  ·exact ⟨_,c,by rw [hvl]⟩
 gi_wp2
 gi_loopw [12] (fun p wr=>∃ i:Nat,p=.int .i64 (i:Int)∧i≤rs.length∧J (pre++rowsTo kd rs i) wr∧Kpt n₀ W wr) (fun p _=>rs.length - (intOf p).toNat)
 case atStart=>exact ⟨0,rfl,Nat.zero_le _,by simpa [rowsTo] using h0,Kpt.refl _ _⟩
 case round =>
  obtain ⟨i,rfl,hi,hJ,hk⟩:=hrel
  by_cases hlt:i < rs.length
  ·have hlI:(i:Int) < (rs.length:Int):=by omega
   have hb2:=(hk.typed _ _ _ _ hbox (by decide) (by decide))
   have hsl2:=hsl.keep hk
   rcases hsl2 with ⟨h1,_⟩ | ⟨b,off,c,hv,hs,hc⟩
   ·rw [h1] at hvl
    simp at hvl
    omega
   rw [hvl] at hv
   cases hv
   have hci:=hc i (by omega)
   rw [List.getElem?_eq_getElem (by omega)] at hci
   have hr2:=(hrw i hlt).keep hk
   rw [List.getD_eq_getElem?_getD,List.getElem?_eq_getElem (by omega:i < vs.length)] at hr2
   obtain ⟨rv,hrv⟩ : ∃ rv,vs[i]'(by omega)=rv:=⟨_,rfl⟩
   rw [hrv] at hci
   have hr2:SlK n₀ wr rv (iV (rs.getD i [])):=by rw [← hrv]; exact hr2
   obtain ⟨r,hr⟩ : ∃ r,rs.getD i []=r:=⟨_,rfl⟩
   rw [hr] at hr2
   have hrl:r.length≤1000:=by
    rw [← hr,List.getD_eq_getElem?_getD,List.getElem?_eq_getElem hlt]
    exact hn.2 _ (List.getElem_mem hlt)
   obtain ⟨a1,c1,rfl⟩ : ∃ a c,rv=.slice a r.length c:=by
    rcases hr2 with ⟨h1,a,c,rfl⟩ | ⟨b,off,c,rfl,_⟩
    ·have:r=[]:=by simpa [iV] using h1
     exact ⟨a,c,by rw [this]; rfl⟩
    ·exact ⟨some ⟨b,off,none⟩,c,by simp [iV]⟩
   gi_wp2
   gi_loopw [19] (fun p wk=>∃ k:Nat,p=.int .i64 (k:Int)∧k≤r.length∧J (pre++rowsTo kd rs i++rowTo kd i r k) wk∧Kpt n₀ W wk∧Kpt n₀ wr wk) (fun p _=>r.length - (intOf p).toNat)
   case atStart=>exact ⟨0,rfl,Nat.zero_le _,by simpa [rowTo] using hJ,hk,Kpt.refl _ _⟩
   case round =>
    obtain ⟨k,rfl,hkl,hJ2,hk2,hk3⟩:=hrel
    by_cases hlt2:k < r.length
    ·have hlI2:(k:Int) < (r.length:Int):=by omega
     have hb3:Boxed wr Bt _ _:=(hk2.typed _ _ _ _ hbox (by decide) (by decide))
     have hb4:=hb3.cell
     have hr3:=hr2.keep hk3
     rcases hr3 with ⟨h1,_⟩ | ⟨b1,off1,c2,hv1,hs1,hc1⟩
     ·have:r=[]:=by simpa [iV] using h1
      rw [this] at hlt2
      simp at hlt2
     simp only [iV,List.length_map] at hv1 hc1
     cases hv1
     have hci1:=hc1 k hlt2
     rw [List.getElem?_map,List.getElem?_eq_getElem hlt2] at hci1
     obtain ⟨x,hx⟩ : ∃ x,r[k]=x:=⟨_,rfl⟩
     rw [hx] at hci1
     obtain ⟨fn,tmps,assign,body,hy,hR⟩:=hY (m - 1) _ (⟨kd,i,k⟩,x) _ hJ2 (by
      have:=rowsTo_len (kd:=kd) hn.2 i hi
      simp only [List.length_append,rowTo_len]
      omega)
     dsimp only [itE,Pl.enc] at hy
     gi_wp2
     refine ⟨fun h=>by simp [Fence.wide] at h,hR.mono ?_⟩
     rintro e W3 (⟨rfl,hJ3,hk4⟩ | ⟨rfl,hJx3⟩)
     ·gi_wp2
      go_roundw
      case rel =>
       refine ⟨k+1,rfl,by omega,?_,hk2.trans hk4,hk3.trans hk4⟩
       have e1:rowTo kd i r (k+1)=rowTo kd i r k++[(⟨kd,i,k⟩,x)]:=by
        show rowTo kd i r k++[(⟨kd,i,k⟩,r.getD k 0)]=_
        rw [List.getD_eq_getElem?_getD,List.getElem?_eq_getElem hlt2,hx]
        rfl
       rw [e1,← List.append_assoc]
       exact hJ3
      case measure=>simp [intOf]; omega
     ·gi_wp2
      exact bodyPost_ret (results_tmp rfl _ _ _) rfl (.inr ⟨rfl,_,hJx3⟩)
    ·obtain rfl:k=r.length:=by omega
     have hlI2:¬ ((r.length:Nat) : Int) < (r.length:Int):=by omega
     gi_wp2
     refine ⟨⟨i+1,rfl,by omega,?_,hk2⟩,by simp [intOf]; omega⟩
     have e1:rowsTo kd rs (i+1)=rowsTo kd rs i++rowTo kd i r r.length:=by
      show rowsTo kd rs i++rowTo kd i (rs.getD i []) (rs.getD i []).length=_
      rw [hr]
     rw [e1,← List.append_assoc]
     exact hJ2
  ·obtain rfl:i=rs.length:=by omega
   have hlI:¬ ((rs.length:Nat) : Int) < (rs.length:Int):=by omega
   gi_wp2
   exact bodyPost_ret (results_tmp rfl _ _ _) rfl (.inl ⟨rfl,hJ,hk⟩)
structure SnK (n:Nat) (W:World) (Bs:Nat) (nx gl:List Int) (ri ha:List (List Int)) : Prop where
 ex:∃ v0 v1 v2 v3 v4 v5,W.heap[Bs]? = some (Obj.cells #[v0,v1,v2,v3,v4,v5] 38 (0,0))∧SlK n W v1 (iV nx)∧RwK n W v2 ri∧SlK n W v3 (iV gl)∧RwK n W v4 ha
theorem SnK.keep {n Bs:Nat} {W W':World} {nx gl:List Int} {ri ha:List (List Int)} (h:SnK n W Bs nx gl ri ha) (hk:Kpt n W W') : SnK n W' Bs nx gl ri ha:=by
 obtain ⟨v0,v1,v2,v3,v4,v5,h0,h1,h2,h3,h4⟩:=h.ex
 exact ⟨v0,v1,v2,v3,v4,v5,hk.typed _ _ _ _ h0 (by decide) (by decide),h1.keep hk,h2.keep hk,h3.keep hk,h4.keep hk⟩
theorem Kpt.alloc (n:Nat) (W:World) (o:Obj) (h:n≤W.heap.size) : Kpt n W (W.alloc o) :=
 ⟨(Below.refl _ _).alloc h o,fun j a e s h1 _ _=>((World.grownBy_alloc W o none).block j (Array.getElem?_eq_some_iff.1 h1).1 (by simp)).trans h1⟩
def items (nx gl:List Int) (ri ha:List (List Int)) : List (Pl×Int):=nextTo nx nx.length++rowsTo 2 ri ri.length++rowsTo 3 [gl] 1++rowsTo 4 ha ha.length
set_option maxHeartbeats 1000000 in
theorem all_in (m l n₀ Bs:Nat) (nx gl:List Int) (ri ha:List (List Int)) (hn:nx.length≤1000∧gl.length≤1000∧(ri.length≤1000∧∀ r ∈ ri,r.length≤1000)∧ha.length≤1000∧∀ r ∈ ha,r.length≤1000) (J Jx:List (Pl×Int)→World→Prop) (hY:∀ m,YOK m l n₀ J Jx) (W:World) (hW:n₀≤W.heap.size)
  (hal:∀ s W o,J s W→J s (W.alloc o)) (hs:SnK n₀ W Bs nx gl ri ha) (h0:J [] W) :
  CallsIn Fence.wide m Try.prog 50 #[.func (.yield l) #[] #[],.pointer (some ⟨Bs,0,none⟩)] W fun e W' =>
   (∃ v,e=.returned v)∧(J (items nx gl ri ha) W'∨∃ q,Jx q W'):=by
 refine callsIn_of_wp Try.func50 rfl trivial ?_ rfl
 simp only [Try.ntmps50,List.size_toArray,List.length_cons,List.length_nil,Nat.reduceAdd,Nat.reduceSub,Array.replicate_succ,Array.replicate_zero,List.push_toArray,List.append_toArray,List.nil_append,List.cons_append]
 obtain ⟨v0,v1,v2,v3,v4,v5,q0,q1,q2,q3,q4⟩:=hs.ex
 obtain ⟨a0,c0,rfl⟩ : ∃ a c,v1=.slice a nx.length c:=by
  rcases q1 with ⟨h1,a,c,rfl⟩ | ⟨b,off,c,rfl,_⟩
  ·have:nx=[]:=by simpa [iV] using h1
   exact ⟨a,c,by rw [this]; rfl⟩
  ·exact ⟨some ⟨b,off,none⟩,c,by simp [iV]⟩
 obtain ⟨W1,hW1⟩ : ∃ W1,W.alloc (.cells #[.func (.yield l) #[] #[]] 121)=W1:=⟨_,rfl⟩
 have hk1:Kpt n₀ W W1:=hW1 ▸ Kpt.alloc _ _ _ hW
 have hs1:=hs.keep hk1
 have hbx:Boxed W1 W.heap.size 121 (.func (.yield l) #[] #[]):=hW1 ▸ Boxed.new _ _ _
 have hJ1:J [] W1:=hW1 ▸ hal _ _ _ h0
 have hcell:W1.cell? ⟨Bs,1,none⟩=some (.slice a0 nx.length c0):=by
  have:=hk1.typed _ _ _ _ q0 (by decide) (by decide)
  simp [World.cell?,this]
 gi_wp2
 gi_loopw [10] (fun p wr=>∃ k:Nat,p=.int .i64 (k:Int)∧k≤nx.length∧J (nextTo nx k) wr∧Kpt n₀ W wr∧Kpt n₀ W1 wr) (fun p _=>nx.length - (intOf p).toNat)
 case atStart=>exact ⟨0,rfl,Nat.zero_le _,by simpa [nextTo] using hJ1,hk1,Kpt.refl _ _⟩
 case round =>
  obtain ⟨k,rfl,hkl,hJ2,hk2,hk3⟩:=hrel
  by_cases hlt2:k < nx.length
  ·have hlI2:(k:Int) < (nx.length:Int):=by omega
   have hb3:Boxed wr W.heap.size _ _:=(hk3.typed _ _ _ _ hbx (by decide) (by decide))
   have hb4:=hb3.cell
   have hr3:=q1.keep hk2
   rcases hr3 with ⟨h1,_⟩ | ⟨b1,off1,c2,hv1,hs1',hc1⟩
   ·have:nx=[]:=by simpa [iV] using h1
    rw [this] at hlt2
    simp at hlt2
   simp only [iV,List.length_map] at hv1 hc1
   cases hv1
   have hci1:=hc1 k hlt2
   rw [List.getElem?_map,List.getElem?_eq_getElem hlt2] at hci1
   obtain ⟨x,hx⟩ : ∃ x,nx[k]=x:=⟨_,rfl⟩
   rw [hx] at hci1
   have hgx:nx.getD k 0=x:=by rw [List.getD_eq_getElem?_getD,List.getElem?_eq_getElem hlt2,hx]; rfl
   by_cases hm:x = -1
   ·subst hm
    gi_wp2
    refine ⟨fun _ h=>(by cases h),?_⟩
    gi_wp2
    go_roundw
    case rel =>
     have e1:nextTo nx (k+1)=nextTo nx k:=by
      show nextTo nx k++(if nx.getD k 0 = -1 then [] else _)=_
      rw [if_pos hgx,List.append_nil]
     exact ⟨k+1,rfl,by omega,e1 ▸ hJ2,hk2,hk3⟩
    case measure=>simp [intOf]; omega
   ·obtain ⟨fn,tmps,assign,body,hy,hR⟩:=hY (m - 1) _ (⟨1,k,0⟩,x) _ hJ2 (by have:=nextTo_len nx k; omega)
    have hmb:(x != -1)=true:=by simpa using hm
    replace hy:(Instr.yield l #[.agg #[.int .i64 1,.int .i64 (k:Int),.int .i64 0],.int .i64 x]).run Try.prog wr=.ok (.round l fn tmps assign body) wr:=hy
    gi_wp2
    refine ⟨fun h=>by simp [Fence.wide] at h,hR.mono ?_⟩
    rintro e W3 (⟨rfl,hJ3,hk4⟩ | ⟨rfl,hJx3⟩)
    ·gi_wp2
     go_roundw
     case rel =>
      have e1:nextTo nx (k+1)=nextTo nx k++[(⟨1,k,0⟩,x)]:=by
       show nextTo nx k++(if nx.getD k 0 = -1 then [] else _)=_
       rw [if_neg (by rw [hgx]; exact hm),hgx]
      exact ⟨k+1,rfl,by omega,e1 ▸ hJ3,hk2.trans hk4,hk3.trans hk4⟩
     case measure=>simp [intOf]; omega
    ·gi_wp2
     exact bodyPost_ret (results_none rfl _ _ _) rfl ⟨⟨_,rfl⟩,.inr ⟨_,hJx3⟩⟩
  ·obtain rfl:k=nx.length:=by omega
   have hlI2:¬ ((nx.length:Nat) : Int) < (nx.length:Int):=by omega
   have hq:=(hs.keep hk2).ex
   obtain ⟨u0,u1,u2,u3,u4',u5',p0,p1,p2,p3,p4⟩:=hq
   have hc2:wr.cell? ⟨Bs,2,none⟩=some u2:=by simp [World.cell?,p0]
   gi_wp2
   have hb3:Boxed wr W.heap.size _ _:=(hk3.typed _ _ _ _ hbx (by decide) (by decide))
   have n1:=nextTo_len nx nx.length
   have n2:=rowsTo_len (kd:=2) hn.2.2.1.2 ri.length (Nat.le_refl _)
   have n3:(rowsTo 3 [gl] [gl].length).length≤1000 * 1:=rowsTo_len (by simpa using hn.2.1) 1 (Nat.le_refl _)
   have n4:=hn.1
   have n5:=hn.2.2.1.1
   refine ⟨trivial,fun h=>by simp [Fence.wide] at h,(rows_in (m - 1) l n₀ W.heap.size 2 u2 ri hn.2.2.1 J Jx hY _ wr hb3 p2 hJ2 (by omega)).mono ?_⟩
   rintro e W3 (⟨rfl,hJ3,hk4⟩ | ⟨rfl,q,hJx⟩)
   ·obtain ⟨t0,t1,t2,t3,t4,t5,r0,r1,r2,r3,r4⟩:=((hs.keep hk2).keep hk4).ex
    obtain ⟨a3,c3,rfl⟩:=r3.valI
    have hc3:W3.cell? ⟨Bs,3,none⟩=some (.slice a3 gl.length c3):=by simp [World.cell?,r0]
    obtain ⟨W4,hW4⟩ : ∃ W4,W3.alloc (.cells #[.slice a3 gl.length c3] 35)=W4:=⟨_,rfl⟩
    have h34:Kpt n₀ W3 W4:=hW4 ▸ Kpt.alloc _ _ _ (Nat.le_trans hW (Nat.le_trans hk2.below.size hk4.below.size))
    have hb4:W4.heap[W3.heap.size]? = some (Obj.cells #[.slice a3 gl.length c3] 35 (0,0)):=hW4 ▸ World.alloc_heap_new _ _
    have hrw4:RwK n₀ W4 (.slice (some ⟨W3.heap.size,0,none⟩) 1 1) [gl]:=by
     refine ⟨[.slice a3 gl.length c3],rfl,.inr ⟨_,0,1,rfl,.inr ⟨_,_,_,hb4,by decide,by decide⟩,fun j hj=>?_⟩,fun j hj=>?_⟩
     ·have:j=0:=by simpa using hj
      subst this
      simp [World.cell?,hb4]
     ·have:j=0:=by simpa using hj
      subst this
      exact r3.keep h34
    have hJ4:J _ W4:=hW4 ▸ hal _ _ _ hJ3
    have hbx4:Boxed W4 W.heap.size _ _:=(((hk3.trans hk4).trans h34).typed _ _ _ _ hbx (by decide) (by decide))
    gi_wp2
    refine ⟨trivial,fun h=>by simp [Fence.wide] at h,?_⟩
    refine (rows_in (m - 1) l n₀ W.heap.size 3 _ [gl] ⟨by simp,by simpa using hn.2.1⟩ J Jx hY _ W4 hbx4 hrw4 hJ4 (by simp only [List.length_append]; omega)).mono ?_
    rintro e W5 (⟨rfl,hJ5,hk5⟩ | ⟨rfl,q,hJx⟩)
    ·obtain ⟨s0,s1,s2,s3,s4,s5,z0,z1,z2,z3,z4⟩:=((((hs.keep hk2).keep hk4).keep h34).keep hk5).ex
     have hc5:W5.cell? ⟨Bs,4,none⟩=some s4:=by simp [World.cell?,z0]
     have hbx5:Boxed W5 W.heap.size _ _:=(hk5.typed _ _ _ _ hbx4 (by decide) (by decide))
     gi_wp2
     refine ⟨trivial,fun h=>by simp [Fence.wide] at h,(rows_in (m - 1) l n₀ W.heap.size 4 _ ha hn.2.2.2 J Jx hY _ W5 hbx5 z4 hJ5 (by simp only [List.length_append]; omega)).mono ?_⟩
     rintro e W6 (⟨rfl,hJ6,hk6⟩ | ⟨rfl,q,hJx⟩)
     ·gi_wp2
      refine bodyPost_end (results_none rfl _ _ _) rfl ⟨⟨_,rfl⟩,.inl ?_⟩
      unfold items
      exact hJ6
     ·gi_wp2
      exact bodyPost_end (results_none rfl _ _ _) rfl ⟨⟨_,rfl⟩,.inr ⟨_,hJx⟩⟩
    ·gi_wp2
     refine ⟨fun _ h=>(by cases h),?_⟩
     gi_wp2
     exact bodyPost_end (results_none rfl _ _ _) rfl ⟨⟨_,rfl⟩,.inr ⟨_,hJx⟩⟩
   ·gi_wp2
    refine ⟨fun _ h=>(by cases h),?_⟩
    gi_wp2
    refine ⟨fun _ h=>(by cases h),?_⟩
    gi_wp2
    exact bodyPost_end (results_none rfl _ _ _) rfl ⟨⟨_,rfl⟩,.inr ⟨_,hJx⟩⟩
end Go.Proofs.Ytimhpaijbbegaaa
namespace Go.Proofs.Ytimhpaijbbegaaa
open Go.RowKit
set_option linter.unusedVariables false
set_option linter.unusedSimpArgs false
attribute [local go_sem] Oper.semAt_some
theorem infoPl:(Try.prog.info? 58).map (fun i=>(i.zero,i.size,i.bytes))=some (some (.agg #[.int .i64 0,.int .i64 0,.int .i64 0]),3,24):=by kernel_rfl
theorem all_mk (m:Nat) (v0 v1 v2 v3 v4 v5:Value) (w:World) :
  CallsIn Fence.wide m Try.prog 36 #[.agg #[v0,v1,v2,v3,v4,v5]] w fun e w' =>
   e=.returned (.func (.func 50) #[] #[.pointer (some ⟨w.heap.size,0,none⟩)])∧w'=w.alloc (.cells #[v0,v1,v2,v3,v4,v5] 38):=by
 refine callsIn_of_wp Try.func36 rfl trivial ?_ rfl
 simp only [Try.ntmps36,List.size_toArray,List.length_cons,List.length_nil,Nat.reduceAdd,Nat.reduceSub,Array.replicate_succ,Array.replicate_zero,List.push_toArray,List.append_toArray,List.nil_append,List.cons_append]
 gi_wp2
 exact bodyPost_ret (results_tmp rfl _ _ _) rfl ⟨rfl,rfl⟩
def picks (g:Int) (l:List (Pl×Int)) : List Pl:=(l.filter fun x=>x.2 == g).map (·.1)
def plC:List Pl→List Value
 | []=>[]
 | p::l=>.int .i64 (p.kd:Int)::.int .i64 (p.at_:Int)::.int .i64 (p.ah:Int)::plC l
theorem plC_app (l m:List Pl) : plC (l++m)=plC l++plC m:=by
 induction l with
 | nil=>rfl
 | cons p l ih=>simp [plC,ih]
theorem cell_three_new (w:World) (x y z:Value) (t:TypeId) : ∀ j u,[x,y,z][j]? = some u→(w.alloc (.cells #[x,y,z] t)).cell? ((⟨w.heap.size,0,none⟩ : Addr).add j)=some u:=by
 intro j u hj
 match j,hj with
 | 0,hj=>simp at hj; subst hj; simp [Addr.add]
 | 1,hj=>simp at hj; subst hj; simp [Addr.add]
 | 2,hj=>simp at hj; subst hj; simp [Addr.add]
theorem results_box {fn:Func} {a:Tmp} {t e:TypeId} {tmps:Array Value} {P:Program} {W:World} {ad:Addr} {v:Value} (h:fn.results = #[.cell a t]) (ha:tmps.getD a undef=.pointer (some ad)) (ht:P.underlying t=some (.slice e)) (hc:W.cell? ad=some v) : (results fn tmps).run P W=.ok v W:=by
 have ha':tmps[a]?.getD undef=.pointer (some ad):=by simpa using ha
 simp [results,h,ha',Go.asAddr,loadVar,isAgg,run_underlying ht,hc]
set_option maxRecDepth 4000 in
set_option maxHeartbeats 1000000 in
theorem places_in (v0 v1 v2 v3 v4 v5:Value) (nx gl:List Int) (ri ha:List (List Int)) (g:Int) (hn:nx.length≤1000∧gl.length≤1000∧(ri.length≤1000∧∀ r ∈ ri,r.length≤1000)∧ha.length≤1000∧∀ r ∈ ha,r.length≤1000) (w:World)
  (h1:SlK w.heap.size w v1 (iV nx)) (h2:RwK w.heap.size w v2 ri) (h3:SlK w.heap.size w v3 (iV gl)) (h4:RwK w.heap.size w v4 ha) :
  CallsIn Fence.wide 8 Try.prog 20 #[.agg #[v0,v1,v2,v3,v4,v5],.int .i64 g] w fun e w' =>
   ∃ v,e=.returned v∧w'.ownsRow w.heap.size 58 3 v (picks g (items nx gl ri ha)).length (plC (picks g (items nx gl ri ha)))∧Below w.heap.size w w':=by
 refine callsIn_of_wp_marks Try.func20 rfl trivial ?_ rfl
 simp only [Try.ntmps20,List.size_toArray,List.length_cons,List.length_nil,Nat.reduceAdd,Nat.reduceSub,Array.replicate_succ,Array.replicate_zero,List.push_toArray,List.append_toArray,List.nil_append,List.cons_append]
 gi_wp2
 refine ⟨trivial,(all_mk 7 v0 v1 v2 v3 v4 v5 _).mono ?_⟩
 rintro e w' ⟨rfl,rfl⟩
 gi_wp2
 obtain ⟨W0,hW0⟩ : ∃ W0,(((w.alloc (Obj.cells #[v0,v1,v2,v3,v4,v5] 38)).alloc (Obj.cells #[Value.int IntKind.i64 g] 3)).alloc (Obj.cells #[Value.slice none 0 0] 55)).alloc (Obj.cells #[v0,v1,v2,v3,v4,v5] 38)=W0:=⟨_,rfl⟩
 rw [hW0]
 have hsz:W0.heap.size=w.heap.size+4:=by rw [← hW0]; simp
 have hB0:Below w.heap.size w W0:=by
  rw [← hW0]
  exact ((((Below.refl _ w).alloc (Nat.le_refl _) _).alloc (by simp) _).alloc (by simp; omega) _).alloc (by simp; omega) _
 have hgx:Boxed W0 (w.heap.size+1) 3 (.int .i64 g):=by
  rw [← hW0]
  have:=Boxed.new (w.alloc (Obj.cells #[v0,v1,v2,v3,v4,v5] 38)) 3 (.int .i64 g)
  simp only [World.size_alloc] at this
  exact (this.alloc _).alloc _
 have hlx:Boxed W0 (w.heap.size+1+1) 55 (.slice none 0 0):=by
  rw [← hW0]
  have:=Boxed.new ((w.alloc (Obj.cells #[v0,v1,v2,v3,v4,v5] 38)).alloc (Obj.cells #[Value.int IntKind.i64 g] 3)) 55 (.slice none 0 0)
  simp only [World.size_alloc] at this
  exact this.alloc _
 have hsx:W0.heap[w.heap.size+1+1+1]? = some (Obj.cells #[v0,v1,v2,v3,v4,v5] 38 (0,0)):=by
  rw [← hW0]
  have:=World.alloc_heap_new (((w.alloc (Obj.cells #[v0,v1,v2,v3,v4,v5] 38)).alloc (Obj.cells #[Value.int IntKind.i64 g] 3)).alloc (Obj.cells #[Value.slice none 0 0] 55)) (Obj.cells #[v0,v1,v2,v3,v4,v5] 38)
  simp only [World.size_alloc] at this
  exact this
 have hk0:Kpt w.heap.size w W0:=by
  rw [← hW0]
  exact (((Kpt.alloc _ w _ (Nat.le_refl _)).trans (Kpt.alloc _ _ _ (by simp))).trans (Kpt.alloc _ _ _ (by simp; omega))).trans (Kpt.alloc _ _ _ (by simp; omega))
 have hseq:SeqStopsK Fence.wide 7 Try.prog 50 #[.pointer (some ⟨w.heap.size+1+1+1,0,none⟩)] itE (Kpt w.heap.size) (fun xs=>xs=items nx gl ri ha) (fun _=>True) 10000000 W0:=by
  intro l J Jx W hW hJ hJx hY h0
  have hkW:Kpt w.heap.size W0 W:=⟨hW.mono (by omega),fun j a e s h _ _=>(hW.block j (Array.getElem?_eq_some_iff.1 h).1).trans h⟩
  refine (all_in 7 l w.heap.size (w.heap.size+1+1+1) nx gl ri ha hn J Jx (fun m pre x W1 hJ1 hlen=>YieldAt.wide (hY pre x W1 hJ1 hlen)) W (Nat.le_trans (by omega) hW.size) (fun s W o hs=>hJ s W _ none hs (World.grownBy_alloc W o none) (fun r e=>by cases e)) ?_ h0).mono ?_
  ·refine SnK.keep ⟨v0,v1,v2,v3,v4,v5,hsx,h1.keep hk0,h2.keep hk0,h3.keep hk0,h4.keep hk0⟩ hkW
  ·rintro e W' ⟨hv,h | ⟨q,h⟩⟩
   ·exact ⟨hv,.inl ⟨_,rfl,h⟩⟩
   ·exact ⟨hv,.inr ⟨q,trivial,h⟩⟩
 refine wpIn_rangeFunc_ownH rfl (by decide) (gf := 50) (lb:=#[.pointer (some ⟨w.heap.size+1+1+1,0,none⟩)]) rfl trivial (enters_of Try.func50 (by kernel_rfl) rfl)
  hseq Kpt.trans ?kb (Below.refl _ _) (fun _=>rfl)
  (fun pre W=>(∃ v,Boxed W (w.heap.size+1+1) 55 v∧W.ownsRow w.heap.size 58 3 v (picks g pre).length (plC (picks g pre))∧True)∧Boxed W (w.heap.size+1) 3 (.int .i64 g)∧Below w.heap.size w W∧w.heap.size+4≤W.heap.size)
  (fun _ _ _=>False) ?hI (fun _ _ _ _ _ hs _ _=>hs) ⟨⟨_,hlx,World.ownsRow_nil _ _ _ _,trivial⟩,hgx,hB0,by omega⟩
  (fun x a' W=>∃ Bx,w.heap.size+4≤Bx∧W.heap[Bx]? = some (Obj.cells #[.int .i64 (x.1.kd:Int),.int .i64 (x.1.at_:Int),.int .i64 (x.1.ah:Int)] 58 (0,0))∧a' = { tmps:=#[.agg #[v0,v1,v2,v3,v4,v5],.int .i64 g,.pointer (some ⟨w.heap.size,0,none⟩),.pointer (some ⟨w.heap.size+1,0,none⟩),.pointer (some ⟨w.heap.size+1+1,0,none⟩),.pointer (some ⟨Bx,0,none⟩),.int .i64 x.2,.agg #[v0,v1,v2,v3,v4,v5],.func (.func 50) #[] #[.pointer (some ⟨w.heap.size+1+1+1,0,none⟩)],x.1.enc,.int .i64 x.2,undef,undef,undef,undef,undef,undef,undef,undef],defers:=[] }) ?hAx ?assign ?body ?done ?stop
 case kb =>
  intro W l o o' hl hlo hc _
  refine ⟨?_,fun j a e s h _ _=>?_⟩
  ·exact belowK_b (w:=w) (Nat.le_refl _) W l o o' (by omega) hlo hc ‹_›
  ·refine (World.putObj_heap_other (fun ej=>?_)).trans h
   subst ej
   rw [hlo] at h
   cases h
   cases hc
 case hI =>
  rintro pre A B row ⟨p1,p2,p3,p5⟩ hgr hrow
  refine ⟨holdsRow_own w.heap.size (w.heap.size+1+1) 55 58 3 (fun pre=>(picks g pre).length) (fun pre=>plC (picks g pre)) (fun _ _=>True) pre A B row p1 hgr (fun r e=>(hrow r e).2),boxed_own (w.heap.size+1) 3 (fun _:List (Pl×Int)=>.int .i64 g) pre A B row p2 hgr (fun r e=>(hrow r e).2),p3.grown hgr p3.size (fun k e=>?_),Nat.le_trans p5 hgr.size⟩
  have:=(hrow k e).1
  omega
 case hAx =>
  rintro x a' _ A B row ⟨Bx,q1,q2,rfl⟩ hgr hrow
  refine ⟨Bx,q1,(hgr.block Bx (Array.getElem?_eq_some_iff.1 q2).1 (fun e=>?_)).trans q2,rfl⟩
  obtain ⟨_,o,ho,hc⟩:=hrow Bx e.symm
  rw [q2] at ho
  cases ho
  cases hc
 case assign =>
  rintro l pre x W K ⟨⟨v,p1,p2,_⟩,p3,p4,hsw⟩ hK
  dsimp only [itE,Pl.enc]
  gi_wp2
  refine hK _ _ ((KeepsOthers.alloc _ _).from _) (Kpt.alloc _ _ _ (by omega)) ⟨⟨v,p1.alloc _,?_,trivial⟩,p3.alloc _,p4.alloc (by omega) _,by simp; omega⟩ ⟨W.heap.size,hsw,World.alloc_heap_new _ _,rfl⟩
  exact p2.alloc _
 case body =>
  rintro l pre x a' W hl hr ⟨⟨v,p1,p2,_⟩,p3,p4,hsw⟩ ⟨Bx,q1,q2,rfl⟩ hlen
  have c1:=p3.cell
  have c2:=p1.cell
  have c3:W.cell? ⟨Bx,0,none⟩=some (.int .i64 (x.1.kd:Int)):=by simp [World.cell?,q2]
  have c4:W.cell? ⟨Bx,1,none⟩=some (.int .i64 (x.1.at_:Int)):=by simp [World.cell?,q2]
  have c5:W.cell? ⟨Bx,2,none⟩=some (.int .i64 (x.1.ah:Int)):=by simp [World.cell?,q2]
  by_cases hx:x.2=g
  ·have hxb:(x.2 == g)=true:=by simpa using hx
   have e1:picks g (pre++[x])=picks g pre++[x.1]:=by simp [picks,hxb]
   have hlp:(picks g pre).length≤pre.length:=by
    unfold picks
    rw [List.length_map]
    exact List.length_filter_le _ _
   obtain ⟨i0,hi,hz0,hz1,hz2⟩:=info_parts infoPl
   gi_wp2_with (gi_at_builtin; refine wpListIn_append_own _ rfl _ _ 55 rfl w.heap.size 58 i0 (.agg #[.int .i64 0,.int .i64 0,.int .i64 0]) 3 24 Try.underlying55 hi hz0 hz1 hz2 rfl (by decide) _ _ _ rfl (p2.alloc _) ⟨W.heap.size,0,none⟩ 1 1 [.int .i64 (x.1.kd:Int),.int .i64 (x.1.at_:Int),.int .i64 (x.1.ah:Int)] rfl rfl (cell_three_new _ _ _ _ _) (by simp [Value.oneCell']) (by unfold maxLen; omega) (by omega) (by simp; omega) ?_; intro v' w1 hown' hgrow _; obtain ⟨g',cap',rfl⟩:=ownsRow_succ hown'; obtain ⟨hv1,hv2,hr2,hk2,hb2⟩:=p1.appended (by decide) p2 (by omega:w.heap.size≤W.heap.size) (by omega) hown' hgrow; have d1:=hv1.cell; have d2:=hv1.frozen)
   have hgrow2:(W.alloc (.cells #[.int .i64 (x.1.kd:Int),.int .i64 (x.1.at_:Int),.int .i64 (x.1.ah:Int)] 58)).grownBy w1 v.ownBlock:=hgrow
   have hty:∀ (j:Nat) arr e s,W.heap[j]? = some (Obj.cells arr e s)→e ≠ 55→e ≠ 58→(w1.setCell ⟨w.heap.size+1+1,0,none⟩ (Value.slice (some ⟨g',0,none⟩) ((picks g pre).length+1) cap')).heap[j]? = some (Obj.cells arr e s):=by
    intro j arr e s hj k1 k2
    have l1:=(Array.getElem?_eq_some_iff.1 hj).1
    have g1:=(World.grownBy_alloc W (.cells #[.int .i64 (x.1.kd:Int),.int .i64 (x.1.at_:Int),.int .i64 (x.1.ah:Int)] 58) none).block j l1 (by simp)
    have g2:=hgrow2.block j (by simp; omega) (fun ej=>by
     rcases p2.2 with ⟨rfl,_⟩ | ⟨gg,cap,cur,rfl,_,hb,_⟩
     ·simp [Value.ownBlock] at ej
     ·have:j=gg:=by simpa [Value.ownBlock] using ej
      subst this
      rw [hb] at hj
      cases hj
      exact k2 rfl)
    have g3:=(grownBy_setCell' w1 (w.heap.size+1+1) (Value.slice (some ⟨g',0,none⟩) ((picks g pre).length+1) cap')).block j (by have:=hgrow.size; simp at this; omega) (fun ej=>by
     cases ej
     rw [show W.heap[w.heap.size+1+1]? = _ from p1] at hj
     cases hj
     exact k1 rfl)
    exact (g3.trans g2).trans (g1.trans hj)
   refine ⟨hk2.from _,⟨hb2,hty⟩,?_⟩
   dsimp only
   rw [e1]
   refine ⟨⟨_,hv2,?_,trivial⟩,hty _ _ _ _ p3 (by decide) (by decide),p4.trans (hb2.mono (Nat.le_refl _)),Nat.le_trans hsw hb2.size⟩
   rw [plC_app,List.length_append]
   exact hr2
  ·have hxb:(x.2 == g)=false:=by simpa using hx
   gi_wp2
   have e1:picks g (pre++[x])=picks g pre:=by simp [picks,hxb]
   refine ⟨KeepsFrom.refl _ _,Kpt.refl _ _,?_⟩
   dsimp only
   rw [e1]
   exact ⟨⟨v,p1,p2,trivial⟩,p3,p4,hsw⟩
 case done =>
  rintro D ys W hD rfl ⟨⟨v,p1,p2,_⟩,p3,p4,hsw⟩ hK
  have c1:=p1.cell
  have f1:=p1.frozen
  obtain ⟨a1,k1,c2,rfl⟩ : ∃ a k c,v=.slice a k c:=by
   rcases p2.2 with ⟨rfl,_⟩ | ⟨gg,cap,cur,rfl,_⟩
   ·exact ⟨_,_,_,rfl⟩
   ·exact ⟨_,_,_,rfl⟩
  gi_wp2
  have hv':=p1.set (Value.slice a1 k1 c2)
  have hr':=p2.kept (grownBy_setCell' W (w.heap.size+1+1) (Value.slice a1 k1 c2)) (.inr (p1.not_row (by decide) p2).symm)
  have hK':=(KeepsOthers.setCell W ⟨w.heap.size+1+1,0,none⟩ (Value.slice a1 k1 c2)).same D _ hK rfl
  have hgp:=grownBy_putObj' (W.setCell ⟨w.heap.size+1+1,0,none⟩ (Value.slice a1 k1 c2)) D (.deferred none)
  refine ⟨by simp,.inl ⟨_,_,rfl,run_takeDeferred hK',?_⟩⟩
  refine ⟨_,results_box rfl rfl Try.underlying55 (cell_kept hv'.cell hgp (fun r e=>by cases e; exact ⟨_,hK',rfl⟩)),?_⟩
  refine ⟨_,rfl,hr'.kept hgp (.inr fun ej=>?_),?_⟩
  ·rcases hr'.2 with ⟨e0,_⟩ | ⟨gg,cap,cur,e0,_,hb,_⟩
   ·rw [e0] at ej
    simp [Value.ownBlock] at ej
   ·rw [e0] at ej
    have:gg=D:=by simpa [Value.ownBlock] using ej
    subst this
    rw [hb] at hK'
    cases hK'
  ·exact (p4.setCell (p:=⟨w.heap.size+1+1,0,none⟩) (by simp; omega) _).trans (belowK_b (w:=w) (Nat.le_refl _) _ D _ _ (by omega) hK' rfl rfl)
 case stop =>
  rintro D c pre W hD _ h _
  exact h.elim
end Go.Proofs.Ytimhpaijbbegaaa
namespace Go.Proofs.Ytimhpaijbbegaaa
open Go.RowKit
set_option linter.unusedVariables false
set_option linter.unusedSimpArgs false
structure Wt where
 g:Int
 si:Int
 by_:Int
 mv:Int
 bk:Bool
 li:Nat
 hd:Bool
 p:Pl
structure Wp where
 si:Int
 by_:Int
 mv:Int
 bk:Bool
 li:Nat
 p:Pl
abbrev iZ (n:Int) : Value:=.int .i64 n
abbrev iM (n:Nat) : Value:=.int .i64 (n:Int)
def Wt.cs (x:Wt) : List Value:=[iZ x.g,iZ x.si,iZ x.by_,iZ x.mv,.bool x.bk,iM x.li,.bool x.hd,iM x.p.kd,iM x.p.at_,iM x.p.ah]
def Wp.cs (x:Wp) : List Value:=[iZ x.si,iZ x.by_,iZ x.mv,.bool x.bk,iM x.li,iM x.p.kd,iM x.p.at_,iM x.p.ah]
def stepW (x:Wt) : Option Pl→Wt
 | none=>{ x with si:=x.si+1,hd:=false }
 | some p=>{ g:=x.g,si:=x.si+1,by_:=if (p.kd=2∨p.kd=3)∧x.hd=true∧p.kd=x.p.kd∧p.at_=x.p.at_ then x.by_+max 0 ((x.p.ah:Int) - p.ah) else x.by_,mv:=if p.kd=3∧x.li=2 then x.mv+1 else x.mv,bk:=if p.kd=1∧0 < x.li then true else x.bk,li:=if p.kd=2∨p.kd=3 then p.kd else x.li,hd:=true,p:=p }
def onP (x:Wp) : Option Pl→Wp
 | none=>{ x with si:=x.si+1,p:=⟨0,0,0⟩ }
 | some p=>{ si:=x.si+1,by_:=if (p.kd=2∨p.kd=3)∧p.kd=x.p.kd∧p.at_=x.p.at_ then x.by_+max 0 ((x.p.ah:Int) - p.ah) else x.by_,mv:=if p.kd=3∧x.li=2 then x.mv+1 else x.mv,bk:=if p.kd=1∧0 < x.li then true else x.bk,li:=if p.kd=2∨p.kd=3 then p.kd else x.li,p:=p }
def pw (x:Wt) : Wp:=⟨x.si,x.by_,x.mv,x.bk,x.li,if x.hd then x.p else ⟨0,0,0⟩⟩
theorem pw_step (x:Wt) (o:Option Pl) : pw (stepW x o)=onP (pw x) o:=by
 cases o with
 | none=>simp [pw,stepW,onP]
 | some p =>
  obtain ⟨g,si,by_,mv,bk,li,hd,q⟩:=x
  cases hd
  ·simp only [pw,stepW,onP]
   simp
   intro h h2
   omega
  ·simp [pw,stepW,onP]
structure Wt.Ok (b:Int) (x:Wt) : Prop where
 si:-1≤x.si∧x.si≤b
 by_:0≤x.by_∧x.by_≤b * 1000
 mv:0≤x.mv∧x.mv≤b
 li:x.li≤3
 p:x.p.kd≤4∧x.p.at_≤1000∧x.p.ah≤1000
theorem Wt.Ok.step {b:Int} {x:Wt} (h:x.Ok b) {o:Option Pl} (ho:∀ p,o=some p→p.kd≤4∧p.at_≤1000∧p.ah≤1000) : (stepW x o).Ok (b+1):=by
 obtain ⟨h1,h2,h3,h4,h5⟩:=h
 cases o with
 | none=>exact ⟨by simp only [stepW]; omega,by simp only [stepW]; omega,by simp only [stepW]; omega,h4,h5⟩
 | some p =>
  have:=ho p rfl
  refine ⟨by simp only [stepW]; omega,?_,?_,?_,this⟩ <;> simp only [stepW] <;> split <;> omega
def PlAt (W:World) (v:Value) : Option Pl→Prop
 | none=>∃ a c,v=.slice a 0 c
 | some p=>∃ b off n c,v=.slice (some ⟨b,off,none⟩) (n+1) c∧W.cell? ⟨b,off,none⟩=some (iM p.kd)∧W.cell? ⟨b,off+1,none⟩=some (iM p.at_)∧W.cell? ⟨b,off+2,none⟩=some (iM p.ah)∧b < W.heap.size
theorem post_cell {P:Program} {fn:Func} {R:Ending→World→Prop} {a:Act} {w:World} {v:Value} {tm:Tmp} {t:TypeId} {ad:Addr} (hres:fn.results = #[.cell tm t]) (ha:a.tmps.getD tm undef=.pointer (some ad)) (hd:a.defers=[]) (hl:(loadVar t ad).run P w=.ok v w) (hR:R (.returned v) w) : bodyPost P fn R .ret a w:=by
 refine bodyPost_ret ?_ hd hR
 have ha':a.tmps[tm]?.getD undef=.pointer (some ad):=by simpa using ha
 simp [results,hres,ha',Go.asAddr,hl]
theorem heap_al2 (w:World) (o o':Obj) : ((w.alloc o).alloc o').heap[w.heap.size+1]? = some o':=by
 have:=World.alloc_heap_new (w.alloc o) o'
 simpa using this
theorem heap_keep (w:World) (o:Obj) {j:Nat} {x:Obj} (h:w.heap[j]? = some x) : (w.alloc o).heap[j]? = some x:=((World.grownBy_alloc w o none).block j (Array.getElem?_eq_some_iff.1 h).1 (by simp)).trans h
theorem heap_al3 (w:World) (o o' o'':Obj) : (((w.alloc o).alloc o').alloc o'').heap[w.heap.size+1]? = some o':=heap_keep _ _ (heap_al2 _ _ _)
theorem below_al2 (w:World) (o o':Obj) : Below w.heap.size w ((w.alloc o).alloc o'):=((Below.refl _ w).alloc (Nat.le_refl _) _).alloc (by simp) _
theorem below_al3 (w:World) (o o' o'':Obj) : Below w.heap.size w (((w.alloc o).alloc o').alloc o''):=(below_al2 w o o').alloc (by simp; omega) _
theorem size_of {P:Program} {t:TypeId} {n:Nat} (h:(P.info? t).map (·.size)=some n) : ∃ i,P.info? t=some i∧i.size=n:=by
 cases h':P.info? t with
 | none=>rw [h'] at h; cases h
 | some i=>rw [h'] at h; exact ⟨i,rfl,Option.some.inj h⟩
theorem loadWt (w:World) (B:Nat) (x0 x1 x2 x3 x4 x5 x6 x7 x8 x9:Value) (hb:w.heap[B]? = some (Obj.cells #[x0,x1,x2,x3,x4,x5,x6,x7,x8,x9] 63 (0,0))) : (loadVar 63 ⟨B,0,none⟩).run Try.prog w=.ok (.agg #[x0,x1,x2,x3,x4,x5,x6,x7,x8,x9]) w:=by
 have hc:∀ (k:Nat) (v:Value),#[x0,x1,x2,x3,x4,x5,x6,x7,x8,x9][k]? = some v→w.cell? ⟨B,k,none⟩=some v:=fun k v hk=>by simp only [World.cell?,hb]; simpa using hk
 obtain ⟨i,i1,i2⟩ : ∃ i,Try.prog.info? 63 = some i∧i.size=10:=size_of (by kernel_rfl)
 simp [loadVar,isAgg,run_underlying Try.underlying63,sizeOf,typeInfo,i1,i2,loadCells,loadCellsFrom,Addr.add,hc 0 x0 rfl,hc 1 x1 rfl,hc 2 x2 rfl,hc 3 x3 rfl,hc 4 x4 rfl,hc 5 x5 rfl,hc 6 x6 rfl,hc 7 x7 rfl,hc 8 x8 rfl,hc 9 x9 rfl]
theorem loadWp (w:World) (B:Nat) (x0 x1 x2 x3 x4 x5 x6 x7:Value) (hb:w.heap[B]? = some (Obj.cells #[x0,x1,x2,x3,x4,x5,x6,x7] 70 (0,0))) : (loadVar 70 ⟨B,0,none⟩).run Try.prog w=.ok (.agg #[x0,x1,x2,x3,x4,x5,x6,x7]) w:=by
 have hc:∀ (k:Nat) (v:Value),#[x0,x1,x2,x3,x4,x5,x6,x7][k]? = some v→w.cell? ⟨B,k,none⟩=some v:=fun k v hk=>by simp only [World.cell?,hb]; simpa using hk
 obtain ⟨i,i1,i2⟩ : ∃ i,Try.prog.info? 70 = some i∧i.size=8:=size_of (by kernel_rfl)
 simp [loadVar,isAgg,run_underlying Try.underlying70,sizeOf,typeInfo,i1,i2,loadCells,loadCellsFrom,Addr.add,hc 0 x0 rfl,hc 1 x1 rfl,hc 2 x2 rfl,hc 3 x3 rfl,hc 4 x4 rfl,hc 5 x5 rfl,hc 6 x6 rfl,hc 7 x7 rfl]
theorem loadCt (w:World) (B:Nat) (x0 x1 x2 x3:Value) (hb:w.heap[B]? = some (Obj.cells #[x0,x1,x2,x3] 28 (0,0))) : (loadVar 28 ⟨B,0,none⟩).run Try.prog w=.ok (.agg #[x0,x1,x2,x3]) w:=by
 have hc:∀ (k:Nat) (v:Value),#[x0,x1,x2,x3][k]? = some v→w.cell? ⟨B,k,none⟩=some v:=fun k v hk=>by simp only [World.cell?,hb]; simpa using hk
 obtain ⟨i,i1,i2⟩ : ∃ i,Try.prog.info? 28 = some i∧i.size=4:=size_of (by kernel_rfl)
 simp [loadVar,isAgg,run_underlying Try.underlying28,sizeOf,typeInfo,i1,i2,loadCells,loadCellsFrom,Addr.add,hc 0 x0 rfl,hc 1 x1 rfl,hc 2 x2 rfl,hc 3 x3 rfl]
theorem loadWa (w:World) (B:Nat) (x0 x1 x2 x3 x4:Value) (hb:w.heap[B]? = some (Obj.cells #[x0,x1,x2,x3,x4] 33 (0,0))) : (loadVar 33 ⟨B,0,none⟩).run Try.prog w=.ok (.agg #[x0,x1,x2,x3,x4]) w:=by
 have hc:∀ (k:Nat) (v:Value),#[x0,x1,x2,x3,x4][k]? = some v→w.cell? ⟨B,k,none⟩=some v:=fun k v hk=>by simp only [World.cell?,hb]; simpa using hk
 obtain ⟨i,i1,i2⟩ : ∃ i,Try.prog.info? 33 = some i∧i.size=5:=size_of (by kernel_rfl)
 simp [loadVar,isAgg,run_underlying Try.underlying33,sizeOf,typeInfo,i1,i2,loadCells,loadCellsFrom,Addr.add,hc 0 x0 rfl,hc 1 x1 rfl,hc 2 x2 rfl,hc 3 x3 rfl,hc 4 x4 rfl]
theorem list_in (m:Nat) (kd at_ ah:Int) (w:World) : CallsIn Fence.wide m Try.prog 40 #[.agg #[iZ kd,iZ at_,iZ ah]] w fun e w'=>e=.returned (.bool (kd == 2 || kd == 3))∧w'=w.alloc (.cells #[iZ kd,iZ at_,iZ ah] 58):=by
 refine callsIn_of_wp Try.func40 rfl trivial ?_ rfl
 simp only [Try.ntmps40,List.size_toArray,List.length_cons,List.length_nil,Nat.reduceAdd,Nat.reduceSub,Array.replicate_succ,Array.replicate_zero,List.push_toArray,List.append_toArray,List.nil_append,List.cons_append]
 by_cases h:kd=2
 ·subst h
  gi_wp2
  exact bodyPost_ret (results_tmp rfl _ _ _) rfl ⟨by simp,rfl⟩
 ·have hb:(kd == 2)=false:=by simpa using h
  gi_wp2
  exact bodyPost_ret (results_tmp rfl _ _ _) rfl ⟨by simp [h],rfl⟩
end Go.Proofs.Ytimhpaijbbegaaa
namespace Go.Proofs.Ytimhpaijbbegaaa
open Go.RowKit
set_option linter.unusedVariables false
set_option linter.unusedSimpArgs false
theorem heap_nw3 (w:World) (o o' o'':Obj) : (((w.alloc o).alloc o').alloc o'').heap[w.heap.size+1+1]? = some o'':=by
 have:=World.alloc_heap_new ((w.alloc o).alloc o') o''
 simpa using this
structure Ct where
 si:Int
 by_:Int
 mv:Int
 bk:Bool
def Ct.cs (x:Ct) : List Value:=[iZ x.si,iZ x.by_,iZ x.mv,.bool x.bk]
def mostC (a b:Ct) : Ct:=⟨max a.si b.si,max a.by_ b.by_,max a.mv b.mv,a.bk || b.bk⟩
set_option maxHeartbeats 2000000 in
theorem most_in (m:Nat) (a b:Ct) (w:World) : CallsIn Fence.wide m Try.prog 28 #[.agg a.cs.toArray,.agg b.cs.toArray] w fun e w'=>e=.returned (.agg (mostC a b).cs.toArray)∧Below w.heap.size w w':=by
 refine callsIn_of_wp Try.func28 rfl trivial ?_ rfl
 simp only [Try.ntmps28,List.size_toArray,List.length_cons,List.length_nil,Nat.reduceAdd,Nat.reduceSub,Array.replicate_succ,Array.replicate_zero,List.push_toArray,List.append_toArray,List.nil_append,List.cons_append]
 obtain ⟨a1,a2,a3,a4⟩:=a
 obtain ⟨b1,b2,b3,b4⟩:=b
 obtain ⟨rv,hrv⟩ : ∃ rv,Value.agg (mostC ⟨a1,a2,a3,a4⟩ ⟨b1,b2,b3,b4⟩).cs.toArray=rv:=⟨_,rfl⟩
 rw [hrv]
 dsimp only [Ct.cs,iZ]
 cases a4
 ·gi_wp2
  all_goals
   refine post_cell rfl rfl rfl (loadCt _ _ _ _ _ _ (heap_nw3 _ _ _ _)) ⟨?_,below_al3 _ _ _ _⟩
   rw [← hrv]
   simp [mostC,Ct.cs]
   omega
 ·gi_wp2
  all_goals
   refine post_cell rfl rfl rfl (loadCt _ _ _ _ _ _ (heap_nw3 _ _ _ _)) ⟨?_,below_al3 _ _ _ _⟩
   rw [← hrv]
   simp [mostC,Ct.cs]
   omega
theorem post_cellT {P:Program} {fn:Func} {R:Ending→World→Prop} {a:Act} {w:World} {v:Value} {tm tm2:Tmp} {t:TypeId} {ad:Addr} (hres:fn.results = #[.cell tm t,.tmp tm2]) (ha:a.tmps.getD tm undef=.pointer (some ad)) (hd:a.defers=[]) (hl:(loadVar t ad).run P w=.ok v w) (hR:R (.returned (.tuple #[v,a.tmps.getD tm2 undef])) w) : bodyPost P fn R .ret a w:=by
 refine bodyPost_ret ?_ hd hR
 have ha':a.tmps[tm]?.getD undef=.pointer (some ad):=by simpa using ha
 simp [results,hres,ha',Go.asAddr,hl]
def SlM (sz n:Nat) (W:World) (v:Value) (k:Nat) (xs:List Value) : Prop :=
 xs.length=k * sz∧((k=0∧∃ a c,v=.slice a 0 c)∨∃ b off c,v=.slice (some ⟨b,off,none⟩) k c∧b < n∧∀ j:Nat,j < k * sz→W.cell? ⟨b,off+j,none⟩=xs[j]?)
def wtC:List Wt→List Value
 | []=>[]
 | x::l=>x.cs++wtC l
theorem wtC_get (l:List Wt) (k j:Nat) (hk:k < l.length) (hj:j < 10) : (wtC l)[k * 10+j]? = l[k].cs[j]?:=by
 induction l generalizing k with
 | nil=>simp at hk
 | cons x l ih =>
  cases k with
  | zero =>
   simp only [wtC,Nat.zero_mul,Nat.zero_add]
   rw [List.getElem?_append_left (by simp [Wt.cs]; omega)]
   rfl
  | succ k =>
   simp only [wtC]
   rw [List.getElem?_append_right (by simp [Wt.cs]; omega)]
   have:=ih k (by simpa using hk)
   rw [show (k+1) * 10+j - x.cs.length=k * 10+j by simp [Wt.cs]; omega,this]
   rfl
theorem wtC_app (l m:List Wt) : wtC (l++m)=wtC l++wtC m:=by
 induction l with
 | nil=>rfl
 | cons x l ih=>simp [wtC,ih]
def w0 (g:Int) : Wt:=⟨g,-1,0,0,false,0,false,⟨0,0,0⟩⟩
def ofW (L:List Wt) (g:Int) : Option Wt:=L.find? fun x=>x.g == g
set_option maxHeartbeats 2000000 in
theorem of_in (m:Nat) (v:Value) (L:List Wt) (c:Ct) (g:Int) (w:World) (hL:SlM 10 w.heap.size w v L.length (wtC L)) (hl:L.length≤1000) : CallsIn Fence.wide m Try.prog 23 #[.agg #[v,iZ c.si,iZ c.by_,iZ c.mv,.bool c.bk],iZ g] w fun e w'=>e=.returned (.tuple #[.agg ((ofW L g).getD (w0 g)).cs.toArray,.bool (ofW L g).isSome])∧Below w.heap.size w w':=by
 refine callsIn_of_wp Try.func23 rfl trivial ?_ rfl
 simp only [Try.ntmps23,List.size_toArray,List.length_cons,List.length_nil,Nat.reduceAdd,Nat.reduceSub,Array.replicate_succ,Array.replicate_zero,List.push_toArray,List.append_toArray,List.nil_append,List.cons_append]
 obtain ⟨a0,c0,rfl⟩ : ∃ a c,v=.slice a L.length c:=by
  rcases hL.2 with ⟨e,a,c,rfl⟩ | ⟨b,off,c,rfl,_⟩
  ·exact ⟨a,c,by rw [e]⟩
  ·exact ⟨_,c,rfl⟩
 dsimp only [iZ]
 obtain ⟨rv,hrv⟩ : ∃ rv,Value.tuple #[.agg ((ofW L g).getD (w0 g)).cs.toArray,.bool (ofW L g).isSome]=rv:=⟨_,rfl⟩
 rw [hrv]
 gi_wp2
 gi_loop [6] (fun p=>∃ k:Nat,p=.int .i64 (k:Int)∧k≤L.length∧ofW (L.take k) g=none) (fun p=>L.length - (intOf p).toNat)
 case atStart=>exact ⟨0,rfl,Nat.zero_le _,by simp [ofW]⟩
 case round =>
  obtain ⟨k,rfl,hk,hno⟩:=hrel
  by_cases hlt:k < L.length
  ·have hlI:(k:Int) < (L.length:Int):=by omega
   obtain ⟨x,hx⟩ : ∃ x,L[k]=x:=⟨_,rfl⟩
   rcases hL.2 with ⟨e,_⟩ | ⟨b,off,c1,hv,hb,hc⟩
   ·omega
   cases hv
   have hgt:∀ (j:Nat) (u:Value),j < 10→x.cs[j]? = some u→w.cell? ⟨b,off+k * 10+j,none⟩=some u:=by
    intro j u hj hu
    rw [Nat.add_assoc,hc _ (by omega),wtC_get L k j hlt hj,hx,hu]
   obtain ⟨xg,si,by_,mv,bk,li,hd,⟨kd,at_,ah⟩⟩:=x
   have d0:∀ o1 o2,((w.alloc o1).alloc o2).cell? ⟨b,off+k * 10,none⟩=some (.int .i64 xg):=fun o1 o2=>((below_al2 w o1 o2).cell (p:=⟨b,off+k * 10,none⟩) hb).trans (hgt 0 _ (by decide) rfl)
   have d1:∀ o1 o2,((w.alloc o1).alloc o2).cell? ⟨b,off+k * 10+1,none⟩=some (.int .i64 si):=fun o1 o2=>((below_al2 w o1 o2).cell (p:=⟨b,off+k * 10+1,none⟩) hb).trans (hgt 1 _ (by decide) rfl)
   have d2:∀ o1 o2,((w.alloc o1).alloc o2).cell? ⟨b,off+k * 10+2,none⟩=some (.int .i64 by_):=fun o1 o2=>((below_al2 w o1 o2).cell (p:=⟨b,off+k * 10+2,none⟩) hb).trans (hgt 2 _ (by decide) rfl)
   have d3:∀ o1 o2,((w.alloc o1).alloc o2).cell? ⟨b,off+k * 10+3,none⟩=some (.int .i64 mv):=fun o1 o2=>((below_al2 w o1 o2).cell (p:=⟨b,off+k * 10+3,none⟩) hb).trans (hgt 3 _ (by decide) rfl)
   have d4:∀ o1 o2,((w.alloc o1).alloc o2).cell? ⟨b,off+k * 10+4,none⟩=some (.bool bk):=fun o1 o2=>((below_al2 w o1 o2).cell (p:=⟨b,off+k * 10+4,none⟩) hb).trans (hgt 4 _ (by decide) rfl)
   have d5:∀ o1 o2,((w.alloc o1).alloc o2).cell? ⟨b,off+k * 10+5,none⟩=some (.int .i64 (li:Int)):=fun o1 o2=>((below_al2 w o1 o2).cell (p:=⟨b,off+k * 10+5,none⟩) hb).trans (hgt 5 _ (by decide) rfl)
   have d6:∀ o1 o2,((w.alloc o1).alloc o2).cell? ⟨b,off+k * 10+6,none⟩=some (.bool hd):=fun o1 o2=>((below_al2 w o1 o2).cell (p:=⟨b,off+k * 10+6,none⟩) hb).trans (hgt 6 _ (by decide) rfl)
   have d7:∀ o1 o2,((w.alloc o1).alloc o2).cell? ⟨b,off+k * 10+7,none⟩=some (.int .i64 (kd:Int)):=fun o1 o2=>((below_al2 w o1 o2).cell (p:=⟨b,off+k * 10+7,none⟩) hb).trans (hgt 7 _ (by decide) rfl)
   have d8:∀ o1 o2,((w.alloc o1).alloc o2).cell? ⟨b,off+k * 10+8,none⟩=some (.int .i64 (at_:Int)):=fun o1 o2=>((below_al2 w o1 o2).cell (p:=⟨b,off+k * 10+8,none⟩) hb).trans (hgt 8 _ (by decide) rfl)
   have d9:∀ o1 o2,((w.alloc o1).alloc o2).cell? ⟨b,off+k * 10+9,none⟩=some (.int .i64 (ah:Int)):=fun o1 o2=>((below_al2 w o1 o2).cell (p:=⟨b,off+k * 10+9,none⟩) hb).trans (hgt 9 _ (by decide) rfl)
   have htk:L.take (k+1)=L.take k++[⟨xg,si,by_,mv,bk,li,hd,⟨kd,at_,ah⟩⟩]:=by rw [← hx]; simp
   by_cases hg:xg=g
   ·subst hg
    gi_wp2
    refine post_cellT rfl rfl rfl (loadWt _ _ _ _ _ _ _ _ _ _ _ _ (heap_al2 _ _ _)) ⟨?_,below_al2 _ _ _⟩
    have e:ofW L xg=some ⟨xg,si,by_,mv,bk,li,hd,⟨kd,at_,ah⟩⟩:=by
     unfold ofW at hno ⊢
     rw [← List.take_append_drop (k+1) L,List.find?_append,htk,List.find?_append,hno]
     simp
    rw [← hrv,e]
    rfl
   ·have hgb:(xg == g)=false:=by simpa using hg
    gi_wp2
    refine ⟨⟨k+1,rfl,by omega,?_⟩,by simp [intOf]; omega⟩
    unfold ofW at hno ⊢
    rw [htk,List.find?_append,hno]
    simp [hg]
  ·obtain rfl:k=L.length:=by omega
   have hlI:¬ ((L.length:Nat) : Int) < (L.length:Int):=by omega
   rw [List.take_length] at hno
   gi_wp2
   refine post_cellT rfl rfl rfl (loadWt _ _ _ _ _ _ _ _ _ _ _ _ (heap_al2 _ _ _)) ⟨?_,below_al2 _ _ _⟩
   rw [← hrv,hno]
   rfl
end Go.Proofs.Ytimhpaijbbegaaa
namespace Go.Proofs.Ytimhpaijbbegaaa
open Go.RowKit
set_option linter.unusedVariables false
set_option linter.unusedSimpArgs false
theorem infoRp:(Try.prog.info? 61).map (fun i=>(i.zero,i.size,i.bytes))=some (some (.agg #[.int .i64 0,.int .i64 0,.int .i64 0]),3,24):=by kernel_rfl
theorem picks_app (g:Int) (l m:List (Pl×Int)) : picks g (l++m)=picks g l++picks g m:=by simp [picks]
theorem picks_len (g:Int) (l:List (Pl×Int)) : (picks g l).length≤l.length:=by
 unfold picks
 rw [List.length_map]
 exact List.length_filter_le _ _
theorem SlM.val {sz n k:Nat} {W:World} {v:Value} {xs:List Value} (h:SlM sz n W v k xs) : ∃ a c,v=.slice a k c:=by
 rcases h.2 with ⟨e,a,c,rfl⟩ | ⟨b,off,c,rfl,_⟩
 ·exact ⟨a,c,by rw [e]⟩
 ·exact ⟨_,c,rfl⟩
theorem SlM.keep {sz n k:Nat} {W W':World} {v:Value} {xs:List Value} (h:SlM sz n W v k xs) (hb:Below n W W') : SlM sz n W' v k xs:=by
 obtain ⟨h1,h2 | ⟨b,off,c,rfl,hlt,hc⟩⟩:=h
 ·exact ⟨h1,.inl h2⟩
 ·exact ⟨h1,.inr ⟨b,off,c,rfl,hlt,fun j hj=>(hb.cell (p:=⟨b,off+j,none⟩) hlt).trans (hc j hj)⟩⟩
theorem SlM.get {n:Nat} {W:World} {v:Value} {l:List Int} (h:SlM 1 n W v l.length (iV l)) {k:Nat} (hk:k < l.length) : ∃ b off c,v=.slice (some ⟨b,off,none⟩) l.length c∧b < n∧W.cell? ⟨b,off+k,none⟩=some (.int .i64 l[k]):=by
 rcases h.2 with ⟨e,_⟩ | ⟨b,off,c,rfl,hb,hc⟩
 ·omega
 ·refine ⟨b,off,c,rfl,hb,?_⟩
  rw [hc k (by omega),List.getElem?_map,List.getElem?_eq_getElem hk]
  rfl
theorem below_grown {n:Nat} {W W1 w1:World} {e:TypeId} {sz k:Nat} {v:Value} {xs:List Value} (hr:W.ownsRow n e sz v k xs) (h1:Below n W W1) (hn:n≤W1.heap.size) (hg:W1.grownBy w1 v.ownBlock) : Below n W w1:=by
 refine h1.grown hg hn (fun j ej=>?_)
 rcases hr.2 with ⟨rfl,_⟩ | ⟨gg,cap,cur,rfl,h,_⟩
 ·simp [Value.ownBlock] at ej
 ·have:gg=j:=by simpa [Value.ownBlock] using ej
  subst this
  exact h
set_option maxRecDepth 4000 in
set_option maxHeartbeats 2000000 in
theorem row_in (m:Nat) (v:Value) (l:List Int) (kd a:Nat) (g:Int) (w:World) (hl:SlM 1 w.heap.size w v l.length (iV l)) (hn:l.length≤1000) : CallsIn Fence.wide m Try.prog 39 #[v,iM kd,iM a,iZ g] w fun e w'=>∃ u,e=.returned u∧w'.ownsRow w.heap.size 61 3 u (picks g (rowTo kd a l l.length)).length (plC (picks g (rowTo kd a l l.length)))∧Below w.heap.size w w':=by
 refine callsIn_of_wp Try.func39 rfl trivial ?_ rfl
 simp only [Try.ntmps39,List.size_toArray,List.length_cons,List.length_nil,Nat.reduceAdd,Nat.reduceSub,Array.replicate_succ,Array.replicate_zero,List.push_toArray,List.append_toArray,List.nil_append,List.cons_append]
 obtain ⟨a0,c0,rfl⟩:=hl.val
 dsimp only [iM,iZ]
 gi_wp2
 gi_loopw [9,10] (fun v p wr=>∃ k:Nat,p=.int .i64 (k:Int)∧k≤l.length∧wr.ownsRow w.heap.size 61 3 v (picks g (rowTo kd a l k)).length (plC (picks g (rowTo kd a l k)))∧Below w.heap.size w wr) (fun _ p _=>l.length - (intOf p).toNat)
 case atStart=>exact ⟨0,rfl,Nat.zero_le _,World.ownsRow_nil _ _ _ _,Below.refl _ _⟩
 case round =>
  obtain ⟨k,rfl,hk,hr,hB⟩:=hrel
  by_cases hlt:k < l.length
  ·have hlI:(k:Int) < (l.length:Int):=by omega
   obtain ⟨b,off,c,hv,hb,hc⟩:=(hl.keep hB).get hlt
   cases hv
   obtain ⟨x,hx⟩ : ∃ x,l[k]=x:=⟨_,rfl⟩
   rw [hx] at hc
   have hgx:l.getD k 0=x:=by rw [List.getD_eq_getElem?_getD,List.getElem?_eq_getElem hlt,hx]; rfl
   have e1:rowTo kd a l (k+1)=rowTo kd a l k++[(⟨kd,a,k⟩,x)]:=by
    show rowTo kd a l k++[(⟨kd,a,k⟩,l.getD k 0)]=_
    rw [hgx]
   have hpl:=picks_len g (rowTo kd a l k)
   rw [rowTo_len] at hpl
   by_cases hg:x=g
   ·subst hg
    have e2:picks x (rowTo kd a l (k+1))=picks x (rowTo kd a l k)++[⟨kd,a,k⟩]:=by rw [e1,picks_app]; simp [picks]
    obtain ⟨i0,hi,hz0,hz1,hz2⟩:=info_parts infoRp
    gi_wp2_with (gi_at_builtin; refine wpListIn_append_own _ rfl _ _ 67 rfl w.heap.size 61 i0 (.agg #[.int .i64 0,.int .i64 0,.int .i64 0]) 3 24 Try.underlying67 hi hz0 hz1 hz2 rfl (by decide) _ _ _ rfl (hr.alloc _) ⟨wr.heap.size,0,none⟩ 1 1 [.int .i64 (kd:Int),.int .i64 (a:Int),.int .i64 (k:Int)] rfl rfl (cell_three_new _ _ _ _ _) (by simp [Value.oneCell']) (by unfold maxLen; omega) (by omega) (by have:=hB.size; simp; omega) ?_; intro v' w1 hown' hgrow _)
    have hgrow2:(wr.alloc (.cells #[.int .i64 (kd:Int),.int .i64 (a:Int),.int .i64 (k:Int)] 61)).grownBy w1 u9.ownBlock:=hgrow
    refine ⟨⟨k+1,rfl,by omega,?_,hB.trans (below_grown hr ((Below.refl _ wr).alloc hB.size _) (by simp; have:=hB.size; omega) hgrow2)⟩,by simp [intOf]; omega⟩
    rw [e2,plC_app,List.length_append]
    exact hown'
   ·have hgb:(x == g)=false:=by simpa using hg
    have e2:picks g (rowTo kd a l (k+1))=picks g (rowTo kd a l k):=by rw [e1,picks_app]; simp [picks,hg]
    gi_wp2
    exact ⟨⟨k+1,rfl,by omega,by rw [e2]; exact hr,hB⟩,by simp [intOf]; omega⟩
  ·obtain rfl:k=l.length:=by omega
   have hlI:¬ ((l.length:Nat) : Int) < (l.length:Int):=by omega
   gi_wp2
   refine bodyPost_ret (results_tmp rfl _ _ _) rfl ⟨_,rfl,?_,hB⟩
   exact hr
def RwM (n:Nat) (W:World) (v:Value) (rs:List (List Int)) : Prop :=
 ∃ vs:List Value,vs.length=rs.length∧SlM 1 n W v rs.length vs∧∀ (k:Nat) (hk:k < rs.length),∃ u,vs[k]? = some u∧SlM 1 n W u rs[k].length (iV rs[k])
theorem RwM.keep {n:Nat} {W W':World} {v:Value} {rs:List (List Int)} (h:RwM n W v rs) (hb:Below n W W') : RwM n W' v rs:=by
 obtain ⟨vs,h1,h2,h3⟩:=h
 exact ⟨vs,h1,h2.keep hb,fun k hk=>let ⟨u,e,hu⟩:=h3 k hk; ⟨u,e,hu.keep hb⟩⟩
theorem RwM.val {n:Nat} {W:World} {v:Value} {rs:List (List Int)} (h:RwM n W v rs) : ∃ a c,v=.slice a rs.length c:=by
 obtain ⟨vs,h1,h2,h3⟩:=h
 exact h2.val
theorem RwM.get {n:Nat} {W:World} {v:Value} {rs:List (List Int)} (h:RwM n W v rs) {k:Nat} (hk:k < rs.length) : ∃ b off c u,v=.slice (some ⟨b,off,none⟩) rs.length c∧b < n∧W.cell? ⟨b,off+k,none⟩=some u∧SlM 1 n W u rs[k].length (iV rs[k]):=by
 obtain ⟨vs,h1,h2,h3⟩:=h
 obtain ⟨u,e,hu⟩:=h3 k hk
 rcases h2.2 with ⟨e0,_⟩ | ⟨b,off,c,rfl,hb,hc⟩
 ·omega
 ·exact ⟨b,off,c,u,rfl,hb,by rw [hc k (by omega),e],hu⟩
end Go.Proofs.Ytimhpaijbbegaaa
