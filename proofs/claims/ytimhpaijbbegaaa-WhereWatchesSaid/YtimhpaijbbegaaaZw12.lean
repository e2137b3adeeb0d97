/- Part of a proof: see the last text. -/
import Derived.Test.YtimhpaijbbegaaaZw11
namespace Go.Ev
open Go.RowKit
set_option linter.unusedVariables false
set_option linter.unusedSimpArgs false
set_option linter.unusedSectionVars false
variable [Sig]
inductive Shp where
 | no
 | cells (e:TypeId) (n:Nat) (f:Nat×Nat)
 | vw (n:Nat)
 | obj (o:Obj)
def shp:Option Obj→Shp
 | none=>.no
 | some (.cells c e f)=>.cells e c.size f
 | some (.view _ n)=>.vw n
 | some o=>.obj o
def cel:Option Obj→Nat→Option Value
 | some (.cells c _ _),k=>c[k]?
 | some (.view a _),k=>if k=1 then some (.pointer (some a)) else none
 | _,_=>none
theorem obj_ext {x y:Option Obj} (h:shp x=shp y) (hc:∀ k,cel x k=cel y k) : x=y:=by
 cases x with
 | none =>
  cases y with
  | none=>rfl
  | some y=>cases y <;> simp [shp] at h
 | some x =>
  cases y with
  | none=>cases x <;> simp [shp] at h
  | some y =>
   cases x <;> cases y <;> simp only [shp,Shp.cells.injEq,Shp.obj.injEq,Shp.vw.injEq,reduceCtorEq] at h
   case view.view a n a' n' =>
    subst h
    have:=hc 1
    simp only [cel,if_true,Option.some.injEq,Value.pointer.injEq] at this
    rw [this]
   case cells.cells c e f c' e' f' =>
    obtain ⟨rfl,hs,rfl⟩:=h
    have:c=c':=by
     apply Array.ext hs
     intro i h1 h2
     have:=hc i
     simp only [cel,Array.getElem?_eq_getElem h1,Array.getElem?_eq_getElem h2,Option.some.injEq] at this
     exact this
    rw [this]
   all_goals first | (cases h; rfl) | exact congrArg some h | skip
def allW (L:List Touch) (id:Nat) : Prop:=∃ t ∈ L,t.id=id∧t.wr=true∧t.at_=none
def celW (L:List Touch) (id k:Nat) : Prop:=∃ t ∈ L,t.id=id∧t.wr=true∧t.at_=some k
def agr (t:Touch) (x y:Option Obj) : Prop :=
 match t.at_ with
 | none=>x=y
 | some k=>shp x=shp y∧cel x k=cel y k
def Upd (L:List Touch) (s s1:St) : Prop:=∀ id,¬ allW L id→shp (s1.look id)=shp (s.look id)∧∀ k,¬ celW L id k→cel (s1.look id) k=cel (s.look id) k
def Mrg (L:List Touch) (s1 s2 s3:St) : Prop:=∀ id,(allW L id→s3.look id=s1.look id)∧(¬ allW L id→shp (s3.look id)=shp (s2.look id)∧∀ k,(celW L id k→cel (s3.look id) k=cel (s1.look id) k)∧(¬ celW L id k→cel (s3.look id) k=cel (s2.look id) k))
def Win (s:St) (n m:Nat) : Prop:=∀ id,4 * n≤id→id < 4 * m→s.look id=none
def Old (n m id:Nat) : Prop:=¬ (4 * n≤id∧id < 4 * m)
def Local {α:Type} (f:St→Option (α×St)) : Prop :=
 ∀ s r s1,f s=some (r,s1)→s.next≤s1.next∧(Win s s.next s1.next →
  ∃ L,s1.log=L++s.log∧Upd L s s1∧(∀ t ∈ L,Old s.next s1.next t.id→s.look t.id ≠ none) ∧
   ∀ s2:St,s2.next=s.next→(∀ t ∈ L,Old s.next s1.next t.id→agr t (s.look t.id) (s2.look t.id))→Win s2 s.next s1.next →
    ∃ s3,f s2=some (r,s3)∧s3.next=s1.next∧s3.log=L++s2.log∧Mrg L s1 s2 s3)
theorem shp_none {x:Option Obj} (h:shp x=.no) : x=none:=by
 cases x with
 | none=>rfl
 | some o=>cases o <;> simp [shp] at h
theorem not_allW_nil (id:Nat) : ¬ allW [] id:=fun ⟨t,ht,_⟩=>by cases ht
theorem not_celW_nil (id k:Nat) : ¬ celW [] id k:=fun ⟨t,ht,_⟩=>by cases ht
theorem Mrg.nil (s:St) (s1:St) : Mrg [] s1 s s:=fun id=>⟨fun h=>(not_allW_nil id h).elim,fun _=>⟨rfl,fun k=>⟨fun h=>(not_celW_nil id k h).elim,fun _=>rfl⟩⟩⟩
theorem Local.pure {α:Type} (a:α) : Local (fun s=>some (a,s)):=by
 intro s r s1 h
 cases h
 exact ⟨Nat.le_refl _,fun hcl=>⟨[],rfl,fun id _=>⟨rfl,fun k _=>rfl⟩,(fun t ht=>by cases ht),fun s2 hn ha hc=>⟨s2,rfl,hn,rfl,Mrg.nil s2 _⟩⟩⟩
theorem allW_append {L M:List Touch} {id:Nat} : allW (L++M) id↔allW L id∨allW M id:=by
 constructor
 ·rintro ⟨t,ht,h⟩
  rcases List.mem_append.1 ht with ht | ht
  ·exact .inl ⟨t,ht,h⟩
  ·exact .inr ⟨t,ht,h⟩
 ·rintro (⟨t,ht,h⟩ | ⟨t,ht,h⟩)
  ·exact ⟨t,List.mem_append_left _ ht,h⟩
  ·exact ⟨t,List.mem_append_right _ ht,h⟩
theorem celW_append {L M:List Touch} {id k:Nat} : celW (L++M) id k↔celW L id k∨celW M id k:=by
 constructor
 ·rintro ⟨t,ht,h⟩
  rcases List.mem_append.1 ht with ht | ht
  ·exact .inl ⟨t,ht,h⟩
  ·exact .inr ⟨t,ht,h⟩
 ·rintro (⟨t,ht,h⟩ | ⟨t,ht,h⟩)
  ·exact ⟨t,List.mem_append_left _ ht,h⟩
  ·exact ⟨t,List.mem_append_right _ ht,h⟩
theorem Local.bind {α β:Type} {f:St→Option (α×St)} {g:α→St→Option (β×St)} (hf:Local f) (hg:∀ a,Local (g a)) :
  Local (fun s=>match f s with | some (a,s1)=>g a s1 | none=>none):=by
 intro s r s2 h
 dsimp only at h
 split at h
 ·rename_i a s1 hfs
  obtain ⟨n1,k1⟩:=hf s a s1 hfs
  obtain ⟨n2,k2⟩:=hg a s1 r s2 h
  refine ⟨Nat.le_trans n1 n2,fun hcl=>?_⟩
  obtain ⟨L1,e1,u1,b1,l1⟩:=k1 (fun id x y=>hcl id x (by omega))
  have free1:∀ id,4 * s1.next≤id→id < 4 * s2.next→¬ allW L1 id:=by
   intro id x y ⟨t,ht,hid,_⟩
   exact b1 t ht (fun hh=>by omega) (by rw [hid]; exact hcl id (by omega) y)
  have w1:Win s1 s1.next s2.next:=by
   intro id x y
   exact shp_none (by rw [(u1 id (free1 id x y)).1,hcl id (by omega) y]; rfl)
  obtain ⟨L2,e2,u2,b2,l2⟩:=k2 w1
  refine ⟨L2++L1,by rw [e2,e1,List.append_assoc],?_,?_,?_⟩
  ·intro id hw
   rw [allW_append,not_or] at hw
   obtain ⟨p1,p2⟩:=u1 id hw.2
   obtain ⟨q1,q2⟩:=u2 id hw.1
   refine ⟨q1.trans p1,fun k hk=>?_⟩
   rw [celW_append,not_or] at hk
   exact (q2 k hk.1).trans (p2 k hk.2)
  ·intro t ht hold
   rcases List.mem_append.1 ht with ht | ht
   ·intro hno
    have hno1:¬ allW L1 t.id:=fun ⟨u,hu,hid,_⟩=>b1 u hu (fun hh=>hold (by omega)) (by rw [hid]; exact hno)
    exact b2 t ht (fun hh=>hold (by omega)) (shp_none (by rw [(u1 t.id hno1).1,hno]; rfl))
   ·exact b1 t ht (fun hh=>hold (by omega))
  ·intro z hz hag hzc
   obtain ⟨z1,f1,m1,g1,r1⟩:=l1 z hz (fun t ht hid=>by
    by_cases hw:Old s.next s2.next t.id
    ·exact hag t (List.mem_append_right _ ht) hw
    ·have hw':4 * s.next≤t.id∧t.id < 4 * s2.next:=by unfold Old at hw; omega
     exact absurd (hcl t.id hw'.1 hw'.2) (b1 t ht hid)) (fun id x y=>hzc id x (by omega))
   have hag2:∀ t ∈ L2,Old s1.next s2.next t.id→agr t (s1.look t.id) (z1.look t.id):=by
    intro t ht hid
    obtain ⟨ra,rb⟩:=r1 t.id
    by_cases hw:allW L1 t.id
    ·rw [ra hw]
     unfold agr
     split
     ·rfl
     ·exact ⟨rfl,rfl⟩
    ·obtain ⟨rc,rd⟩:=rb hw
     obtain ⟨p1,p2⟩:=u1 t.id hw
     by_cases hold:Old s.next s2.next t.id
     ·have h0:=hag t (List.mem_append_left _ ht) hold
      unfold agr at h0 ⊢
      split at h0
      ·apply obj_ext
       ·rw [p1,rc,h0]
       ·intro k
        by_cases hk:celW L1 t.id k
        ·rw [(rd k).1 hk]
        ·rw [(rd k).2 hk,p2 k hk,h0]
      ·rename_i k hsome
       refine ⟨by rw [p1,rc]; exact h0.1,?_⟩
       by_cases hk:celW L1 t.id k
       ·rw [(rd k).1 hk]
       ·rw [(rd k).2 hk,p2 k hk]; exact h0.2
     ·have hw':4 * s.next≤t.id∧t.id < 4 * s2.next:=by unfold Old at hold; omega
      have hz0:z.look t.id=none:=hzc t.id hw'.1 hw'.2
      have hs0:s.look t.id=none:=hcl t.id hw'.1 hw'.2
      have e3:s1.look t.id=none:=shp_none (by rw [p1,hs0]; rfl)
      have e4:z1.look t.id=none:=shp_none (by rw [rc,hz0]; rfl)
      rw [e3,e4]
      unfold agr
      split
      ·rfl
      ·exact ⟨rfl,rfl⟩
   have hcl2:Win z1 s1.next s2.next:=by
    intro id x y
    obtain ⟨ra,rb⟩:=r1 id
    exact shp_none (by rw [(rb (free1 id x y)).1,hzc id (by omega) y]; rfl)
   obtain ⟨z2,f2,m2,g2,r2⟩:=l2 z1 m1 hag2 hcl2
   refine ⟨z2,?_,m2,by rw [g2,g1,List.append_assoc],?_⟩
   ·dsimp only
    rw [f1]
    exact f2
   ·intro id
    obtain ⟨ra,rb⟩:=r1 id
    obtain ⟨rc,rd⟩:=r2 id
    constructor
    ·intro hw
     rw [allW_append] at hw
     by_cases hw2:allW L2 id
     ·exact rc hw2
     ·have hw1:allW L1 id:=hw.resolve_left hw2
      obtain ⟨q1,q2⟩:=u2 id hw2
      obtain ⟨s1',s2'⟩:=rd hw2
      apply obj_ext
      ·rw [s1',ra hw1,q1]
      ·intro k
       by_cases hk:celW L2 id k
       ·exact (s2' k).1 hk
       ·rw [(s2' k).2 hk,ra hw1,q2 k hk]
    ·intro hw
     rw [allW_append,not_or] at hw
     obtain ⟨t1,t2⟩:=rb hw.2
     obtain ⟨t3,t4⟩:=rd hw.1
     obtain ⟨q1,q2⟩:=u2 id hw.1
     refine ⟨t3.trans t1,fun k=>⟨fun hk=>?_,fun hk=>?_⟩⟩
     ·rw [celW_append] at hk
      by_cases hk2:celW L2 id k
      ·exact (t4 k).1 hk2
      ·have hk1:=hk.resolve_left hk2
       rw [(t4 k).2 hk2,(t2 k).1 hk1,q2 k hk2]
     ·rw [celW_append,not_or] at hk
      rw [(t4 k).2 hk.1,(t2 k).2 hk.2]
 ·cases h
theorem Local.congr {α:Type} {f g:St→Option (α×St)} (h:∀ s,g s=f s) (hf:Local f) : Local g:=by
 have:g=f:=funext h
 rw [this]
 exact hf
theorem Local.none {α:Type} : Local (fun _=>(Option.none:Option (α×St))):=by
 intro s r s1 h
 cases h
theorem Local.read {α:Type} (id:Nat) (at_:Option Nat) (q:Option Obj→Option α) (hq:∀ x y,agr ⟨id,at_,false⟩ x y→q y=q x) (hn:q Option.none=Option.none) :
  Local (fun s=>match q (s.look id) with | some a=>some (a,s.touch id at_ false) | Option.none=>Option.none):=by
 intro s r s1 h
 dsimp only at h
 split at h
 ·rename_i a hqa
  cases h
  refine ⟨Nat.le_refl _,fun hcl=>⟨[⟨id,at_,false⟩],rfl,fun j _=>⟨rfl,fun k _=>rfl⟩,?_,?_⟩⟩
  ·intro t ht _
   rw [List.mem_singleton] at ht
   subst ht
   exact fun hno=>by have hno:s.look id=Option.none:=hno; rw [hno,hn] at hqa; cases hqa
  ·intro z hz hag hzc
   have h0:=hag ⟨id,at_,false⟩ (List.mem_singleton.2 rfl) (fun ⟨x,y⟩=>Nat.lt_irrefl _ (Nat.lt_of_le_of_lt x y))
   refine ⟨z.touch id at_ false,?_,hz,rfl,?_⟩
   ·dsimp only
    rw [hq _ _ h0,hqa]
   ·intro j
    have nw:¬ allW [⟨id,at_,false⟩] j:=fun ⟨t,ht,_,hw,_⟩=>by rw [List.mem_singleton] at ht; subst ht; cases hw
    exact ⟨fun h=>(nw h).elim,fun _=>⟨rfl,fun k=>⟨(fun ⟨t,ht,_,hw,_⟩=>by rw [List.mem_singleton] at ht; subst ht; cases hw),fun _=>rfl⟩⟩⟩
 ·cases h
theorem Local.cell (id k:Nat) (v:Value) (hlim:id < lim) : Local (fun s=>match s.look id with
  | some (.cells c e (0,0))=>if k < c.size then some ((),(s.put id (some (.cells (c.setIfInBounds k v) e (0,0)))).touch id (some k) true) else Option.none
  | _=>Option.none):=by
 intro s r s1 h
 dsimp only at h
 split at h
 ·rename_i c e hl
  split at h
  ·rename_i hk
   cases h
   have lk:∀ j,((s.put id (some (.cells (c.setIfInBounds k v) e (0,0)))).touch id (some k) true).look j=if j=id then some (.cells (c.setIfInBounds k v) e (0,0)) else s.look j:=by
    intro j
    by_cases ej:j=id
    ·subst ej; rw [if_pos rfl]; exact St.look_put_same _ _ _ hlim
    ·rw [if_neg ej]; exact St.look_put_other _ _ _ _ ej
   have nall:∀ j,¬ allW [⟨id,some k,true⟩] j:=fun j ⟨t,ht,_,_,hn⟩=>by rw [List.mem_singleton] at ht; subst ht; cases hn
   refine ⟨Nat.le_refl _,fun hcl=>⟨[⟨id,some k,true⟩],rfl,?_,?_,?_⟩⟩
   ·intro j _
    rw [lk j]
    by_cases ej:j=id
    ·subst ej
     rw [if_pos rfl,hl]
     refine ⟨by simp [shp],fun m hm=>?_⟩
     have hne:k ≠ m:=fun e=>hm ⟨_,List.mem_singleton.2 rfl,rfl,rfl,by rw [e]⟩
     simp only [cel]
     rw [Array.getElem?_setIfInBounds,if_neg hne]
    ·rw [if_neg ej]; exact ⟨rfl,fun _ _=>rfl⟩
   ·intro t ht _
    rw [List.mem_singleton] at ht
    subst ht
    exact fun hno=>by have hno:s.look id=Option.none:=hno; rw [hno] at hl; cases hl
   ·intro z hz hag hzc
    have h0:=hag ⟨id,some k,true⟩ (List.mem_singleton.2 rfl) (fun ⟨x,y⟩=>Nat.lt_irrefl _ (Nat.lt_of_le_of_lt x y))
    obtain ⟨h1,h2⟩:=h0
    rw [hl] at h1
    have hz2:∃ c2:Array Value,z.look id=some (.cells c2 e (0,0))∧c2.size=c.size:=by
     cases hzl:z.look id with
     | none=>rw [hzl] at h1; cases h1
     | some o =>
      rw [hzl] at h1
      cases o <;> simp only [shp,Shp.cells.injEq,reduceCtorEq] at h1
      obtain ⟨rfl,h3,rfl⟩:=h1
      exact ⟨_,rfl,h3.symm⟩
    obtain ⟨c2,hzl,hsz⟩:=hz2
    have lz:∀ j,((z.put id (some (.cells (c2.setIfInBounds k v) e (0,0)))).touch id (some k) true).look j=if j=id then some (.cells (c2.setIfInBounds k v) e (0,0)) else z.look j:=by
     intro j
     by_cases ej:j=id
     ·subst ej; rw [if_pos rfl]; exact St.look_put_same _ _ _ hlim
     ·rw [if_neg ej]; exact St.look_put_other _ _ _ _ ej
    refine ⟨(z.put id (some (.cells (c2.setIfInBounds k v) e (0,0)))).touch id (some k) true,?_,hz,rfl,?_⟩
    ·dsimp only
     rw [hzl]
     show (if k < c2.size then _ else _)=_
     rw [if_pos (by omega)]
    ·intro j
     refine ⟨fun h=>(nall j h).elim,fun _=>?_⟩
     rw [lz j,lk j]
     by_cases ej:j=id
     ·subst ej
      rw [if_pos rfl,if_pos rfl,hzl]
      refine ⟨by simp [shp],fun m=>⟨fun hm=>?_,fun hm=>?_⟩⟩
      ·obtain ⟨t,ht,_,_,hn⟩:=hm
       rw [List.mem_singleton] at ht
       subst ht
       cases hn
       simp only [cel]
       rw [Array.getElem?_setIfInBounds,Array.getElem?_setIfInBounds,if_pos rfl,if_pos rfl,if_pos (by omega),if_pos hk]
      ·have hne:k ≠ m:=fun e=>hm ⟨_,List.mem_singleton.2 rfl,rfl,rfl,by rw [e]⟩
       simp only [cel]
       rw [Array.getElem?_setIfInBounds,if_neg hne]
     ·rw [if_neg ej,if_neg ej]
      refine ⟨rfl,fun m=>⟨fun ⟨t,ht,hid2,_⟩=>?_,fun _=>rfl⟩⟩
      rw [List.mem_singleton] at ht
      subst ht
      exact (ej hid2.symm).elim
  ·cases h
 ·cases h
theorem Local.whole {α:Type} (id:Nat) (q:Option Obj→Option (α×Option Obj)) (hlim:id < lim) (hn:q Option.none=Option.none) :
  Local (fun s=>match q (s.look id) with | some (a,o)=>some (a,(s.put id o).touch id Option.none true) | Option.none=>Option.none):=by
 intro s r s1 h
 dsimp only at h
 split at h
 ·rename_i a o hqa
  cases h
  have lk:∀ (z:St) j,((z.put id o).touch id Option.none true).look j=if j=id then o else z.look j:=by
   intro z j
   by_cases ej:j=id
   ·subst ej; rw [if_pos rfl]; exact St.look_put_same _ _ _ hlim
   ·rw [if_neg ej]; exact St.look_put_other _ _ _ _ ej
  have ncel:∀ j k,¬ celW [⟨id,Option.none,true⟩] j k:=fun j k ⟨t,ht,_,_,hn⟩=>by rw [List.mem_singleton] at ht; subst ht; cases hn
  have nall:∀ j,j ≠ id→¬ allW [⟨id,Option.none,true⟩] j:=fun j hj ⟨t,ht,hid2,_⟩=>by rw [List.mem_singleton] at ht; subst ht; exact hj hid2.symm
  refine ⟨Nat.le_refl _,fun hcl=>⟨[⟨id,Option.none,true⟩],rfl,?_,?_,?_⟩⟩
  ·intro j hj
   have ej:j ≠ id:=fun e=>hj ⟨_,List.mem_singleton.2 rfl,e.symm,rfl,rfl⟩
   rw [lk s j,if_neg ej]
   exact ⟨rfl,fun _ _=>rfl⟩
  ·intro t ht _
   rw [List.mem_singleton] at ht
   subst ht
   exact fun hno=>by have hno:s.look id=Option.none:=hno; rw [hno,hn] at hqa; cases hqa
  ·intro z hz hag hzc
   have h0:s.look id=z.look id:=hag ⟨id,Option.none,true⟩ (List.mem_singleton.2 rfl) (fun ⟨x,y⟩=>Nat.lt_irrefl _ (Nat.lt_of_le_of_lt x y))
   refine ⟨(z.put id o).touch id Option.none true,?_,hz,rfl,?_⟩
   ·dsimp only
    rw [← h0,hqa]
   ·intro j
    rw [lk z j,lk s j]
    by_cases ej:j=id
    ·subst ej
     rw [if_pos rfl,if_pos rfl]
     exact ⟨fun _=>rfl,fun hw=>(hw ⟨_,List.mem_singleton.2 rfl,rfl,rfl,rfl⟩).elim⟩
    ·rw [if_neg ej,if_neg ej]
     exact ⟨fun hw=>(nall j ej hw).elim,fun _=>⟨rfl,fun k=>⟨fun hk=>(ncel j k hk).elim,fun _=>rfl⟩⟩⟩
 ·cases h
theorem Local.new (d:Nat) (hd:d < 4) (o:Obj) : Local (fun s=>if 4 * s.next+d < lim then some (4 * s.next+d,{ (s.put (4 * s.next+d) (some o)).touch (4 * s.next+d) Option.none true with next:=s.next+1 }) else Option.none):=by
 intro s r s1 h
 dsimp only at h
 split at h
 ·rename_i hlim
  cases h
  have lk:∀ (z:St) (n:Nat) j,(({ (z.put (4 * s.next+d) (some o)).touch (4 * s.next+d) Option.none true with next:=n } : St)).look j=if j=4 * s.next+d then some o else z.look j:=by
   intro z n j
   by_cases ej:j=4 * s.next+d
   ·rw [if_pos ej,ej]; exact St.look_put_same _ _ _ hlim
   ·rw [if_neg ej]; exact St.look_put_other _ _ _ _ ej
  have ncel:∀ j k,¬ celW [⟨4 * s.next+d,Option.none,true⟩] j k:=fun j k ⟨t,ht,_,_,hn⟩=>by rw [List.mem_singleton] at ht; subst ht; cases hn
  have nall:∀ j,j ≠ 4 * s.next+d→¬ allW [⟨4 * s.next+d,Option.none,true⟩] j:=fun j hj ⟨t,ht,hid2,_⟩=>by rw [List.mem_singleton] at ht; subst ht; exact hj hid2.symm
  refine ⟨Nat.le_succ _,fun hcl=>⟨[⟨4 * s.next+d,Option.none,true⟩],rfl,?_,?_,?_⟩⟩
  ·intro j hj
   have ej:j ≠ 4 * s.next+d:=fun e=>hj ⟨_,List.mem_singleton.2 rfl,e.symm,rfl,rfl⟩
   rw [lk s _ j,if_neg ej]
   exact ⟨rfl,fun _ _=>rfl⟩
  ·intro t ht hold
   rw [List.mem_singleton] at ht
   subst ht
   exact absurd (show 4 * s.next≤4 * s.next+d∧4 * s.next+d < 4 * (s.next+1) by omega) hold
  ·intro z hz hag hzc
   refine ⟨{ (z.put (4 * s.next+d) (some o)).touch (4 * s.next+d) Option.none true with next:=s.next+1 },?_,rfl,rfl,?_⟩
   ·dsimp only
    rw [hz,if_pos hlim]
   ·intro j
    rw [lk z _ j,lk s _ j]
    by_cases ej:j=4 * s.next+d
    ·rw [if_pos ej,if_pos ej]
     exact ⟨fun _=>rfl,fun hw=>(hw ⟨_,List.mem_singleton.2 rfl,ej.symm,rfl,rfl⟩).elim⟩
    ·rw [if_neg ej,if_neg ej]
     exact ⟨fun hw=>(nall j ej hw).elim,fun _=>⟨rfl,fun k=>⟨fun hk=>(ncel j k hk).elim,fun _=>rfl⟩⟩⟩
 ·cases h
end Go.Ev
namespace Go.Ev
open Go.RowKit
set_option linter.unusedVariables false
set_option linter.unusedSimpArgs false
set_option linter.unusedSectionVars false
variable [Sig]
def qShape (r:Nat) (x:Option Obj) : Option (Option (TypeId×Nat)) :=
 match gro r,x with
 | false,some (.cells c e (0,0))=>some (some (e,c.size))
 | _,_=>none
def qFrozen (x:Option Obj) : Option Bool :=
 match x with
 | some (.cells _ _ (0,0))=>some false
 | _=>none
def qObj (x:Option Obj) : Option Obj :=
 match x with
 | some (.map es n)=>some (.map es n)
 | some (.mapIter m n se st)=>some (.mapIter m n se st)
 | some (.stringIter st p)=>some (.stringIter st p)
 | some (.loop l)=>some (.loop l)
 | some (.deferred d)=>some (.deferred d)
 | _=>none
def qSet (o:Obj) (x:Option Obj) : Option (Unit×Option Obj) :=
 match x,o with
 | some (.map _ _),.map es n=>some ((),some (.map es n))
 | some (.mapIter _ _ _ _),.mapIter m n se st=>some ((),some (.mapIter m n se st))
 | some (.stringIter _ _),.stringIter st p=>some ((),some (.stringIter st p))
 | some (.loop _),.loop l=>some ((),some (.loop l))
 | some (.deferred _),.deferred d=>some ((),some (.deferred d))
 | _,_=>none
theorem shp_cells {x y:Option Obj} {c:Array Value} {e:TypeId} {f:Nat×Nat} (h:shp x=shp y) (hx:x=some (.cells c e f)) : ∃ c',y=some (.cells c' e f)∧c'.size=c.size:=by
 subst hx
 cases y with
 | none=>cases h
 | some o =>
  cases o <;> simp only [shp,Shp.cells.injEq,reduceCtorEq] at h
  obtain ⟨rfl,h3,rfl⟩:=h
  exact ⟨_,rfl,h3.symm⟩
theorem shp_view {x y:Option Obj} {a:Addr} {n:Nat} (h:shp x=shp y) (hx:x=some (.view a n)) : ∃ a',y=some (.view a' n):=by
 subst hx
 cases y with
 | none=>cases h
 | some o =>
  cases o <;> simp only [shp,Shp.vw.injEq,reduceCtorEq] at h
  subst h
  exact ⟨_,rfl⟩
theorem shp_noncells {x y:Option Obj} (h:shp x=shp y) (hx:∀ c e f,x ≠ some (.cells c e f)) (hx2:∀ a n,x ≠ some (.view a n)) : y=x:=by
 have hy:∀ c e f,y ≠ some (.cells c e f):=by
  intro c e f hh
  obtain ⟨c',h2,_⟩:=shp_cells h.symm hh
  exact hx _ _ _ h2
 have hy2:∀ a n,y ≠ some (.view a n):=by
  intro a n hh
  obtain ⟨a',h2⟩:=shp_view h.symm hh
  exact hx2 _ _ h2
 have hc:∀ (z:Option Obj),(∀ c e f,z ≠ some (.cells c e f))→(∀ a n,z ≠ some (.view a n))→∀ k,cel z k=none:=by
  intro z hz hz2 k
  cases z with
  | none=>rfl
  | some o =>
   cases o with
   | cells c e f=>exact (hz _ _ _ rfl).elim
   | view a n=>exact (hz2 _ _ rfl).elim
   | _=>rfl
 exact obj_ext h.symm (fun k=>by rw [hc y hy hy2,hc x hx hx2])
theorem qShape_eq {r:Nat} {x y:Option Obj} (h:shp x=shp y) : qShape r y=qShape r x:=by
 cases hg:gro r with
 | true=>simp [qShape,hg]
 | false =>
  cases x with
  | none=>rw [shp_none (h.symm)]
  | some o =>
   cases o with
   | cells c e f =>
    obtain ⟨c',rfl,hs⟩:=shp_cells h rfl
    obtain ⟨f1,f2⟩:=f
    unfold qShape
    rw [hg]
    cases f1 <;> cases f2 <;> simp [hs]
   | view a n =>
    obtain ⟨a',rfl⟩:=shp_view h rfl
    simp [qShape,hg]
   | _=>rw [shp_noncells h (by intro c e f hh; cases hh) (by intro a n hh; cases hh)]
def celC:Option Obj→Nat→Option Value
 | some (.cells c _ _),k=>c[k]?
 | _,_=>none
theorem celC_eq {x y:Option Obj} {k:Nat} (h:shp x=shp y∧cel x k=cel y k) : celC y k=celC x k:=by
 obtain ⟨h,h2⟩:=h
 cases x with
 | none=>rw [shp_none h.symm]
 | some o =>
  cases o with
  | cells c e f =>
   obtain ⟨c',rfl,hs⟩:=shp_cells h rfl
   exact h2.symm
  | view a n =>
   obtain ⟨a',rfl⟩:=shp_view h rfl
   rfl
  | _=>rw [shp_noncells h (by intro c e f hh; cases hh) (by intro a n hh; cases hh)]
theorem qFrozen_eq {x y:Option Obj} (h:shp x=shp y) : qFrozen y=qFrozen x:=by
 cases x with
 | none=>rw [shp_none (h.symm)]
 | some o =>
  cases o with
  | cells c e f =>
   obtain ⟨c',rfl,hs⟩:=shp_cells h rfl
   obtain ⟨f1,f2⟩:=f
   unfold qFrozen
   cases f1 <;> cases f2 <;> simp
  | view a n =>
   obtain ⟨a',rfl⟩:=shp_view h rfl
   rfl
  | _=>rw [shp_noncells h (by intro c e f hh; cases hh) (by intro a n hh; cases hh)]
theorem arun_local {α:Type} (P:Program) (m:Sem α) : Local (arun P m):=by
 induction m with
 | pure a=>exact Local.congr (fun s=>rfl) (Local.pure a)
 | load md a k ih =>
  obtain ⟨id,off,sp⟩:=a
  cases sp with
  | some sp=>exact Local.congr (fun s=>by simp only [arun]) Local.none
  | none =>
   refine Local.congr (fun s=>?_) (Local.bind (Local.read id (some off) (fun x=>celC x off) (fun x y h=>celC_eq h) rfl) ih)
   simp only [arun]
   cases hl:s.look id with
   | none=>rfl
   | some o =>
    cases o with
    | cells c e f =>
     simp only [celC]
     cases c[off]? <;> rfl
    | _=>rfl
 | store md a v k ih =>
  obtain ⟨id,off,sp⟩:=a
  cases sp with
  | some sp=>exact Local.congr (fun s=>by simp only [arun]; cases oneCell v <;> rfl) Local.none
  | none =>
   cases h1:oneCell v with
   | false=>exact Local.congr (fun s=>by simp only [arun,h1]) Local.none
   | true =>
    by_cases hlim:id < lim
    ·refine Local.congr (fun s=>?_) (Local.bind (Local.cell id off v hlim) (fun _=>ih))
     simp only [arun,h1]
     cases hl:s.look id with
     | none=>rfl
     | some o =>
      cases o with
      | cells c e f =>
       obtain ⟨f1,f2⟩:=f
       cases f1 <;> cases f2 <;> first | rfl | skip
       by_cases hk:off < c.size
       ·simp [hk,hlim]
       ·simp [hk]
      | _=>rfl
    ·refine Local.congr (fun s=>?_) Local.none
     simp only [arun,h1]
     split
     ·rw [if_neg (fun h=>hlim h.2)]
     ·rfl
 | new o k ih =>
  have mk:(∀ s:St,arun P (.new o k) s=if 4 * s.next < lim then arun P (k (4 * s.next)) { (s.put (4 * s.next) (some o)).touch (4 * s.next) none true with next:=s.next+1 } else none)→Local (arun P (.new o k)):=by
   intro h
   refine Local.congr (fun s=>?_) (Local.bind (Local.new 0 (by omega) o) ih)
   rw [h s]
   dsimp only [Nat.add_zero]
   split <;> rfl
  cases o with
  | cells c e f =>
   obtain ⟨f1,f2⟩:=f
   cases f1 with
   | zero =>
    cases f2 with
    | zero=>exact mk (fun s=>by simp only [arun])
    | succ n=>exact Local.congr (fun s=>by simp only [arun]; split <;> rfl) Local.none
   | succ n=>exact Local.congr (fun s=>by simp only [arun]; split <;> rfl) Local.none
  | map es n=>exact mk (fun s=>by simp only [arun])
  | mapIter m n se st=>exact mk (fun s=>by simp only [arun])
  | stringIter st p=>exact mk (fun s=>by simp only [arun])
  | loop l=>exact mk (fun s=>by simp only [arun])
  | deferred d=>exact mk (fun s=>by simp only [arun])
  | _=>exact Local.congr (fun s=>by simp only [arun]; split <;> rfl) Local.none
 | shape r k ih =>
  refine Local.congr (fun s=>?_) (Local.bind (Local.read r (some 0) (qShape r) (fun x y h=>qShape_eq h.1) (by unfold qShape; split <;> first | rfl | (rename_i h; cases h))) ih)
  simp only [arun]
  cases hg:gro r with
  | true=>simp [qShape,hg]
  | false =>
   cases hl:s.look r with
   | none=>simp [qShape,hg]
   | some o =>
    cases o with
    | cells c e f =>
     obtain ⟨f1,f2⟩:=f
     cases f1 <;> cases f2 <;> simp [qShape,hg]
    | _=>simp [qShape,hg]
 | freeze a n k ih=>exact Local.congr (fun s=>rfl) Local.none
 | frozen a k ih =>
  refine Local.congr (fun s=>?_) (Local.bind (Local.read a.block (some 0) qFrozen (fun x y h=>qFrozen_eq h.1) rfl) ih)
  simp only [arun]
  cases hl:s.look a.block with
  | none=>rfl
  | some o =>
   cases o with
   | cells c e f =>
    obtain ⟨f1,f2⟩:=f
    cases f1 <;> cases f2 <;> rfl
   | _=>rfl
 | getObj r k ih =>
  refine Local.congr (fun s=>?_) (Local.bind (Local.read r none qObj (fun x y h=>by rw [show x=y from h]) rfl) ih)
  simp only [arun]
  cases hl:s.look r with
  | none=>rfl
  | some o=>cases o <;> rfl
 | setObj r o k ih =>
  by_cases hlim:r < lim
  ·refine Local.congr (fun s=>?_) (Local.bind (Local.whole r (qSet o) hlim (by cases o <;> rfl)) (fun _=>ih))
   simp only [arun,hlim,if_true]
   cases hl:s.look r with
   | none=>cases o <;> rfl
   | some x=>cases x <;> cases o <;> rfl
  ·refine Local.congr (fun s=>?_) Local.none
   simp only [arun]
   split
   ·rw [if_neg hlim]
   ·rw [if_neg hlim]
   ·rw [if_neg hlim]
   ·rw [if_neg hlim]
   ·rw [if_neg hlim]
   ·rfl
 | choose q k ih =>
  cases hq:q.forced with
  | true=>exact Local.congr (fun s=>by simp only [arun,hq,if_true]) (ih 0)
  | false=>exact Local.congr (fun s=>by simp [arun,hq]) Local.none
 | sys c k ih=>exact Local.congr (fun s=>rfl) Local.none
 | program k ih=>exact Local.congr (fun s=>rfl) (ih P)
 | mark m k ih=>exact Local.congr (fun s=>rfl) ih
 | halt h=>exact Local.congr (fun s=>rfl) Local.none
end Go.Ev
namespace Go.Ev
open Go.RowKit
set_option linter.unusedVariables false
set_option linter.unusedSimpArgs false
set_option linter.unusedSectionVars false
variable [Sig]
theorem Local.map {α β:Type} {f:St→Option (α×St)} (hf:Local f) (g:α→β) : Local (fun s=>(f s).map fun (a,s1)=>(g a,s1)):=by
 refine Local.congr (fun s=>?_) (Local.bind hf (fun a=>Local.pure (g a)))
 dsimp only
 cases f s with
 | none=>rfl
 | some x=>rfl
theorem Local.ite {α:Type} (c:Bool) {f:St→Option (α×St)} (hf:Local f) : Local (fun s=>if c=true then f s else Option.none):=by
 cases c with
 | false=>exact Local.congr (fun s=>by simp) Local.none
 | true=>exact Local.congr (fun s=>by simp) hf
theorem sv_local {f:St→Option (Value×St)} (hf:Local f) : Local (fun s=>sv (f s)):=Local.map hf Next.value
theorem su_local {α:Type} {f:St→Option (α×St)} (hf:Local f) : Local (fun s=>su (f s)):=Local.map hf (fun _=>Next.skip)
def qMap (x:Option Obj) : Option (Array MapEntry×Nat) :=
 match x with
 | some (.map es n)=>some (es,n)
 | _=>none
theorem aLookup_local (P:Program) (t:TypeId) (m k:Value) (ok:Bool) : Local (fun s=>aLookup P s t m k ok):=by
 unfold aLookup
 cases hT:mapT P t with
 | none=>exact Local.congr (fun s=>by simp [hT]) Local.none
 | some x =>
  obtain ⟨kt,d,et⟩:=x
  cases hk:keyV k with
  | false=>exact Local.congr (fun s=>by simp [hT,hk]) Local.none
  | true =>
   have fin:∀ es:Array MapEntry,Local (fun s1=>match Instr.findNow d k es.toList 0 with
     | some (some (_,v))=>some (if ok then Value.tuple #[v,.bool true] else v,s1)
     | some none =>
      match P.info? et with
      | some i=>(match i.zero with | some z=>if flatN 6 z then some (if ok then Value.tuple #[z,.bool false] else z,s1) else none | none=>none)
      | none=>none
     | none=>none):=by
    intro es
    cases Instr.findNow d k es.toList 0 with
    | none=>exact Local.none
    | some r =>
     cases r with
     | some p=>exact Local.pure _
     | none =>
      dsimp only
      cases P.info? et with
      | none=>exact Local.none
      | some i =>
       dsimp only
       cases i.zero with
       | none=>exact Local.none
       | some z =>
        dsimp only
        exact Local.ite _ (Local.pure _)
   cases m with
   | map r =>
    cases r with
    | none=>exact Local.congr (fun s=>rfl) (fin #[])
    | some r =>
     refine Local.congr (fun s=>?_) (Local.bind (Local.read r none qMap (fun x y h=>by rw [show x=y from h]) rfl) (fun p=>fin p.1))
     dsimp only [entriesOf]
     cases hl:s.look r with
     | none=>rfl
     | some o=>cases o <;> rfl
   | _=>exact Local.congr (fun s=>rfl) Local.none
def qUp (P:Program) (t:TypeId) (k v:Value) (x:Option Obj) : Option (Unit×Option Obj) :=
 match mapT P t,x with
 | some (_,d,_),some (.map es n) =>
  match Instr.findNow d k es.toList 0 with
  | some (some (i,_))=>if Instr.sameBits 10000 (((es[i]?).map (·.key)).getD k) k then some ((),some (.map (es.modify i fun e=>{ e with key:=k,val:=v }) n)) else none
  | some none=>some ((),some (.map (es.push { key:=k,val:=v,born:=n }) (n+1)))
  | none=>none
 | _,_=>none
def qDel (P:Program) (t:TypeId) (k:Value) (x:Option Obj) : Option (Unit×Option Obj) :=
 match mapT P t,x with
 | some (_,d,_),some (.map es n) =>
  match Instr.findNow d k es.toList 0 with
  | some (some (i,_))=>some ((),some (.map (es.eraseIdxIfInBounds i) n))
  | some none=>some ((),some (.map es n))
  | none=>none
 | _,_=>none
theorem aUpdate_local (P:Program) (t:TypeId) (m k v:Value) : Local (fun s=>(aUpdate P s t m k v).map fun s1=>((),s1)):=by
 cases hT:mapT P t with
 | none=>exact Local.congr (fun s=>by simp [aUpdate,hT]) Local.none
 | some x =>
  obtain ⟨kt,d,et⟩:=x
  cases hk:keyV k with
  | false=>exact Local.congr (fun s=>by simp [aUpdate,hT,hk]) Local.none
  | true =>
   cases m with
   | map r =>
    cases r with
    | none=>exact Local.congr (fun s=>by simp [aUpdate,hT,hk]) Local.none
    | some r =>
     by_cases hlim:r < lim
     ·refine Local.congr (fun s=>?_) (Local.whole r (qUp P t k v) hlim (by simp [qUp,hT]))
      simp only [aUpdate,hT,hk,qUp]
      cases hl:s.look r with
      | none=>rfl
      | some o =>
       cases o with
       | map es n =>
        simp only [hlim,if_true]
        cases Instr.findNow d k es.toList 0 with
        | none=>rfl
        | some q =>
         cases q with
         | none=>rfl
         | some p =>
          dsimp only
          split <;> rfl
       | _=>rfl
     ·refine Local.congr (fun s=>?_) Local.none
      simp only [aUpdate,hT,hk,hlim,if_false]
      cases hl:s.look r with
      | none=>rfl
      | some o=>cases o <;> rfl
   | _=>exact Local.congr (fun s=>by simp [aUpdate,hT,hk]) Local.none
def qEnt (P:Program) (t:TypeId) (k:Value) (x:Option Obj) : Option (Value×Option Obj) :=
 match mapT P t,x with
 | some (_,d,et),some (.map es n) =>
  match Instr.findNow d k es.toList 0 with
  | some (some (i,v))=>if Instr.sameBits 10000 (((es[i]?).map (·.key)).getD k) k then some (.tuple #[v,goInt (((es[i]?).map (·.born)).getD 0)],some (.map (es.modify i fun e=>{ e with key:=k }) n)) else none
  | some none =>
   match P.info? et with
   | some i=>(match i.zero with | some z=>if flatN 6 z then some (.tuple #[z,goInt n],some (.map (es.push { key:=k,val:=z,born:=n }) (n+1))) else none | none=>none)
   | none=>none
  | none=>none
 | _,_=>none
theorem aEntry_local (P:Program) (t:TypeId) (m k:Value) : Local (fun s=>aEntry P s t m k):=by
 cases hT:mapT P t with
 | none=>exact Local.congr (fun s=>by simp [aEntry,hT]) Local.none
 | some x =>
  obtain ⟨kt,d,et⟩:=x
  cases hk:keyV k with
  | false=>exact Local.congr (fun s=>by simp [aEntry,hT,hk]) Local.none
  | true =>
   cases m with
   | map r =>
    cases r with
    | none=>exact Local.congr (fun s=>by simp [aEntry,hT,hk]) Local.none
    | some r =>
     by_cases hlim:r < lim
     ·refine Local.congr (fun s=>?_) (Local.whole r (qEnt P t k) hlim (by simp [qEnt,hT]))
      simp only [aEntry,hT,hk,qEnt]
      cases hl:s.look r with
      | none=>rfl
      | some o =>
       cases o with
       | map es n =>
        simp only [hlim,if_true]
        cases Instr.findNow d k es.toList 0 with
        | none=>rfl
        | some q =>
         cases q with
         | none =>
          dsimp only
          cases P.info? et with
          | none=>rfl
          | some i =>
           dsimp only
           cases i.zero with
           | none=>rfl
           | some z =>
            dsimp only
            split <;> rfl
         | some p =>
          dsimp only
          split <;> rfl
       | _=>rfl
     ·refine Local.congr (fun s=>?_) Local.none
      simp only [aEntry,hT,hk,hlim,if_false]
      cases hl:s.look r with
      | none=>rfl
      | some o=>cases o <;> rfl
   | _=>exact Local.congr (fun s=>by simp [aEntry,hT,hk]) Local.none
def qStp (b:Int) (v:Value) (x:Option Obj) : Option (Unit×Option Obj) :=
 match x with
 | some (.map es n) =>
  match es.findIdx? (fun e=>(e.born:Int) == b) with
  | some i=>some ((),some (.map (es.modify i fun e=>{ e with val:=v }) n))
  | none=>none
 | _=>none
theorem aStamp_local (m st v:Value) : Local (fun s=>(aStamp s m st v).map fun s1=>((),s1)):=by
 cases m with
 | map r =>
  cases r with
  | none=>exact Local.congr (fun s=>by simp [aStamp]) Local.none
  | some r =>
   cases st with
   | int ik b =>
    by_cases hlim:r < lim
    ·refine Local.congr (fun s=>?_) (Local.whole r (qStp b v) hlim (by simp [qStp]))
     simp only [aStamp,qStp]
     cases hl:s.look r with
     | none=>rfl
     | some o =>
      cases o with
      | map es n =>
       simp only [hlim,if_true]
       cases es.findIdx? (fun e=>(e.born:Int) == b) with
       | none=>rfl
       | some i=>rfl
      | _=>rfl
    ·refine Local.congr (fun s=>?_) Local.none
     simp only [aStamp,hlim,if_false]
     cases hl:s.look r with
     | none=>rfl
     | some o=>cases o <;> rfl
   | _=>exact Local.congr (fun s=>by simp [aStamp]) Local.none
 | _=>exact Local.congr (fun s=>by simp [aStamp]) Local.none
theorem aDelete_local (P:Program) (t:TypeId) (m k:Value) : Local (fun s=>(aDelete P s t m k).map fun s1=>((),s1)):=by
 cases hT:mapT P t with
 | none=>exact Local.congr (fun s=>by simp [aDelete,hT]) Local.none
 | some x =>
  obtain ⟨kt,d,et⟩:=x
  cases hk:keyV k with
  | false=>exact Local.congr (fun s=>by simp [aDelete,hT,hk]) Local.none
  | true =>
   cases m with
   | map r =>
    cases r with
    | none=>exact Local.congr (fun s=>by simp [aDelete,hT,hk]) Local.none
    | some r =>
     by_cases hlim:r < lim
     ·refine Local.congr (fun s=>?_) (Local.whole r (qDel P t k) hlim (by simp [qDel,hT]))
      simp only [aDelete,hT,hk,qDel]
      cases hl:s.look r with
      | none=>rfl
      | some o =>
       cases o with
       | map es n =>
        simp only [hlim,if_true]
        cases Instr.findNow d k es.toList 0 with
        | none=>rfl
        | some q =>
         cases q with
         | none=>rfl
         | some p=>rfl
       | _=>rfl
     ·refine Local.congr (fun s=>?_) Local.none
      simp only [aDelete,hT,hk,hlim,if_false]
      cases hl:s.look r with
      | none=>rfl
      | some o=>cases o <;> rfl
   | _=>exact Local.congr (fun s=>by simp [aDelete,hT,hk]) Local.none
def rdSrc (sz:Nat) (x:Value) (s:St) : Option (Array Value×St) :=
 match srcCells s sz x with
 | some (c,l)=>some (c,{ s with log:=l++s.log })
 | none=>none
def qSrc (off n sz:Nat) (x:Option Obj) : Option (Array Value) :=
 match x with
 | some (.cells a _ _)=>if off+n * sz≤a.size∧(a.extract off (off+n * sz)).toList.all oneCell=true then some (a.extract off (off+n * sz)) else none
 | _=>none
theorem rdSrc_local (sz:Nat) (x:Value) : Local (rdSrc sz x):=by
 cases x with
 | slice a n c =>
  cases a with
  | none =>
   match n,c with
   | 0,0=>exact Local.congr (fun s=>rfl) (Local.pure #[])
   | 0,c+1=>exact Local.congr (fun s=>rfl) Local.none
   | n+1,c=>exact Local.congr (fun s=>rfl) Local.none
  | some a =>
   obtain ⟨id,off,sp⟩:=a
   cases sp with
   | some q=>exact Local.congr (fun s=>rfl) Local.none
   | none =>
    refine Local.congr (fun s=>?_) (Local.read id none (qSrc off n sz) (fun x y h=>by rw [show x=y from h]) rfl)
    simp only [rdSrc,srcCells,qSrc]
    cases hl:s.look id with
    | none=>rfl
    | some o =>
     cases o with
     | cells a e f =>
      by_cases hc:off+n * sz≤a.size∧(a.extract off (off+n * sz)).toList.all oneCell=true
      ·simp only [hc,and_self,if_true]; rfl
      ·simp only [hc,if_false]
     | _=>rfl
 | string b =>
  by_cases h:sz=1
  ·refine Local.congr (fun s=>?_) (Local.pure (byteCells b).toArray)
   simp [rdSrc,srcCells,h]
  ·refine Local.congr (fun s=>?_) Local.none
   simp [rdSrc,srcCells,h]
 | _=>exact Local.congr (fun s=>rfl) Local.none
def qDrop (e:TypeId) (x:Option Obj) : Option (Unit×Option Obj) :=
 match x with
 | some (.cells _ e0 _)=>if e0=e then some ((),none) else none
 | _=>none
def appNew (e:TypeId) (k:Nat) (c:Array Value) (s:St) : Option (Value×St) :=
 if 4 * s.next+1 < lim then some (.slice (some ⟨4 * s.next+1,0,none⟩) k k,{ (s.put (4 * s.next+1) (some (.cells c e (0,0)))).touch (4 * s.next+1) none true with next:=s.next+1 }) else none
theorem appNew_local (e:TypeId) (k:Nat) (c:Array Value) : Local (appNew e k c):=by
 refine Local.congr (fun s=>?_) (Local.map (Local.new 1 (by omega) (.cells c e (0,0))) (fun id=>Value.slice (some ⟨id,0,none⟩) k k))
 unfold appNew
 dsimp only
 split <;> rfl
def appDrop (e:TypeId) (id:Nat) (s:St) : Option (Unit×St) :=
 match qDrop e (s.look id) with
 | some (a,o)=>some (a,(s.put id o).touch id none true)
 | none=>none
def appEnd (e:TypeId) (k:Nat) (dr:Option Nat) (c:Array Value) (s:St) : Option (Value×St) :=
 match dr with
 | none=>appNew e k c s
 | some id =>
  if id < lim then
   match appDrop e id s with
   | some (_,s1)=>appNew e k c s1
   | none=>none
  else none
theorem appEnd_local (e:TypeId) (k:Nat) (dr:Option Nat) (c:Array Value) : Local (appEnd e k dr c):=by
 cases dr with
 | none=>exact appNew_local _ _ _
 | some id =>
  by_cases hlim:id < lim
  ·refine Local.congr (fun s=>?_) (Local.bind (Local.whole id (qDrop e) hlim rfl) (fun _=>appNew_local e k c))
   simp only [appEnd,appDrop,hlim,if_true]
   cases qDrop e (s.look id) <;> rfl
  ·exact Local.congr (fun s=>by simp only [appEnd,hlim,if_false]) Local.none
def appMid (e:TypeId) (sz k:Nat) (src:Value) (dr:Option Nat) (olds:Array Value) (s:St) : Option (Value×St) :=
 match rdSrc sz src s with
 | some (news,s2)=>appEnd e k dr (olds++news) s2
 | none=>none
theorem appMid_local (e:TypeId) (sz k:Nat) (src:Value) (dr:Option Nat) (olds:Array Value) : Local (appMid e sz k src dr olds) :=
 Local.congr (fun s=>by unfold appMid; cases rdSrc sz src s <;> rfl) (Local.bind (rdSrc_local sz src) (fun news=>appEnd_local e k dr (olds++news)))
def appSteps (e:TypeId) (sz k:Nat) (dst src:Value) (dr:Option Nat) (s:St) : Option (Value×St) :=
 match rdSrc sz dst s with
 | some (olds,s1)=>appMid e sz k src dr olds s1
 | none=>none
theorem appSteps_local (e:TypeId) (sz k:Nat) (dst src:Value) (dr:Option Nat) : Local (appSteps e sz k dst src dr) :=
 Local.congr (fun s=>by unfold appSteps; cases rdSrc sz dst s <;> rfl) (Local.bind (rdSrc_local sz dst) (fun olds=>appMid_local e sz k src dr olds))
end Go.Ev
namespace Go.Ev
open Go.RowKit
set_option linter.unusedVariables false
set_option linter.unusedSimpArgs false
set_option linter.unusedSectionVars false
variable [Sig]
theorem rdSrc_eq (sz:Nat) (x:Value) (s:St) (l:List Touch) : rdSrc sz x { s with log:=l }=match srcCells s sz x with | some (c,l1)=>some (c,{ s with log:=l1++l }) | none=>none:=rfl
theorem appSteps_none (e:TypeId) (sz k:Nat) (dst src:Value) (s:St) : appSteps e sz k dst src none s =
  if 4 * s.next+1 < lim then
   match srcCells s sz src,srcCells s sz dst with
   | some (news,l1),some (olds,l2)=>some (.slice (some ⟨4 * s.next+1,0,none⟩) k k,{ s.put (4 * s.next+1) (some (.cells (olds++news) e (0,0))) with next:=s.next+1,log:=⟨4 * s.next+1,none,true⟩::(l1++(l2++s.log)) })
   | _,_=>none
  else none:=by
 unfold appSteps rdSrc
 cases hd:srcCells s sz dst with
 | none =>
  cases hs:srcCells s sz src <;> simp
 | some x =>
  obtain ⟨olds,l2⟩:=x
  dsimp only
  unfold appMid
  rw [rdSrc_eq]
  cases hs:srcCells s sz src with
  | none=>simp
  | some y =>
   obtain ⟨news,l1⟩:=y
   dsimp only [appEnd,appNew]
   rfl
theorem appSteps_some (e:TypeId) (sz k id:Nat) (dst src:Value) (s:St) : appSteps e sz k dst src (some id) s =
  if 4 * s.next+1 < lim then
   match srcCells s sz src,srcCells s sz dst with
   | some (news,l1),some (olds,l2) =>
    (match s.look id with
     | some (.cells _ e0 _)=>if e0=e∧id < lim then some (.slice (some ⟨4 * s.next+1,0,none⟩) k k,{ (s.put id none).put (4 * s.next+1) (some (.cells (olds++news) e (0,0))) with next:=s.next+1,log:=⟨4 * s.next+1,none,true⟩::⟨id,none,true⟩::(l1++(l2++s.log)) }) else none
     | _=>none)
   | _,_=>none
  else none:=by
 unfold appSteps rdSrc
 cases hd:srcCells s sz dst with
 | none =>
  cases hs:srcCells s sz src <;> simp
 | some x =>
  obtain ⟨olds,l2⟩:=x
  dsimp only
  unfold appMid
  rw [rdSrc_eq]
  cases hs:srcCells s sz src with
  | none=>simp
  | some y =>
   obtain ⟨news,l1⟩:=y
   dsimp only [appEnd,appDrop]
   have hlk:({ s with log:=l1++(l2++s.log) } : St).look id=s.look id:=rfl
   rw [hlk]
   by_cases hlim:id < lim
   ·rw [if_pos hlim]
    cases hl:s.look id with
    | none=>simp [qDrop]
    | some o =>
     cases o with
     | cells c e0 f =>
      by_cases he:e0=e
      ·subst he
       simp only [qDrop,if_true,hlim,and_self,appNew]
       rfl
      ·simp [qDrop,he]
     | _=>simp [qDrop]
   ·rw [if_neg hlim]
    cases hl:s.look id with
    | none=>simp
    | some o=>cases o <;> simp [hlim]
theorem aAppend_local (P:Program) (t u:TypeId) (dst src:Value) : Local (fun s=>aAppend P s t u dst src):=by
 cases hu:P.underlying t with
 | none=>exact Local.congr (fun s=>by simp [aAppend,hu]) Local.none
 | some d =>
  cases d with
  | slice e =>
   cases hm:srcLen src with
   | none=>exact Local.congr (fun s=>by simp [aAppend,hu,hm]) Local.none
   | some m =>
    cases dst with
    | slice ba n c =>
     cases hi:P.info? e with
     | none=>exact Local.congr (fun s=>by simp [aAppend,hu,hm,hi]) Local.none
     | some i =>
      cases hz:i.zero with
      | none=>exact Local.congr (fun s=>by simp [aAppend,hu,hm,hi,hz]) Local.none
      | some z =>
       by_cases hk:(∃ x,P.underlying u=some (.slice x))∨P.underlying u=some .string
       case neg =>
        refine Local.congr (fun s=>?_) Local.none
        cases hU:P.underlying u with
        | none=>simp only [aAppend,hu,hm,hi,hz,hU]
        | some d =>
         cases d with
         | slice x=>exact absurd (Or.inl ⟨x,hU⟩) hk
         | string=>exact absurd (Or.inr hU) hk
         | _=>simp only [aAppend,hu,hm,hi,hz,hU]
       case pos =>
        by_cases hm0:m=0
        ·exact Local.congr (fun s=>by rcases hk with ⟨x,hU⟩ | hU <;> simp only [aAppend,hu,hm,hi,hz,hU,hm0,if_true]) (Local.pure (Value.slice ba n c))
        ·by_cases hst:(n+m) * i.bytes≤140737488355328∧n+m≤1000000000∧0 < i.size∧z.cells.size=i.size∧(n=0∨ba.isSome=true)
         ·obtain ⟨c1,c2,c3,c4,c5⟩:=hst
          have hcond:∀ s:St,((n+m) * i.bytes≤140737488355328∧n+m≤1000000000∧4 * s.next+1 < lim∧0 < i.size∧z.cells.size=i.size∧(n=0∨ba.isSome=true))↔4 * s.next+1 < lim:=fun s=>⟨fun h=>h.2.2.1,fun h=>⟨c1,c2,h,c3,c4,c5⟩⟩
          cases ba with
          | none =>
           refine Local.congr (fun s=>?_) (appSteps_local e i.size (n+m) (.slice none n c) src none)
           rw [appSteps_none]
           rcases hk with ⟨x,hU⟩ | hU <;> simp only [aAppend,hu,hm,hi,hz,hU,hm0,if_false,hcond s]
           all_goals (split <;> first | rfl | (rcases srcCells s i.size src with _ | ⟨_,_⟩ <;> rcases srcCells s i.size (.slice none n c) with _ | ⟨_,_⟩ <;> rfl))
          | some a =>
           obtain ⟨id,off,sp⟩:=a
           cases hg:gro id with
           | true =>
            cases off with
            | zero =>
             refine Local.congr (fun s=>?_) (appSteps_local e i.size (n+m) (.slice (some ⟨id,0,sp⟩) n c) src (some id))
             rw [appSteps_some]
             rcases hk with ⟨x,hU⟩ | hU <;> simp only [aAppend,hu,hm,hi,hz,hU,hm0,if_false,hcond s,hg,if_true]
             all_goals (split <;> first | rfl | (rcases srcCells s i.size src with _ | ⟨_,_⟩ <;> rcases srcCells s i.size (.slice (some ⟨id,0,sp⟩) n c) with _ | ⟨_,_⟩ <;> rcases s.look id with _ | o <;> first | rfl | (cases o <;> rfl)))
            | succ off =>
             refine Local.congr (fun s=>?_) Local.none
             rcases hk with ⟨x,hU⟩ | hU <;> simp only [aAppend,hu,hm,hi,hz,hU,hm0,if_false,hcond s,hg,if_true]
             all_goals split
             all_goals first | rfl | (split <;> rfl)
           | false =>
            by_cases hc:c < n+m
            ·refine Local.congr (fun s=>?_) (appSteps_local e i.size (n+m) (.slice (some ⟨id,off,sp⟩) n c) src none)
             rw [appSteps_none]
             rcases hk with ⟨x,hU⟩ | hU <;> simp only [aAppend,hu,hm,hi,hz,hU,hm0,if_false,hcond s,hg,hc,if_true,Bool.false_eq_true]
             all_goals (split <;> first | rfl | (rcases srcCells s i.size src with _ | ⟨_,_⟩ <;> rcases srcCells s i.size (.slice (some ⟨id,off,sp⟩) n c) with _ | ⟨_,_⟩ <;> rfl))
            ·refine Local.congr (fun s=>?_) Local.none
             rcases hk with ⟨x,hU⟩ | hU <;> simp only [aAppend,hu,hm,hi,hz,hU,hm0,if_false,hcond s,hg,hc,Bool.false_eq_true]
             all_goals split
             all_goals first | rfl | (split <;> rfl)
         ·refine Local.congr (fun s=>?_) Local.none
          rcases hk with ⟨x,hU⟩ | hU <;> simp only [aAppend,hu,hm,hi,hz,hU,hm0,if_false]
          all_goals rw [if_neg (fun h=>hst ⟨h.1,h.2.1,h.2.2.2⟩)]
    | _=>exact Local.congr (fun s=>by simp [aAppend,hu,hm]) Local.none
  | _=>exact Local.congr (fun s=>by simp [aAppend,hu]) Local.none
end Go.Ev
namespace Go.Ev
open Go.RowKit
set_option linter.unusedVariables false
set_option linter.unusedSimpArgs false
set_option linter.unusedSectionVars false
variable [Sig]
theorem Local.iteP {α:Type} (c:Prop) [Decidable c] {f:St→Option (α×St)} (hf:Local f) : Local (fun s=>if c then f s else Option.none):=by
 by_cases h:c
 ·exact Local.congr (fun s=>by rw [if_pos h]) hf
 ·exact Local.congr (fun s=>by rw [if_neg h]) Local.none
theorem optMap_local {β:Type} {f:St→Option St} (hf:Local (fun s=>(f s).map fun s1=>((),s1))) (v:β) : Local (fun s=>(f s).map fun s1=>(v,s1)):=by
 refine Local.congr (fun s=>?_) (Local.map hf (fun _=>v))
 cases f s <;> rfl
theorem aFlat_local (P:Program) (a:Act) (o:Oper) : Local (aFlat P a o):=by
 unfold aFlat
 refine Local.iteP _ ?_
 cases hq:qrun P (execOp a.eval o) with
 | none=>exact Local.congr (fun s=>by simp [hq]) Local.none
 | some n =>
  cases n with
  | value v=>exact Local.congr (fun s=>by simp [hq]) (Local.iteP (flatN 5 v=true) (Local.pure (Next.value v)))
  | _=>exact Local.congr (fun s=>by simp [hq]) Local.none
theorem aFlat_cases (P:Program) (a:Act) (o:Oper) : (∃ n,∀ s,aFlat P a o s=some (n,s))∨∀ s,aFlat P a o s=none:=by
 unfold aFlat
 split
 ·cases hq:qrun P (execOp a.eval o) with
  | none=>exact .inr (fun s=>rfl)
  | some n =>
   cases n with
   | value v =>
    by_cases hv:flatN 5 v=true
    ·exact .inl ⟨.value v,fun s=>by simp [hv]⟩
    ·exact .inr (fun s=>by simp [hv])
   | _=>exact .inr (fun s=>rfl)
 ·exact .inr (fun s=>rfl)
theorem aFlat_or {P:Program} {a:Act} {o:Oper} {g:St→Option (Next×St)} (hg:Local g) : Local (fun s=>match aFlat P a o s with | some r=>some r | none=>g s):=by
 rcases aFlat_cases P a o with ⟨n,h⟩ | h
 ·exact Local.congr (fun s=>by simp only [h s]) (Local.pure n)
 ·exact Local.congr (fun s=>by simp only [h s]) hg
theorem aCall_local (P:Program) (a:Act) (c:Call) (ty:TypeId) : Local (aCall P a c ty):=by
 unfold aCall
 refine Local.iteP _ ?_
 cases hc:c.callee with
 | value f =>
  dsimp only
  split
  ·exact Local.iteP _ (Local.pure _)
  ·exact Local.iteP _ (arun_local P _)
  ·exact Local.none
 | invoke r name =>
  dsimp only
  split
  ·split
   ·exact Local.iteP _ (Local.pure _)
   ·exact Local.none
  ·exact Local.none
 | builtin b =>
  dsimp only
  split
  ·exact sv_local (arun_local P _)
  ·exact Local.iteP _ (sv_local (arun_local P _))
  ·split
   ·exact sv_local (arun_local P _)
   ·exact sv_local (aAppend_local P _ _ _ _)
  ·exact sv_local (arun_local P _)
  ·exact optMap_local (aDelete_local P _ _ _) _
  ·exact Local.none
theorem slice_local (P:Program) (m:Sem Value) : Local (fun s=>match arun P m s with | some (v,s1)=>if resOk v=true then some (Next.value v,s1) else none | none=>none):=by
 refine Local.congr (fun s=>?_) (Local.bind (arun_local P m) (fun v=>Local.iteP (resOk v=true) (Local.pure (Next.value v))))
 cases arun P m s with
 | none=>rfl
 | some x=>rfl
theorem opt_local {α β:Type} (c:Option α) (f:α→β) : Local (fun s=>c.map fun r=>(f r,s)):=by
 cases c with
 | none=>exact Local.none
 | some a=>exact Local.pure (f a)
theorem sCnv_local (P:Program) (t u:TypeId) (x:Value) : Local (sCnv P t u x):=by
 unfold sCnv
 split
 ·exact opt_local _ _
 ·exact Local.none
theorem aexec_local (P:Program) (a:Act) (o:Oper) : Local (aexec P a o):=by
 unfold aexec
 split
 all_goals first
  | exact Local.iteP _ (Local.pure _)
  | exact Local.none
  | exact aFlat_local P a o
  | exact Local.iteP _ (sv_local (arun_local P _))
  | exact Local.iteP _ (su_local (arun_local P _))
  | exact sv_local (arun_local P _)
  | exact Local.iteP _ (sv_local (aLookup_local P _ _ _ _))
  | exact Local.iteP _ (optMap_local (aUpdate_local P _ _ _ _) _)
  | exact Local.iteP _ (sv_local (aEntry_local P _ _ _))
  | exact Local.iteP _ (optMap_local (aStamp_local _ _ _) _)
  | exact aFlat_or (aCall_local P a _ _)
  | skip
 ·refine Local.iteP _ ?_
  split
  ·exact Local.pure _
  ·exact Local.none
 ·refine Local.iteP _ ?_
  split
  ·exact Local.pure _
  ·exact Local.pure _
  ·exact Local.pure _
  ·exact Local.none
 ·refine aFlat_or (Local.iteP _ ?_)
  split
  ·split
   ·exact Local.pure _
   ·exact Local.pure _
   ·exact Local.none
  ·exact opt_local _ _
 ·exact aFlat_or (Local.iteP _ (opt_local _ _))
 ·exact aFlat_or (Local.iteP _ (sCnv_local P _ _ _))
 ·refine Local.iteP _ ?_
  exact slice_local P _
end Go.Ev
