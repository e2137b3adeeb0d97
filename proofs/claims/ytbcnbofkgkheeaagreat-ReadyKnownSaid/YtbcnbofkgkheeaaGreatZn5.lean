/- Part of a proof: see the last text. -/
import Derived.Test.YtbcnbofkgkheeaaGreatZn4
set_option linter.unusedSectionVars false
set_option linter.unusedSimpArgs false
set_option linter.unusedVariables false
namespace Go.Ev
open Go.RowKit
variable[aP]
inductive Q6 where
 | no
 | cells (e:TypeId) (n:Nat) (f:Nat×Nat)
 | obj (o:Obj)
def nO:Option Obj->Q6
 | none=>.no
 | some (.cells c e f)=>.cells e c.size f
 | some o=>.obj o
def y9:Option Obj->Nat->Option Value
 | some (.cells c _ _),k=>c[k]?
 | _,_=>none
theorem oY{x y:Option Obj}(h:nO x=nO y)(hc:∀ k,y9 x k=y9 y k):x=y:=by
 cases x with
 | none =>
  cases y with
  | none=>rfl
  | some y=>cases y<;>simp[nO]at h
 | some x =>
  cases y with
  | none=>cases x<;>simp[nO]at h
  | some y =>
   cases x<;>cases y<;>simp only[nO,Q6.cells.injEq,Q6.obj.injEq,reduceCtorEq]at h
   case cells.cells c e f c' e' f' =>
    obtain⟨rfl,hs,rfl⟩:=h;have:c=c':=by
     apply Array.ext hs;intro i h1 h2;have:=hc i;simp only[y9,Array.getElem?_eq_getElem h1,Array.getElem?_eq_getElem h2,Option.some.injEq]at this;exact this
    rw[this]
   all_goals first | (cases h;rfl) | exact congrArg some h | skip
def jb(L:List Touch)(id:Nat):Prop:=∃ t ∈ L,t.id=id/\t.wr=true/\t.at_=none
def og(L:List Touch)(id k:Nat):Prop:=∃ t ∈ L,t.id=id/\t.wr=true/\t.at_=some k
def Mc(t:Touch)(x y:Option Obj):Prop :=
 match t.at_ with
 | none=>x=y
 | some k=>nO x=nO y/\y9 x k=y9 y k
def Rx(L:List Touch)(s s1:St):Prop:=∀ id,¬ jb L id->nO (s1.look id)=nO (s.look id)/\∀ k,¬ og L id k->y9 (s1.look id) k=y9 (s.look id) k
def Oa(L:List Touch)(s1 s2 s3:St):Prop:=∀ id,(jb L id->s3.look id=s1.look id)/\(¬ jb L id->nO (s3.look id)=nO (s2.look id)/\∀ k,(og L id k->y9 (s3.look id) k=y9 (s1.look id) k)/\(¬ og L id k->y9 (s3.look id) k=y9 (s2.look id) k))
def nP(s:St)(n m:Nat):Prop:=∀ id,4*n<=id->id<4*m->s.look id=none
def Old(n m id:Nat):Prop:=¬ (4*n<=id/\id<4*m)
def Local{α:Type}(f:St->Option (α×St)):Prop :=
 ∀ s r s1,f s=some (r,s1)->s.next<=s1.next/\(nP s s.next s1.next->
  ∃ L,s1.log=L++s.log/\Rx L s s1/\(∀ t ∈ L,Old s.next s1.next t.id->s.look t.id≠none)/\
   ∀ s2:St,s2.next=s.next->(∀ t ∈ L,Old s.next s1.next t.id->Mc t (s.look t.id) (s2.look t.id))->nP s2 s.next s1.next->
    ∃ s3,f s2=some (r,s3)/\s3.next=s1.next/\s3.log=L++s2.log/\Oa L s1 s2 s3)
theorem eu{x:Option Obj}(h:nO x=.no):x=none:=by
 cases x with
 | none=>rfl
 | some o=>cases o<;>simp[nO]at h
theorem xe(id:Nat):¬ jb [] id:=λ⟨t,ht,_⟩=>by cases ht
theorem xg(id k:Nat):¬ og [] id k:=λ⟨t,ht,_⟩=>by cases ht
theorem Oa.nil(s:St)(s1:St):Oa [] s1 s s:=λid=>⟨λh=>(xe id h).elim,λ_=>⟨rfl,λk=>⟨λh=>(xg id k h).elim,λ_=>rfl⟩⟩⟩
theorem Local.pure{α:Type}(a:α):Local (λs=>some (a,s)):=by
 intro s r s1 h;cases h;exact⟨Nat.le_refl _,λhcl=>⟨[],rfl,λid _=>⟨rfl,λk _=>rfl⟩,(λt ht=>by cases ht),λs2 hn ha hc=>⟨s2,rfl,hn,rfl,Oa.nil s2 _⟩⟩⟩
theorem l5{L M:List Touch}{id:Nat} : jb (L++M) id↔jb L id\/jb M id:=by
 constructor
 ·rintro⟨t,ht,h⟩
  rcases List.mem_append.1 ht with ht | ht
  ·exact .inl ⟨t,ht,h⟩
  ·exact .inr ⟨t,ht,h⟩
 ·rintro(⟨t,ht,h⟩ | ⟨t,ht,h⟩)
  ·exact⟨t,List.mem_append_left _ ht,h⟩
  ·exact⟨t,List.mem_append_right _ ht,h⟩
theorem l6{L M:List Touch}{id k:Nat} : og (L++M) id k↔og L id k\/og M id k:=by
 constructor
 ·rintro⟨t,ht,h⟩
  rcases List.mem_append.1 ht with ht | ht
  ·exact .inl ⟨t,ht,h⟩
  ·exact .inr ⟨t,ht,h⟩
 ·rintro(⟨t,ht,h⟩ | ⟨t,ht,h⟩)
  ·exact⟨t,List.mem_append_left _ ht,h⟩
  ·exact⟨t,List.mem_append_right _ ht,h⟩
theorem Local.bind{α β:Type}{f:St->Option (α×St)}{g:α->St->Option (β×St)}(hf:Local f)(hg:∀ a,Local (g a)) :
  Local (λs=>match f s with | some (a,s1)=>g a s1 | none=>none):=by
 intro s r s2 h;dsimp only at h
 split at h
 ·rename_i a s1 hfs
  obtain⟨n1,k1⟩:=hf s a s1 hfs;obtain⟨n2,k2⟩:=hg a s1 r s2 h;refine⟨Nat.le_trans n1 n2,λhcl=>?_⟩;obtain⟨L1,e1,u1,b1,l1⟩:=k1 (λid x y=>hcl id x (by omega));have Ob:∀ id,4*s1.next<=id->id<4*s2.next->¬ jb L1 id:=by
   intro id x y ⟨t,ht,hid,_⟩;exact b1 t ht (λhh=>by omega) (by rw[hid];exact hcl id (by omega) y)
  have w1:nP s1 s1.next s2.next:=by
   intro id x y;exact eu (by rw[(u1 id (Ob id x y)).1,hcl id (by omega) y];rfl)
  obtain⟨L2,e2,u2,b2,l2⟩:=k2 w1;refine⟨L2++L1,by rw[e2,e1,List.append_assoc],?_,?_,?_⟩
  ·intro id hw
   rw[l5,not_or]at hw;obtain⟨p1,p2⟩:=u1 id hw.2;obtain⟨q1,q2⟩:=u2 id hw.1;refine⟨q1.trans p1,λk hk=>?_⟩;rw[l6,not_or]at hk;exact(q2 k hk.1).trans (p2 k hk.2)
  ·intro t ht hold
   rcases List.mem_append.1 ht with ht | ht
   ·intro hno
    have TL:¬ jb L1 t.id:=λ⟨u,hu,hid,_⟩=>b1 u hu (λhh=>hold (by omega)) (by rw[hid];exact hno)
    exact b2 t ht (λhh=>hold (by omega)) (eu (by rw[(u1 t.id TL).1,hno];rfl))
   ·exact b1 t ht (λhh=>hold (by omega))
  ·intro z hz hag hzc
   obtain⟨z1,f1,m1,g1,r1⟩:=l1 z hz (λt ht hid=>by
    by_cases hw:Old s.next s2.next t.id
    ·exact hag t (List.mem_append_right _ ht) hw
    ·have hw':4*s.next<=t.id/\t.id<4*s2.next:=by unfold Old at hw;omega
     exact absurd (hcl t.id hw'.1 hw'.2) (b1 t ht hid)) (λid x y=>hzc id x (by omega))
   have TM:∀ t ∈ L2,Old s1.next s2.next t.id->Mc t (s1.look t.id) (z1.look t.id):=by
    intro t ht hid;obtain⟨ra,rb⟩:=r1 t.id
    by_cases hw:jb L1 t.id
    ·rw[ra hw]
     unfold Mc
     split
     ·rfl
     ·exact⟨rfl,rfl⟩
    ·obtain⟨rc,rd⟩:=rb hw
     obtain⟨p1,p2⟩:=u1 t.id hw
     by_cases hold:Old s.next s2.next t.id
     ·have h0:=hag t (List.mem_append_left _ ht) hold
      unfold Mc at h0 ⊢
      split at h0
      ·apply oY
       ·rw[p1,rc,h0]
       ·intro k
        by_cases hk:og L1 t.id k
        ·rw[(rd k).1 hk]
        ·rw[(rd k).2 hk,p2 k hk,h0]
      ·rename_i k hsome
       refine⟨by rw[p1,rc];exact h0.1,?_⟩
       by_cases hk:og L1 t.id k
       ·rw[(rd k).1 hk]
       ·rw[(rd k).2 hk,p2 k hk];exact h0.2
     ·have hw':4*s.next<=t.id/\t.id<4*s2.next:=by unfold Old at hold;omega
      have hz0:z.look t.id=none:=hzc t.id hw'.1 hw'.2;have hs0:s.look t.id=none:=hcl t.id hw'.1 hw'.2;have e3:s1.look t.id=none:=eu (by rw[p1,hs0];rfl);have e4:z1.look t.id=none:=eu (by rw[rc,hz0];rfl);rw[e3,e4];unfold Mc
      split
      ·rfl
      ·exact⟨rfl,rfl⟩
   have TN:nP z1 s1.next s2.next:=by
    intro id x y;obtain⟨ra,rb⟩:=r1 id;exact eu (by rw[(rb (Ob id x y)).1,hzc id (by omega) y];rfl)
   obtain⟨z2,f2,m2,g2,r2⟩:=l2 z1 m1 TM TN;refine⟨z2,?_,m2,by rw[g2,g1,List.append_assoc],?_⟩
   ·dsimp only
    rw[f1];exact f2
   ·intro id
    obtain⟨ra,rb⟩:=r1 id;obtain⟨rc,rd⟩:=r2 id;constructor
    ·intro hw
     rw[l5]at hw
     by_cases hw2:jb L2 id
     ·exact rc hw2
     ·have hw1:jb L1 id:=hw.resolve_left hw2
      obtain⟨q1,q2⟩:=u2 id hw2;obtain⟨s1',s2'⟩:=rd hw2;apply oY
      ·rw[s1',ra hw1,q1]
      ·intro k
       by_cases hk:og L2 id k
       ·exact(s2' k).1 hk
       ·rw[(s2' k).2 hk,ra hw1,q2 k hk]
    ·intro hw
     rw[l5,not_or]at hw;obtain⟨t1,t2⟩:=rb hw.2;obtain⟨t3,t4⟩:=rd hw.1;obtain⟨q1,q2⟩:=u2 id hw.1;refine⟨t3.trans t1,λk=>⟨λhk=>?_,λhk=>?_⟩⟩
     ·rw[l6]at hk
      by_cases hk2:og L2 id k
      ·exact(t4 k).1 hk2
      ·have hk1:=hk.resolve_left hk2
       rw[(t4 k).2 hk2,(t2 k).1 hk1,q2 k hk2]
     ·rw[l6,not_or]at hk
      rw[(t4 k).2 hk.1,(t2 k).2 hk.2]
 ·cases h
theorem Local.congr{α:Type}{f g:St->Option (α×St)}(h:∀ s,g s=f s)(hf:Local f):Local g:=by
 have:g=f:=funext h;rw[this];exact hf
theorem Local.none{α:Type} : Local (λ_=>(Option.none:Option (α×St))):=by
 intro s r s1 h;cases h
theorem Local.read{α:Type}(id:Nat)(at_:Option Nat)(q:Option Obj->Option α)(hq:∀ x y,Mc ⟨id,at_,false⟩ x y->q y=q x)(hn:q Option.none=Option.none) :
  Local (λs=>match q (s.look id) with | some a=>some (a,s.touch id at_ false) | Option.none=>Option.none):=by
 intro s r s1 h;dsimp only at h
 split at h
 ·rename_i a Pk
  cases h;refine⟨Nat.le_refl _,λhcl=>⟨[⟨id,at_,false⟩],rfl,λj _=>⟨rfl,λk _=>rfl⟩,?_,?_⟩⟩
  ·intro t ht _
   rw[List.mem_singleton]at ht;subst ht;exact λhno=>by have hno:s.look id=Option.none:=hno;rw[hno,hn]at Pk;cases Pk
  ·intro z hz hag hzc
   have h0:=hag ⟨id,at_,false⟩ (List.mem_singleton.2 rfl) (λ⟨x,y⟩=>Nat.lt_irrefl _ (Nat.lt_of_le_of_lt x y));refine⟨z.touch id at_ false,?_,hz,rfl,?_⟩
   ·dsimp only
    rw[hq _ _ h0,Pk]
   ·intro j
    have nw:¬ jb [⟨id,at_,false⟩] j:=λ⟨t,ht,_,hw,_⟩=>by rw[List.mem_singleton]at ht;subst ht;cases hw
    exact⟨λh=>(nw h).elim,λ_=>⟨rfl,λk=>⟨(λ⟨t,ht,_,hw,_⟩=>by rw[List.mem_singleton]at ht;subst ht;cases hw),λ_=>rfl⟩⟩⟩
 ·cases h
theorem Local.cell(id k:Nat)(v:Value)(hlim:id<lim):Local (λs=>match s.look id with
  | some (.cells c e (0,0))=>if k<c.size then some ((),(s.put id (some (.cells (c.setIfInBounds k v) e (0,0)))).touch id (some k) true) else Option.none
  | _=>Option.none):=by
 intro s r s1 h;dsimp only at h
 split at h
 ·rename_i c e hl
  split at h
  ·rename_i hk
   cases h;have lk:∀ j,((s.put id (some (.cells (c.setIfInBounds k v) e (0,0)))).touch id (some k) true).look j=if j=id then some (.cells (c.setIfInBounds k v) e (0,0)) else s.look j:=by
    intro j
    by_cases ej:j=id
    ·subst ej;rw[if_pos rfl];exact St.bK _ _ _ hlim
    ·rw[if_neg ej];exact St.aW _ _ _ _ ej
   have nall:∀ j,¬ jb [⟨id,some k,true⟩] j:=λj ⟨t,ht,_,_,hn⟩=>by rw[List.mem_singleton]at ht;subst ht;cases hn
   refine⟨Nat.le_refl _,λhcl=>⟨[⟨id,some k,true⟩],rfl,?_,?_,?_⟩⟩
   ·intro j _
    rw[lk j]
    by_cases ej:j=id
    ·subst ej
     rw[if_pos rfl,hl];refine⟨by simp[nO],λm hm=>?_⟩;have hne:k≠m:=λe=>hm ⟨_,List.mem_singleton.2 rfl,rfl,rfl,by rw[e]⟩
     simp only[y9];rw[Array.getElem?_setIfInBounds,if_neg hne]
    ·rw[if_neg ej];exact⟨rfl,λ_ _=>rfl⟩
   ·intro t ht _
    rw[List.mem_singleton]at ht;subst ht;exact λhno=>by have hno:s.look id=Option.none:=hno;rw[hno]at hl;cases hl
   ·intro z hz hag hzc
    have h0:=hag ⟨id,some k,true⟩ (List.mem_singleton.2 rfl) (λ⟨x,y⟩=>Nat.lt_irrefl _ (Nat.lt_of_le_of_lt x y));obtain⟨h1,h2⟩:=h0;rw[hl]at h1;have hz2:∃ c2:Array Value,z.look id=some (.cells c2 e (0,0))/\c2.size=c.size:=by
     cases hzl:z.look id with
     | none=>rw[hzl]at h1;cases h1
     | some o =>
      rw[hzl]at h1;cases o<;>simp only[nO,Q6.cells.injEq,reduceCtorEq]at h1
      obtain⟨rfl,h3,rfl⟩:=h1;exact⟨_,rfl,h3.symm⟩
    obtain⟨c2,hzl,hsz⟩:=hz2;have lz:∀ j,((z.put id (some (.cells (c2.setIfInBounds k v) e (0,0)))).touch id (some k) true).look j=if j=id then some (.cells (c2.setIfInBounds k v) e (0,0)) else z.look j:=by
     intro j
     by_cases ej:j=id
     ·subst ej;rw[if_pos rfl];exact St.bK _ _ _ hlim
     ·rw[if_neg ej];exact St.aW _ _ _ _ ej
    refine⟨(z.put id (some (.cells (c2.setIfInBounds k v) e (0,0)))).touch id (some k) true,?_,hz,rfl,?_⟩
    ·dsimp only
     rw[hzl];show(if k<c2.size then _ else _)=_;rw[if_pos (by omega)]
    ·intro j
     refine⟨λh=>(nall j h).elim,λ_=>?_⟩;rw[lz j,lk j]
     by_cases ej:j=id
     ·subst ej
      rw[if_pos rfl,if_pos rfl,hzl];refine⟨by simp[nO],λm=>⟨λhm=>?_,λhm=>?_⟩⟩
      ·obtain⟨t,ht,_,_,hn⟩:=hm
       rw[List.mem_singleton]at ht;subst ht;cases hn;simp only[y9];rw[Array.getElem?_setIfInBounds,Array.getElem?_setIfInBounds,if_pos rfl,if_pos rfl,if_pos (by omega),if_pos hk]
      ·have hne:k≠m:=λe=>hm ⟨_,List.mem_singleton.2 rfl,rfl,rfl,by rw[e]⟩
       simp only[y9];rw[Array.getElem?_setIfInBounds,if_neg hne]
     ·rw[if_neg ej,if_neg ej]
      refine⟨rfl,λm=>⟨λ⟨t,ht,B',_⟩=>?_,λ_=>rfl⟩⟩;rw[List.mem_singleton]at ht;subst ht;exact(ej B'.symm).elim
  ·cases h
 ·cases h
theorem Local.whole{α:Type}(id:Nat)(q:Option Obj->Option (α×Option Obj))(hlim:id<lim)(hn:q Option.none=Option.none) :
  Local (λs=>match q (s.look id) with | some (a,o)=>some (a,(s.put id o).touch id Option.none true) | Option.none=>Option.none):=by
 intro s r s1 h;dsimp only at h
 split at h
 ·rename_i a o Pk
  cases h;have lk:∀ (z:St) j,((z.put id o).touch id Option.none true).look j=if j=id then o else z.look j:=by
   intro z j
   by_cases ej:j=id
   ·subst ej;rw[if_pos rfl];exact St.bK _ _ _ hlim
   ·rw[if_neg ej];exact St.aW _ _ _ _ ej
  have Hb:∀ j k,¬ og [⟨id,Option.none,true⟩] j k:=λj k ⟨t,ht,_,_,hn⟩=>by rw[List.mem_singleton]at ht;subst ht;cases hn
  have nall:∀ j,j≠id->¬ jb [⟨id,Option.none,true⟩] j:=λj hj ⟨t,ht,B',_⟩=>by rw[List.mem_singleton]at ht;subst ht;exact hj B'.symm
  refine⟨Nat.le_refl _,λhcl=>⟨[⟨id,Option.none,true⟩],rfl,?_,?_,?_⟩⟩
  ·intro j hj
   have ej:j≠id:=λe=>hj ⟨_,List.mem_singleton.2 rfl,e.symm,rfl,rfl⟩
   rw[lk s j,if_neg ej];exact⟨rfl,λ_ _=>rfl⟩
  ·intro t ht _
   rw[List.mem_singleton]at ht;subst ht;exact λhno=>by have hno:s.look id=Option.none:=hno;rw[hno,hn]at Pk;cases Pk
  ·intro z hz hag hzc
   have h0:s.look id=z.look id:=hag ⟨id,Option.none,true⟩ (List.mem_singleton.2 rfl) (λ⟨x,y⟩=>Nat.lt_irrefl _ (Nat.lt_of_le_of_lt x y));refine⟨(z.put id o).touch id Option.none true,?_,hz,rfl,?_⟩
   ·dsimp only
    rw[← h0,Pk]
   ·intro j
    rw[lk z j,lk s j]
    by_cases ej:j=id
    ·subst ej
     rw[if_pos rfl,if_pos rfl];exact⟨λ_=>rfl,λhw=>(hw ⟨_,List.mem_singleton.2 rfl,rfl,rfl,rfl⟩).elim⟩
    ·rw[if_neg ej,if_neg ej]
     exact⟨λhw=>(nall j ej hw).elim,λ_=>⟨rfl,λk=>⟨λhk=>(Hb j k hk).elim,λ_=>rfl⟩⟩⟩
 ·cases h
theorem Local.new(d:Nat)(hd:d<4)(o:Obj):Local (λs=>if 4*s.next+d<lim then some (4*s.next+d,{ (s.put (4*s.next+d) (some o)).touch (4*s.next+d) Option.none true with next:=s.next+1 }) else Option.none):=by
 intro s r s1 h;dsimp only at h
 split at h
 ·rename_i hlim
  cases h;have lk:∀ (z:St) (n:Nat) j,(({ (z.put (4*s.next+d) (some o)).touch (4*s.next+d) Option.none true with next:=n } : St)).look j=if j=4*s.next+d then some o else z.look j:=by
   intro z n j
   by_cases ej:j=4*s.next+d
   ·rw[if_pos ej,ej];exact St.bK _ _ _ hlim
   ·rw[if_neg ej];exact St.aW _ _ _ _ ej
  have Hb:∀ j k,¬ og [⟨4*s.next+d,Option.none,true⟩] j k:=λj k ⟨t,ht,_,_,hn⟩=>by rw[List.mem_singleton]at ht;subst ht;cases hn
  have nall:∀ j,j≠4*s.next+d->¬ jb [⟨4*s.next+d,Option.none,true⟩] j:=λj hj ⟨t,ht,B',_⟩=>by rw[List.mem_singleton]at ht;subst ht;exact hj B'.symm
  refine⟨Nat.le_succ _,λhcl=>⟨[⟨4*s.next+d,Option.none,true⟩],rfl,?_,?_,?_⟩⟩
  ·intro j hj
   have ej:j≠4*s.next+d:=λe=>hj ⟨_,List.mem_singleton.2 rfl,e.symm,rfl,rfl⟩
   rw[lk s _ j,if_neg ej];exact⟨rfl,λ_ _=>rfl⟩
  ·intro t ht hold
   rw[List.mem_singleton]at ht;subst ht;exact absurd (show 4*s.next<=4*s.next+d/\4*s.next+d<4*(s.next+1) by omega) hold
  ·intro z hz hag hzc
   refine⟨{ (z.put (4*s.next+d) (some o)).touch (4*s.next+d) Option.none true with next:=s.next+1 },?_,rfl,rfl,?_⟩
   ·dsimp only
    rw[hz,if_pos hlim]
   ·intro j
    rw[lk z _ j,lk s _ j]
    by_cases ej:j=4*s.next+d
    ·rw[if_pos ej,if_pos ej]
     exact⟨λ_=>rfl,λhw=>(hw ⟨_,List.mem_singleton.2 rfl,ej.symm,rfl,rfl⟩).elim⟩
    ·rw[if_neg ej,if_neg ej]
     exact⟨λhw=>(nall j ej hw).elim,λ_=>⟨rfl,λk=>⟨λhk=>(Hb j k hk).elim,λ_=>rfl⟩⟩⟩
 ·cases h
variable[aP]
def jX(r:Nat)(x:Option Obj):Option (Option (TypeId×Nat)) :=
 match iQ r,x with
 | false,some (.cells c e (0,0))=>some (some (e,c.size))
 | _,_=>none
def rQ(x:Option Obj):Option Bool :=
 match x with
 | some (.cells _ _ (0,0))=>some false
 | _=>none
def TO(x:Option Obj):Option Obj :=
 match x with
 | some (.map es n)=>some (.map es n)
 | some (.mapIter m n se st)=>some (.mapIter m n se st)
 | some (.stringIter st p)=>some (.stringIter st p)
 | some (.loop l)=>some (.loop l)
 | some (.deferred d)=>some (.deferred d)
 | _=>none
def TP(o:Obj)(x:Option Obj):Option (Unit×Option Obj) :=
 match x,o with
 | some (.map _ _),.map es n=>some ((),some (.map es n))
 | some (.mapIter _ _ _ _),.mapIter m n se st=>some ((),some (.mapIter m n se st))
 | some (.stringIter _ _),.stringIter st p=>some ((),some (.stringIter st p))
 | some (.loop _),.loop l=>some ((),some (.loop l))
 | some (.deferred _),.deferred d=>some ((),some (.deferred d))
 | _,_=>none
theorem qi{x y:Option Obj}{c:Array Value}{e:TypeId}{f:Nat×Nat}(h:nO x=nO y)(hx:x=some (.cells c e f)):∃ c',y=some (.cells c' e f)/\c'.size=c.size:=by
 subst hx;cases y with
 | none=>cases h
 | some o =>
  cases o<;>simp only[nO,Q6.cells.injEq,reduceCtorEq]at h
  obtain⟨rfl,h3,rfl⟩:=h;exact⟨_,rfl,h3.symm⟩
theorem oZ{x y:Option Obj}(h:nO x=nO y)(hx:∀ c e f,x≠some (.cells c e f)):y=x:=by
 have hy:∀ c e f,y≠some (.cells c e f):=by
  intro c e f hh;obtain⟨c',h2,_⟩:=qi h.symm hh;exact hx _ _ _ h2
 have hc:∀ (z:Option Obj),(∀ c e f,z≠some (.cells c e f))->∀ k,y9 z k=none:=by
  intro z hz k;cases z with
  | none=>rfl
  | some o =>
   cases o with
   | cells c e f=>exact(hz _ _ _ rfl).elim
   | _=>rfl
 exact oY h.symm (λk=>by rw[hc y hy,hc x hx])
theorem FO{r:Nat}{x y:Option Obj}(h:nO x=nO y):jX r y=jX r x:=by
 cases hg:iQ r with
 | true=>simp[jX,hg]
 | false =>
  cases x with
  | none=>rw[eu (h.symm)]
  | some o =>
   cases o with
   | cells c e f =>
    obtain⟨c',rfl,hs⟩:=qi h rfl;obtain⟨f1,f2⟩:=f;unfold jX;rw[hg];cases f1<;>cases f2<;>simp[hs]
   | _=>rw[oZ h (by intro c e f hh;cases hh)]
theorem Ca{x y:Option Obj}(h:nO x=nO y):rQ y=rQ x:=by
 cases x with
 | none=>rw[eu (h.symm)]
 | some o =>
  cases o with
  | cells c e f =>
   obtain⟨c',rfl,hs⟩:=qi h rfl;obtain⟨f1,f2⟩:=f;unfold rQ;cases f1<;>cases f2<;>simp
  | _=>rw[oZ h (by intro c e f hh;cases hh)]
theorem bW{α:Type}(P:Program)(m:Sem α):Local (az P m):=by
 induction m with
 | pure a=>exact Local.congr (λs=>rfl) (Local.pure a)
 | load md a k ih =>
  obtain⟨id,off,sp⟩:=a;cases sp with
  | some sp=>exact Local.congr (λs=>by simp only[az]) Local.none
  | none =>
   refine Local.congr (λs=>?_) (Local.bind (Local.read id (some off) (λx=>y9 x off) (λx y h=>h.2.symm) rfl) ih);simp only[az];cases hl:s.look id with
   | none=>rfl
   | some o =>
    cases o with
    | cells c e f =>
     simp only[y9];cases c[off]? <;> rfl
    | _=>rfl
 | store md a v k ih =>
  obtain⟨id,off,sp⟩:=a;cases sp with
  | some sp=>exact Local.congr (λs=>by simp only[az];cases oneCell v<;>rfl) Local.none
  | none =>
   cases h1:oneCell v with
   | false=>exact Local.congr (λs=>by simp only[az,h1]) Local.none
   | true =>
    by_cases hlim:id<lim
    ·refine Local.congr (λs=>?_) (Local.bind (Local.cell id off v hlim) (λ_=>ih))
     simp only[az,h1];cases hl:s.look id with
     | none=>rfl
     | some o =>
      cases o with
      | cells c e f =>
       obtain⟨f1,f2⟩:=f;cases f1<;>cases f2<;>first | rfl | skip
       by_cases hk:off<c.size
       ·simp[hk,hlim]
       ·simp[hk]
      | _=>rfl
    ·refine Local.congr (λs=>?_) Local.none
     simp only[az,h1]
     split
     ·rw[if_neg (λh=>hlim h.2)]
     ·rfl
 | new o k ih =>
  have mk:(∀ s:St,az P (.new o k) s=if 4*s.next<lim then az P (k (4*s.next)) { (s.put (4*s.next) (some o)).touch (4*s.next) none true with next:=s.next+1 } else none)->Local (az P (.new o k)):=by
   intro h;refine Local.congr (λs=>?_) (Local.bind (Local.new 0 (by omega) o) ih);rw[h s];dsimp only[Nat.add_zero]
   split<;>rfl
  cases o with
  | cells c e f =>
   obtain⟨f1,f2⟩:=f;cases f1 with
   | zero =>
    cases f2 with
    | zero=>exact mk (λs=>by simp only[az])
    | succ n=>exact Local.congr (λs=>by simp only[az];split<;>rfl) Local.none
   | succ n=>exact Local.congr (λs=>by simp only[az];split<;>rfl) Local.none
  | map es n=>exact mk (λs=>by simp only[az])
  | mapIter m n se st=>exact mk (λs=>by simp only[az])
  | stringIter st p=>exact mk (λs=>by simp only[az])
  | loop l=>exact mk (λs=>by simp only[az])
  | deferred d=>exact mk (λs=>by simp only[az])
  | _=>exact Local.congr (λs=>by simp only[az];split<;>rfl) Local.none
 | shape r k ih =>
  refine Local.congr (λs=>?_) (Local.bind (Local.read r (some 0) (jX r) (λx y h=>FO h.1) (by unfold jX;split<;>first | rfl | (rename_i h;cases h))) ih);simp only[az];cases hg:iQ r with
  | true=>simp[jX,hg]
  | false =>
   cases hl:s.look r with
   | none=>simp[jX,hg]
   | some o =>
    cases o with
    | cells c e f =>
     obtain⟨f1,f2⟩:=f;cases f1<;>cases f2<;>simp[jX,hg]
    | _=>simp[jX,hg]
 | freeze a n k ih=>exact Local.congr (λs=>rfl) Local.none
 | frozen a k ih =>
  refine Local.congr (λs=>?_) (Local.bind (Local.read a.block (some 0) rQ (λx y h=>Ca h.1) rfl) ih);simp only[az];cases hl:s.look a.block with
  | none=>rfl
  | some o =>
   cases o with
   | cells c e f =>
    obtain⟨f1,f2⟩:=f;cases f1<;>cases f2<;>rfl
   | _=>rfl
 | getObj r k ih =>
  refine Local.congr (λs=>?_) (Local.bind (Local.read r none TO (λx y h=>by rw[show x=y from h]) rfl) ih);simp only[az];cases hl:s.look r with
  | none=>rfl
  | some o=>cases o<;>rfl
 | setObj r o k ih =>
  by_cases hlim:r<lim
  ·refine Local.congr (λs=>?_) (Local.bind (Local.whole r (TP o) hlim (by cases o<;>rfl)) (λ_=>ih))
   simp only[az,hlim,if_true];cases hl:s.look r with
   | none=>cases o<;>rfl
   | some x=>cases x<;>cases o<;>rfl
  ·refine Local.congr (λs=>?_) Local.none
   simp only[az]
   split
   ·rw[if_neg hlim]
   ·rw[if_neg hlim]
   ·rw[if_neg hlim]
   ·rw[if_neg hlim]
   ·rw[if_neg hlim]
   ·rfl
 | choose q k ih =>
  cases hq:q.forced with
  | true=>exact Local.congr (λs=>by simp only[az,hq,if_true]) (ih 0)
  | false=>exact Local.congr (λs=>by simp[az,hq]) Local.none
 | sys c k ih=>exact Local.congr (λs=>rfl) Local.none
 | program k ih=>exact Local.congr (λs=>rfl) (ih P)
 | mark m k ih=>exact Local.congr (λs=>rfl) ih
 | halt h=>exact Local.congr (λs=>rfl) Local.none
variable[aP]
theorem Local.map{α β:Type}{f:St->Option (α×St)}(hf:Local f)(g:α->β):Local (λs=>(f s).map λ(a,s1)=>(g a,s1)):=by
 refine Local.congr (λs=>?_) (Local.bind hf (λa=>Local.pure (g a)));dsimp only;cases f s with
 | none=>rfl
 | some x=>rfl
theorem Local.ite{α:Type}(c:Bool){f:St->Option (α×St)}(hf:Local f):Local (λs=>if c=true then f s else Option.none):=by
 cases c with
 | false=>exact Local.congr (λs=>by simp) Local.none
 | true=>exact Local.congr (λs=>by simp) hf
theorem fZ{f:St->Option (Value×St)}(hf:Local f):Local (λs=>sv (f s)):=Local.map hf Next.value
theorem Hc{α:Type}{f:St->Option (α×St)}(hf:Local f):Local (λs=>su (f s)):=Local.map hf (λ_=>Next.skip)
def TQ(x:Option Obj):Option (Array MapEntry×Nat) :=
 match x with
 | some (.map es n)=>some (es,n)
 | _=>none
theorem vb(P:Program)(t:TypeId)(m k:Value)(ok:Bool):Local (λs=>jw P s t m k ok):=by
 unfold jw;cases hT:qe P t with
 | none=>exact Local.congr (λs=>by simp[hT]) Local.none
 | some x =>
  obtain⟨kt,d,et⟩:=x;cases hk:jU k with
  | false=>exact Local.congr (λs=>by simp[hT,hk]) Local.none
  | true =>
   have fin:∀ es:Array MapEntry,Local (λs1=>match Instr.findNow d k es.toList 0 with
     | some (some (_,v))=>some (if ok then Value.tuple #[v,.bool true] else v,s1)
     | some none =>
      match P.info? et with
      | some i=>(match i.zero with | some z=>if bH 6 z then some (if ok then Value.tuple #[z,.bool false] else z,s1) else none | none=>none)
      | none=>none
     | none=>none):=by
    intro es;cases Instr.findNow d k es.toList 0 with
    | none=>exact Local.none
    | some r =>
     cases r with
     | some p=>exact Local.pure _
     | none =>
      dsimp only;cases P.info? et with
      | none=>exact Local.none
      | some i =>
       dsimp only;cases i.zero with
       | none=>exact Local.none
       | some z =>
        dsimp only;exact Local.ite _ (Local.pure _)
   cases m with
   | map r =>
    cases r with
    | none=>exact Local.congr (λs=>rfl) (fin #[])
    | some r =>
     refine Local.congr (λs=>?_) (Local.bind (Local.read r none TQ (λx y h=>by rw[show x=y from h]) rfl) (λp=>fin p.1));dsimp only[entriesOf];cases hl:s.look r with
     | none=>rfl
     | some o=>cases o<;>rfl
   | _=>exact Local.congr (λs=>rfl) Local.none
def TR(P:Program)(t:TypeId)(k v:Value)(x:Option Obj):Option (Unit×Option Obj) :=
 match qe P t,x with
 | some (_,d,_),some (.map es n) =>
  match Instr.findNow d k es.toList 0 with
  | some (some (i,_))=>if Instr.sameBits 10000 (((es[i]?).map (·.key)).getD k) k then some ((),some (.map (es.modify i λe=>{ e with key:=k,val:=v }) n)) else none
  | some none=>some ((),some (.map (es.push { key:=k,val:=v,born:=n }) (n+1)))
  | none=>none
 | _,_=>none
def Pl(P:Program)(t:TypeId)(k:Value)(x:Option Obj):Option (Unit×Option Obj) :=
 match qe P t,x with
 | some (_,d,_),some (.map es n) =>
  match Instr.findNow d k es.toList 0 with
  | some (some (i,_))=>some ((),some (.map (es.eraseIdxIfInBounds i) n))
  | some none=>some ((),some (.map es n))
  | none=>none
 | _,_=>none
theorem ve(P:Program)(t:TypeId)(m k v:Value):Local (λs=>(d8 P s t m k v).map λs1=>((),s1)):=by
 cases hT:qe P t with
 | none=>exact Local.congr (λs=>by simp[d8,hT]) Local.none
 | some x =>
  obtain⟨kt,d,et⟩:=x;cases hk:jU k with
  | false=>exact Local.congr (λs=>by simp[d8,hT,hk]) Local.none
  | true =>
   cases m with
   | map r =>
    cases r with
    | none=>exact Local.congr (λs=>by simp[d8,hT,hk]) Local.none
    | some r =>
     by_cases hlim:r<lim
     ·refine Local.congr (λs=>?_) (Local.whole r (TR P t k v) hlim (by simp[TR,hT]))
      simp only[d8,hT,hk,TR];cases hl:s.look r with
      | none=>rfl
      | some o =>
       cases o with
       | map es n =>
        simp only[hlim,if_true];cases Instr.findNow d k es.toList 0 with
        | none=>rfl
        | some q =>
         cases q with
         | none=>rfl
         | some p =>
          dsimp only
          split<;>rfl
       | _=>rfl
     ·refine Local.congr (λs=>?_) Local.none
      simp only[d8,hT,hk,hlim,if_false];cases hl:s.look r with
      | none=>rfl
      | some o=>cases o<;>rfl
   | _=>exact Local.congr (λs=>by simp[d8,hT,hk]) Local.none
def Pm(P:Program)(t:TypeId)(k:Value)(x:Option Obj):Option (Value×Option Obj) :=
 match qe P t,x with
 | some (_,d,et),some (.map es n) =>
  match Instr.findNow d k es.toList 0 with
  | some (some (i,v))=>if Instr.sameBits 10000 (((es[i]?).map (·.key)).getD k) k then some (.tuple #[v,goInt (((es[i]?).map (·.born)).getD 0)],some (.map (es.modify i λe=>{ e with key:=k }) n)) else none
  | some none =>
   match P.info? et with
   | some i=>(match i.zero with | some z=>if bH 6 z then some (.tuple #[z,goInt n],some (.map (es.push { key:=k,val:=z,born:=n }) (n+1))) else none | none=>none)
   | none=>none
  | none=>none
 | _,_=>none
theorem xh(P:Program)(t:TypeId)(m k:Value):Local (λs=>gy P s t m k):=by
 cases hT:qe P t with
 | none=>exact Local.congr (λs=>by simp[gy,hT]) Local.none
 | some x =>
  obtain⟨kt,d,et⟩:=x;cases hk:jU k with
  | false=>exact Local.congr (λs=>by simp[gy,hT,hk]) Local.none
  | true =>
   cases m with
   | map r =>
    cases r with
    | none=>exact Local.congr (λs=>by simp[gy,hT,hk]) Local.none
    | some r =>
     by_cases hlim:r<lim
     ·refine Local.congr (λs=>?_) (Local.whole r (Pm P t k) hlim (by simp[Pm,hT]))
      simp only[gy,hT,hk,Pm];cases hl:s.look r with
      | none=>rfl
      | some o =>
       cases o with
       | map es n =>
        simp only[hlim,if_true];cases Instr.findNow d k es.toList 0 with
        | none=>rfl
        | some q =>
         cases q with
         | none =>
          dsimp only;cases P.info? et with
          | none=>rfl
          | some i =>
           dsimp only;cases i.zero with
           | none=>rfl
           | some z =>
            dsimp only
            split<;>rfl
         | some p =>
          dsimp only
          split<;>rfl
       | _=>rfl
     ·refine Local.congr (λs=>?_) Local.none
      simp only[gy,hT,hk,hlim,if_false];cases hl:s.look r with
      | none=>rfl
      | some o=>cases o<;>rfl
   | _=>exact Local.congr (λs=>by simp[gy,hT,hk]) Local.none
def Pn(b:Int)(v:Value)(x:Option Obj):Option (Unit×Option Obj) :=
 match x with
 | some (.map es n) =>
  match es.findIdx? (λe=>(e.born:Int)==b) with
  | some i=>some ((),some (.map (es.modify i λe=>{ e with val:=v }) n))
  | none=>none
 | _=>none
theorem xi(m st v:Value):Local (λs=>(ic s m st v).map λs1=>((),s1)):=by
 cases m with
 | map r =>
  cases r with
  | none=>exact Local.congr (λs=>by simp[ic]) Local.none
  | some r =>
   cases st with
   | int ik b =>
    by_cases hlim:r<lim
    ·refine Local.congr (λs=>?_) (Local.whole r (Pn b v) hlim (by simp[Pn]))
     simp only[ic,Pn];cases hl:s.look r with
     | none=>rfl
     | some o =>
      cases o with
      | map es n =>
       simp only[hlim,if_true];cases es.findIdx? (λe=>(e.born:Int)==b) with
       | none=>rfl
       | some i=>rfl
      | _=>rfl
    ·refine Local.congr (λs=>?_) Local.none
     simp only[ic,hlim,if_false];cases hl:s.look r with
     | none=>rfl
     | some o=>cases o<;>rfl
   | _=>exact Local.congr (λs=>by simp[ic]) Local.none
 | _=>exact Local.congr (λs=>by simp[ic]) Local.none
theorem vf(P:Program)(t:TypeId)(m k:Value):Local (λs=>(fe P s t m k).map λs1=>((),s1)):=by
 cases hT:qe P t with
 | none=>exact Local.congr (λs=>by simp[fe,hT]) Local.none
 | some x =>
  obtain⟨kt,d,et⟩:=x;cases hk:jU k with
  | false=>exact Local.congr (λs=>by simp[fe,hT,hk]) Local.none
  | true =>
   cases m with
   | map r =>
    cases r with
    | none=>exact Local.congr (λs=>by simp[fe,hT,hk]) Local.none
    | some r =>
     by_cases hlim:r<lim
     ·refine Local.congr (λs=>?_) (Local.whole r (Pl P t k) hlim (by simp[Pl,hT]))
      simp only[fe,hT,hk,Pl];cases hl:s.look r with
      | none=>rfl
      | some o =>
       cases o with
       | map es n =>
        simp only[hlim,if_true];cases Instr.findNow d k es.toList 0 with
        | none=>rfl
        | some q =>
         cases q with
         | none=>rfl
         | some p=>rfl
       | _=>rfl
     ·refine Local.congr (λs=>?_) Local.none
      simp only[fe,hT,hk,hlim,if_false];cases hl:s.look r with
      | none=>rfl
      | some o=>cases o<;>rfl
   | _=>exact Local.congr (λs=>by simp[fe,hT,hk]) Local.none
def l7(sz:Nat)(x:Value)(s:St):Option (Array Value×St) :=
 match bk s sz x with
 | some (c,l)=>some (c,{ s with log:=l++s.log })
 | none=>none
def Ry(off n sz:Nat)(x:Option Obj):Option (Array Value) :=
 match x with
 | some (.cells a _ _)=>if off+n*sz<=a.size/\(a.extract off (off+n*sz)).toList.all oneCell=true then some (a.extract off (off+n*sz)) else none
 | _=>none
theorem l8(sz:Nat)(x:Value):Local (l7 sz x):=by
 cases x with
 | slice a n c =>
  cases a with
  | none =>
   match n,c with
   | 0,0=>exact Local.congr (λs=>rfl) (Local.pure #[])
   | 0,c+1=>exact Local.congr (λs=>rfl) Local.none
   | n+1,c=>exact Local.congr (λs=>rfl) Local.none
  | some a =>
   obtain⟨id,off,sp⟩:=a;cases sp with
   | some q=>exact Local.congr (λs=>rfl) Local.none
   | none =>
    refine Local.congr (λs=>?_) (Local.read id none (Ry off n sz) (λx y h=>by rw[show x=y from h]) rfl);simp only[l7,bk,Ry];cases hl:s.look id with
    | none=>rfl
    | some o =>
     cases o with
     | cells a e f =>
      by_cases hc:off+n*sz<=a.size/\(a.extract off (off+n*sz)).toList.all oneCell=true
      ·simp only[hc,and_self,if_true];rfl
      ·simp only[hc,if_false]
     | _=>rfl
 | string b =>
  by_cases h:sz=1
  ·refine Local.congr (λs=>?_) (Local.pure (byteCells b).toArray)
   simp[l7,bk,h]
  ·refine Local.congr (λs=>?_) Local.none
   simp[l7,bk,h]
 | _=>exact Local.congr (λs=>rfl) Local.none
def s7(e:TypeId)(x:Option Obj):Option (Unit×Option Obj) :=
 match x with
 | some (.cells _ e0 _)=>if e0=e then some ((),none) else none
 | _=>none
def qj(e:TypeId)(k:Nat)(c:Array Value)(s:St):Option (Value×St) :=
 if 4*s.next+1<lim then some (.slice (some ⟨4*s.next+1,0,none⟩) k k,{ (s.put (4*s.next+1) (some (.cells c e (0,0)))).touch (4*s.next+1) none true with next:=s.next+1 }) else none
theorem o6(e:TypeId)(k:Nat)(c:Array Value):Local (qj e k c):=by
 refine Local.congr (λs=>?_) (Local.map (Local.new 1 (by omega) (.cells c e (0,0))) (λid=>Value.slice (some ⟨id,0,none⟩) k k));unfold qj;dsimp only
 split<;>rfl
def xj(e:TypeId)(id:Nat)(s:St):Option (Unit×St) :=
 match s7 e (s.look id) with
 | some (a,o)=>some (a,(s.put id o).touch id none true)
 | none=>none
def qk(e:TypeId)(k:Nat)(dr:Option Nat)(c:Array Value)(s:St):Option (Value×St) :=
 match dr with
 | none=>qj e k c s
 | some id =>
  if id<lim then
   match xj e id s with
   | some (_,s1)=>qj e k c s1
   | none=>none
  else none
theorem xk(e:TypeId)(k:Nat)(dr:Option Nat)(c:Array Value):Local (qk e k dr c):=by
 cases dr with
 | none=>exact o6 _ _ _
 | some id =>
  by_cases hlim:id<lim
  ·refine Local.congr (λs=>?_) (Local.bind (Local.whole id (s7 e) hlim rfl) (λ_=>o6 e k c))
   simp only[qk,xj,hlim,if_true];cases s7 e (s.look id)<;>rfl
  ·exact Local.congr (λs=>by simp only[qk,hlim,if_false]) Local.none
def s9(e:TypeId)(sz k:Nat)(src:Value)(dr:Option Nat)(olds:Array Value)(s:St):Option (Value×St) :=
 match l7 sz src s with
 | some (news,s2)=>qk e k dr (olds++news) s2
 | none=>none
theorem xm(e:TypeId)(sz k:Nat)(src:Value)(dr:Option Nat)(olds:Array Value):Local (s9 e sz k src dr olds) :=
 Local.congr (λs=>by unfold s9;cases l7 sz src s<;>rfl) (Local.bind (l8 sz src) (λnews=>xk e k dr (olds++news)))
def ki(e:TypeId)(sz k:Nat)(dst src:Value)(dr:Option Nat)(s:St):Option (Value×St) :=
 match l7 sz dst s with
 | some (olds,s1)=>s9 e sz k src dr olds s1
 | none=>none
theorem jc(e:TypeId)(sz k:Nat)(dst src:Value)(dr:Option Nat):Local (ki e sz k dst src dr) :=
 Local.congr (λs=>by unfold ki;cases l7 sz dst s<;>rfl) (Local.bind (l8 sz dst) (λolds=>xm e sz k src dr olds))
variable[aP]
theorem zE(sz:Nat)(x:Value)(s:St)(l:List Touch):l7 sz x { s with log:=l }=match bk s sz x with | some (c,l1)=>some (c,{ s with log:=l1++l }) | none=>none:=rfl
theorem nQ(e:TypeId)(sz k:Nat)(dst src:Value)(s:St):ki e sz k dst src none s =
  if 4*s.next+1<lim then
   match bk s sz src,bk s sz dst with
   | some (news,l1),some (olds,l2)=>some (.slice (some ⟨4*s.next+1,0,none⟩) k k,{ s.put (4*s.next+1) (some (.cells (olds++news) e (0,0))) with next:=s.next+1,log:=⟨4*s.next+1,none,true⟩::(l1++(l2++s.log)) })
   | _,_=>none
  else none:=by
 unfold ki l7;cases hd:bk s sz dst with
 | none =>
  cases hs:bk s sz src<;>simp
 | some x =>
  obtain⟨olds,l2⟩:=x;dsimp only;unfold s9;rw[zE];cases hs:bk s sz src with
  | none=>simp
  | some y =>
   obtain⟨news,l1⟩:=y;dsimp only[qk,qj];rfl
theorem vi(e:TypeId)(sz k id:Nat)(dst src:Value)(s:St):ki e sz k dst src (some id) s =
  if 4*s.next+1<lim then
   match bk s sz src,bk s sz dst with
   | some (news,l1),some (olds,l2) =>
    (match s.look id with
     | some (.cells _ e0 _)=>if e0=e/\id<lim then some (.slice (some ⟨4*s.next+1,0,none⟩) k k,{ (s.put id none).put (4*s.next+1) (some (.cells (olds++news) e (0,0))) with next:=s.next+1,log:=⟨4*s.next+1,none,true⟩::⟨id,none,true⟩::(l1++(l2++s.log)) }) else none
     | _=>none)
   | _,_=>none
  else none:=by
 unfold ki l7;cases hd:bk s sz dst with
 | none =>
  cases hs:bk s sz src<;>simp
 | some x =>
  obtain⟨olds,l2⟩:=x;dsimp only;unfold s9;rw[zE];cases hs:bk s sz src with
  | none=>simp
  | some y =>
   obtain⟨news,l1⟩:=y;dsimp only[qk,xj];have hlk:({ s with log:=l1++(l2++s.log) } : St).look id=s.look id:=rfl;rw[hlk]
   by_cases hlim:id<lim
   ·rw[if_pos hlim]
    cases hl:s.look id with
    | none=>simp[s7]
    | some o =>
     cases o with
     | cells c e0 f =>
      by_cases he:e0=e
      ·subst he
       simp only[s7,if_true,hlim,and_self,qj];rfl
      ·simp[s7,he]
     | _=>simp[s7]
   ·rw[if_neg hlim]
    cases hl:s.look id with
    | none=>simp
    | some o=>cases o<;>simp[hlim]
theorem vj(P:Program)(t u:TypeId)(dst src:Value):Local (λs=>cL P s t u dst src):=by
 cases hu:P.underlying t with
 | none=>exact Local.congr (λs=>by simp[cL,hu]) Local.none
 | some d =>
  cases d with
  | slice e =>
   cases hm:eW src with
   | none=>exact Local.congr (λs=>by simp[cL,hu,hm]) Local.none
   | some m =>
    cases dst with
    | slice ba n c =>
     cases hi:P.info? e with
     | none=>exact Local.congr (λs=>by simp[cL,hu,hm,hi]) Local.none
     | some i =>
      cases hz:i.zero with
      | none=>exact Local.congr (λs=>by simp[cL,hu,hm,hi,hz]) Local.none
      | some z =>
       by_cases hk:(∃ x,P.underlying u=some (.slice x))\/P.underlying u=some .string
       case neg =>
        refine Local.congr (λs=>?_) Local.none;cases hU:P.underlying u with
        | none=>simp only[cL,hu,hm,hi,hz,hU]
        | some d =>
         cases d with
         | slice x=>exact absurd (Or.inl ⟨x,hU⟩) hk
         | string=>exact absurd (Or.inr hU) hk
         | _=>simp only[cL,hu,hm,hi,hz,hU]
       case pos =>
        by_cases hm0:m=0
        ·exact Local.congr (λs=>by rcases hk with ⟨x,hU⟩ | hU<;>simp only[cL,hu,hm,hi,hz,hU,hm0,if_true]) (Local.pure (Value.slice ba n c))
        ·by_cases hst:(n+m)*i.bytes<=140737488355328/\n+m<=1000000000/\0<i.size/\z.cells.size=i.size/\(n=0\/ba.isSome=true)
         ·obtain⟨c1,c2,c3,c4,c5⟩:=hst
          have hcond:∀ s:St,((n+m)*i.bytes<=140737488355328/\n+m<=1000000000/\4*s.next+1<lim/\0<i.size/\z.cells.size=i.size/\(n=0\/ba.isSome=true))↔4*s.next+1<lim:=λs=>⟨λh=>h.2.2.1,λh=>⟨c1,c2,h,c3,c4,c5⟩⟩
          cases ba with
          | none =>
           refine Local.congr (λs=>?_) (jc e i.size (n+m) (.slice none n c) src none);rw[nQ];rcases hk with ⟨x,hU⟩ | hU<;>simp only[cL,hu,hm,hi,hz,hU,hm0,if_false,hcond s]
           all_goals (split<;>first | rfl | (rcases bk s i.size src with _ | ⟨_,_⟩<;>rcases bk s i.size (.slice none n c) with _ | ⟨_,_⟩<;>rfl))
          | some a =>
           obtain⟨id,off,sp⟩:=a;cases hg:iQ id with
           | true =>
            cases off with
            | zero =>
             refine Local.congr (λs=>?_) (jc e i.size (n+m) (.slice (some ⟨id,0,sp⟩) n c) src (some id));rw[vi];rcases hk with ⟨x,hU⟩ | hU<;>simp only[cL,hu,hm,hi,hz,hU,hm0,if_false,hcond s,hg,if_true]
             all_goals (split<;>first | rfl | (rcases bk s i.size src with _ | ⟨_,_⟩<;>rcases bk s i.size (.slice (some ⟨id,0,sp⟩) n c) with _ | ⟨_,_⟩<;>rcases s.look id with _ | o<;>first | rfl | (cases o<;>rfl)))
            | succ off =>
             refine Local.congr (λs=>?_) Local.none;rcases hk with ⟨x,hU⟩ | hU<;>simp only[cL,hu,hm,hi,hz,hU,hm0,if_false,hcond s,hg,if_true]
             all_goals split
             all_goals first | rfl | (split<;>rfl)
           | false =>
            by_cases hc:c<n+m
            ·refine Local.congr (λs=>?_) (jc e i.size (n+m) (.slice (some ⟨id,off,sp⟩) n c) src none)
             rw[nQ];rcases hk with ⟨x,hU⟩ | hU<;>simp only[cL,hu,hm,hi,hz,hU,hm0,if_false,hcond s,hg,hc,if_true,Bool.false_eq_true]
             all_goals (split<;>first | rfl | (rcases bk s i.size src with _ | ⟨_,_⟩<;>rcases bk s i.size (.slice (some ⟨id,off,sp⟩) n c) with _ | ⟨_,_⟩<;>rfl))
            ·refine Local.congr (λs=>?_) Local.none
             rcases hk with ⟨x,hU⟩ | hU<;>simp only[cL,hu,hm,hi,hz,hU,hm0,if_false,hcond s,hg,hc,Bool.false_eq_true]
             all_goals split
             all_goals first | rfl | (split<;>rfl)
         ·refine Local.congr (λs=>?_) Local.none
          rcases hk with ⟨x,hU⟩ | hU<;>simp only[cL,hu,hm,hi,hz,hU,hm0,if_false]
          all_goals rw[if_neg (λh=>hst ⟨h.1,h.2.1,h.2.2.2⟩)]
    | _=>exact Local.congr (λs=>by simp[cL,hu,hm]) Local.none
  | _=>exact Local.congr (λs=>by simp[cL,hu]) Local.none
variable[aP]
theorem Local.jY{α:Type}(c:Prop)[Decidable c]{f:St->Option (α×St)}(hf:Local f):Local (λs=>if c then f s else Option.none):=by
 by_cases h:c
 ·exact Local.congr (λs=>by rw[if_pos h]) hf
 ·exact Local.congr (λs=>by rw[if_neg h]) Local.none
theorem kQ{β:Type}{f:St->Option St}(hf:Local (λs=>(f s).map λs1=>((),s1)))(v:β):Local (λs=>(f s).map λs1=>(v,s1)):=by
 refine Local.congr (λs=>?_) (Local.map hf (λ_=>v));cases f s<;>rfl
theorem zF(P:Program)(a:Act)(o:Oper):Local (fY P a o):=by
 unfold fY;refine Local.jY _ ?_;cases hq:iZ P (execOp a.eval o) with
 | none=>exact Local.congr (λs=>by simp[hq]) Local.none
 | some n =>
  cases n with
  | value v=>exact Local.congr (λs=>by simp[hq]) (Local.jY (bH 5 v=true) (Local.pure (Next.value v)))
  | _=>exact Local.congr (λs=>by simp[hq]) Local.none
theorem zG(P:Program)(a:Act)(o:Oper):(∃ n,∀ s,fY P a o s=some (n,s))\/∀ s,fY P a o s=none:=by
 unfold fY
 split
 ·cases hq:iZ P (execOp a.eval o) with
  | none=>exact .inr (λs=>rfl)
  | some n =>
   cases n with
   | value v =>
    by_cases hv:bH 5 v=true
    ·exact .inl ⟨.value v,λs=>by simp[hv]⟩
    ·exact .inr (λs=>by simp[hv])
   | _=>exact .inr (λs=>rfl)
 ·exact .inr (λs=>rfl)
theorem o7{P:Program}{a:Act}{o:Oper}{g:St->Option (Next×St)}(hg:Local g):Local (λs=>match fY P a o s with | some r=>some r | none=>g s):=by
 rcases zG P a o with ⟨n,h⟩ | h
 ·exact Local.congr (λs=>by simp only[h s]) (Local.pure n)
 ·exact Local.congr (λs=>by simp only[h s]) hg
theorem zH(P:Program)(a:Act)(c:Call)(ty:TypeId):Local (nL P a c ty):=by
 unfold nL;refine Local.jY _ ?_;cases hc:c.callee with
 | value f =>
  dsimp only
  split
  ·exact Local.jY _ (Local.pure _)
  ·exact Local.jY _ (bW P _)
  ·exact Local.none
 | invoke r name =>
  dsimp only
  split
  ·split
   ·exact Local.jY _ (Local.pure _)
   ·exact Local.none
  ·exact Local.none
 | builtin b =>
  dsimp only
  split
  ·exact fZ (bW P _)
  ·exact Local.jY _ (fZ (bW P _))
  ·split
   ·exact fZ (bW P _)
   ·exact fZ (vj P _ _ _ _)
  ·exact fZ (bW P _)
  ·exact kQ (vf P _ _ _) _
  ·exact Local.none
theorem zI(P:Program)(m:Sem Value):Local (λs=>match az P m s with | some (v,s1)=>if oP v=true then some (Next.value v,s1) else none | none=>none):=by
 refine Local.congr (λs=>?_) (Local.bind (bW P m) (λv=>Local.jY (oP v=true) (Local.pure (Next.value v))));cases az P m s with
 | none=>rfl
 | some x=>rfl
theorem ql{α β:Type}(c:Option α)(f:α->β):Local (λs=>c.map λr=>(f r,s)):=by
 cases c with
 | none=>exact Local.none
 | some a=>exact Local.pure (f a)
theorem Cb(P:Program)(t u:TypeId)(x:Value):Local (B7 P t u x):=by
 unfold B7
 split
 ·exact ql _ _
 ·exact Local.none
theorem l9(P:Program)(a:Act)(o:Oper):Local (aU P a o):=by
 unfold aU
 split
 all_goals first
  | exact Local.jY _ (Local.pure _)
  | exact Local.none
  | exact zF P a o
  | exact Local.jY _ (fZ (bW P _))
  | exact Local.jY _ (Hc (bW P _))
  | exact fZ (bW P _)
  | exact Local.jY _ (fZ (vb P _ _ _ _))
  | exact Local.jY _ (kQ (ve P _ _ _ _) _)
  | exact Local.jY _ (fZ (xh P _ _ _))
  | exact Local.jY _ (kQ (xi _ _ _) _)
  | exact o7 (zH P a _ _)
  | skip
 ·refine Local.jY _ ?_
  split
  ·exact Local.pure _
  ·exact Local.none
 ·refine Local.jY _ ?_
  split
  ·exact Local.pure _
  ·exact Local.pure _
  ·exact Local.pure _
  ·exact Local.none
 ·refine o7 (Local.jY _ ?_)
  split
  ·split
   ·exact Local.pure _
   ·exact Local.pure _
   ·exact Local.none
  ·exact ql _ _
 ·exact o7 (Local.jY _ (ql _ _))
 ·exact o7 (Local.jY _ (Cb P _ _ _))
 ·refine Local.jY _ ?_
  exact zI P _
end Go.Ev
