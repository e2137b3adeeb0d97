/- Part of a proof: see the last text. -/
import Derived.Test.YtkmccgombmogmaaGreatZe4
set_option linter.unusedSectionVars false
set_option linter.unusedSimpArgs false
set_option linter.unusedVariables false
namespace Go.Ev
open Go.RowKit
variable[bg]
inductive J5 where
 | no
 | cells (e:TypeId) (n:Nat) (f:Nat×Nat)
 | vw (n:Nat)
 | obj (o:Obj)
def kx:Option Obj->J5
 | none=>.no
 | some (.cells c e f)=>.cells e c.size f
 | some (.view _ n)=>.vw n
 | some o=>.obj o
def sj:Option Obj->Nat->Option Value
 | some (.cells c _ _),k=>c[k]?
 | some (.view a _),k=>if k=1 then some (.pointer (some a)) else none
 | _,_=>none
theorem nV{x y:Option Obj}(h:kx x=kx y)(hc:∀ k,sj x k=sj y k):x=y:=by
 cases x with
 | none =>
  cases y with
  | none=>rfl
  | some y=>cases y<;>simp[kx]at h
 | some x =>
  cases y with
  | none=>cases x<;>simp[kx]at h
  | some y =>
   cases x<;>cases y<;>simp only[kx,J5.cells.injEq,J5.obj.injEq,J5.vw.injEq,reduceCtorEq]at h
   case view.view a n a' n' =>
    subst h;have:=hc 1;simp only[sj,if_true,Option.some.injEq,Value.pointer.injEq]at this;rw[this]
   case cells.cells c e f c' e' f' =>
    obtain⟨rfl,hs,rfl⟩:=h;have:c=c':=by
     apply Array.ext hs;intro i h1 h2;have:=hc i;simp only[sj,Array.getElem?_eq_getElem h1,Array.getElem?_eq_getElem h2,Option.some.injEq]at this;exact this
    rw[this]
   all_goals first | (cases h;rfl) | exact congrArg some h | skip
def iW(L:List Touch)(id:Nat):Prop:=∃ t ∈ L,t.id=id/\t.wr=true/\t.at_=none
def mE(L:List Touch)(id k:Nat):Prop:=∃ t ∈ L,t.id=id/\t.wr=true/\t.at_=some k
def D4(t:Touch)(x y:Option Obj):Prop :=
 match t.at_ with
 | none=>x=y
 | some k=>kx x=kx y/\sj x k=sj y k
def MZ(L:List Touch)(s s1:St):Prop:=∀ id,¬ iW L id->kx (s1.look id)=kx (s.look id)/\∀ k,¬ mE L id k->sj (s1.look id) k=sj (s.look id) k
def J6(L:List Touch)(s1 s2 s3:St):Prop:=∀ id,(iW L id->s3.look id=s1.look id)/\(¬ iW L id->kx (s3.look id)=kx (s2.look id)/\∀ k,(mE L id k->sj (s3.look id) k=sj (s1.look id) k)/\(¬ mE L id k->sj (s3.look id) k=sj (s2.look id) k))
def mL(s:St)(n m:Nat):Prop:=∀ id,4*n<=id->id<4*m->s.look id=none
def Old(n m id:Nat):Prop:=¬ (4*n<=id/\id<4*m)
def Local{α:Type}(f:St->Option (α×St)):Prop :=
 ∀ s r s1,f s=some (r,s1)->s.next<=s1.next/\(mL s s.next s1.next->
  ∃ L,s1.log=L++s.log/\MZ L s s1/\(∀ t ∈ L,Old s.next s1.next t.id->s.look t.id≠none)/\
   ∀ s2:St,s2.next=s.next->(∀ t ∈ L,Old s.next s1.next t.id->D4 t (s.look t.id) (s2.look t.id))->mL s2 s.next s1.next->
    ∃ s3,f s2=some (r,s3)/\s3.next=s1.next/\s3.log=L++s2.log/\J6 L s1 s2 s3)
theorem dM{x:Option Obj}(h:kx x=.no):x=none:=by
 cases x with
 | none=>rfl
 | some o=>cases o<;>simp[kx]at h
theorem uW(id:Nat):¬ iW [] id:=λ⟨t,ht,_⟩=>by cases ht
theorem uX(id k:Nat):¬ mE [] id k:=λ⟨t,ht,_⟩=>by cases ht
theorem J6.nil(s:St)(s1:St):J6 [] s1 s s:=λid=>⟨λh=>(uW id h).elim,λ_=>⟨rfl,λk=>⟨λh=>(uX id k h).elim,λ_=>rfl⟩⟩⟩
theorem Local.pure{α:Type}(a:α):Local (λs=>some (a,s)):=by
 intro s r s1 h;cases h;exact⟨Nat.le_refl _,λhcl=>⟨[],rfl,λid _=>⟨rfl,λk _=>rfl⟩,(λt ht=>by cases ht),λs2 hn ha hc=>⟨s2,rfl,hn,rfl,J6.nil s2 _⟩⟩⟩
theorem lC{L M:List Touch}{id:Nat} : iW (L++M) id↔iW L id\/iW M id:=by
 constructor
 ·rintro⟨t,ht,h⟩
  rcases List.mem_append.1 ht with ht | ht
  ·exact .inl ⟨t,ht,h⟩
  ·exact .inr ⟨t,ht,h⟩
 ·rintro(⟨t,ht,h⟩ | ⟨t,ht,h⟩)
  ·exact⟨t,List.mem_append_left _ ht,h⟩
  ·exact⟨t,List.mem_append_right _ ht,h⟩
theorem lD{L M:List Touch}{id k:Nat} : mE (L++M) id k↔mE L id k\/mE M id k:=by
 constructor
 ·rintro⟨t,ht,h⟩
  rcases List.mem_append.1 ht with ht | ht
  ·exact .inl ⟨t,ht,h⟩
  ·exact .inr ⟨t,ht,h⟩
 ·rintro(⟨t,ht,h⟩ | ⟨t,ht,h⟩)
  ·exact⟨t,List.mem_append_left _ ht,h⟩
  ·exact⟨t,List.mem_append_right _ ht,h⟩
theorem Local.bind{α β:Type}{f:St->Option (α×St)}{g:α->St->Option (β×St)}(hf:Local f)(hg:∀ a,Local (g a)) :
  Local (λs=>match f s with | some (a,s1)=>g a s1 | none=>none):=by
 intro s r s2 h;dsimp only at h
 split at h
 ·rename_i a s1 hfs
  obtain⟨n1,k1⟩:=hf s a s1 hfs;obtain⟨n2,k2⟩:=hg a s1 r s2 h;refine⟨Nat.le_trans n1 n2,λhcl=>?_⟩;obtain⟨L1,e1,u1,b1,l1⟩:=k1 (λid x y=>hcl id x (by omega));have J7:∀ id,4*s1.next<=id->id<4*s2.next->¬ iW L1 id:=by
   intro id x y ⟨t,ht,hid,_⟩;exact b1 t ht (λhh=>by omega) (by rw[hid];exact hcl id (by omega) y)
  have w1:mL s1 s1.next s2.next:=by
   intro id x y;exact dM (by rw[(u1 id (J7 id x y)).1,hcl id (by omega) y];rfl)
  obtain⟨L2,e2,u2,b2,l2⟩:=k2 w1;refine⟨L2++L1,by rw[e2,e1,List.append_assoc],?_,?_,?_⟩
  ·intro id hw
   rw[lC,not_or]at hw;obtain⟨p1,p2⟩:=u1 id hw.2;obtain⟨q1,q2⟩:=u2 id hw.1;refine⟨q1.trans p1,λk hk=>?_⟩;rw[lD,not_or]at hk;exact(q2 k hk.1).trans (p2 k hk.2)
  ·intro t ht hold
   rcases List.mem_append.1 ht with ht | ht
   ·intro hno
    have OX:¬ iW L1 t.id:=λ⟨u,hu,hid,_⟩=>b1 u hu (λhh=>hold (by omega)) (by rw[hid];exact hno)
    exact b2 t ht (λhh=>hold (by omega)) (dM (by rw[(u1 t.id OX).1,hno];rfl))
   ·exact b1 t ht (λhh=>hold (by omega))
  ·intro z hz hag hzc
   obtain⟨z1,f1,m1,g1,r1⟩:=l1 z hz (λt ht hid=>by
    by_cases hw:Old s.next s2.next t.id
    ·exact hag t (List.mem_append_right _ ht) hw
    ·have hw':4*s.next<=t.id/\t.id<4*s2.next:=by unfold Old at hw;omega
     exact absurd (hcl t.id hw'.1 hw'.2) (b1 t ht hid)) (λid x y=>hzc id x (by omega))
   have OY:∀ t ∈ L2,Old s1.next s2.next t.id->D4 t (s1.look t.id) (z1.look t.id):=by
    intro t ht hid;obtain⟨ra,rb⟩:=r1 t.id
    by_cases hw:iW L1 t.id
    ·rw[ra hw]
     unfold D4
     split
     ·rfl
     ·exact⟨rfl,rfl⟩
    ·obtain⟨rc,rd⟩:=rb hw
     obtain⟨p1,p2⟩:=u1 t.id hw
     by_cases hold:Old s.next s2.next t.id
     ·have h0:=hag t (List.mem_append_left _ ht) hold
      unfold D4 at h0 ⊢
      split at h0
      ·apply nV
       ·rw[p1,rc,h0]
       ·intro k
        by_cases hk:mE L1 t.id k
        ·rw[(rd k).1 hk]
        ·rw[(rd k).2 hk,p2 k hk,h0]
      ·rename_i k hsome
       refine⟨by rw[p1,rc];exact h0.1,?_⟩
       by_cases hk:mE L1 t.id k
       ·rw[(rd k).1 hk]
       ·rw[(rd k).2 hk,p2 k hk];exact h0.2
     ·have hw':4*s.next<=t.id/\t.id<4*s2.next:=by unfold Old at hold;omega
      have hz0:z.look t.id=none:=hzc t.id hw'.1 hw'.2;have hs0:s.look t.id=none:=hcl t.id hw'.1 hw'.2;have e3:s1.look t.id=none:=dM (by rw[p1,hs0];rfl);have e4:z1.look t.id=none:=dM (by rw[rc,hz0];rfl);rw[e3,e4];unfold D4
      split
      ·rfl
      ·exact⟨rfl,rfl⟩
   have OZ:mL z1 s1.next s2.next:=by
    intro id x y;obtain⟨ra,rb⟩:=r1 id;exact dM (by rw[(rb (J7 id x y)).1,hzc id (by omega) y];rfl)
   obtain⟨z2,f2,m2,g2,r2⟩:=l2 z1 m1 OY OZ;refine⟨z2,?_,m2,by rw[g2,g1,List.append_assoc],?_⟩
   ·dsimp only
    rw[f1];exact f2
   ·intro id
    obtain⟨ra,rb⟩:=r1 id;obtain⟨rc,rd⟩:=r2 id;constructor
    ·intro hw
     rw[lC]at hw
     by_cases hw2:iW L2 id
     ·exact rc hw2
     ·have hw1:iW L1 id:=hw.resolve_left hw2
      obtain⟨q1,q2⟩:=u2 id hw2;obtain⟨s1',s2'⟩:=rd hw2;apply nV
      ·rw[s1',ra hw1,q1]
      ·intro k
       by_cases hk:mE L2 id k
       ·exact(s2' k).1 hk
       ·rw[(s2' k).2 hk,ra hw1,q2 k hk]
    ·intro hw
     rw[lC,not_or]at hw;obtain⟨t1,t2⟩:=rb hw.2;obtain⟨t3,t4⟩:=rd hw.1;obtain⟨q1,q2⟩:=u2 id hw.1;refine⟨t3.trans t1,λk=>⟨λhk=>?_,λhk=>?_⟩⟩
     ·rw[lD]at hk
      by_cases hk2:mE L2 id k
      ·exact(t4 k).1 hk2
      ·have hk1:=hk.resolve_left hk2
       rw[(t4 k).2 hk2,(t2 k).1 hk1,q2 k hk2]
     ·rw[lD,not_or]at hk
      rw[(t4 k).2 hk.1,(t2 k).2 hk.2]
 ·cases h
theorem Local.congr{α:Type}{f g:St->Option (α×St)}(h:∀ s,g s=f s)(hf:Local f):Local g:=by
 have:g=f:=funext h;rw[this];exact hf
theorem Local.none{α:Type} : Local (λ_=>(Option.none:Option (α×St))):=by
 intro s r s1 h;cases h
theorem Local.read{α:Type}(id:Nat)(at_:Option Nat)(q:Option Obj->Option α)(hq:∀ x y,D4 ⟨id,at_,false⟩ x y->q y=q x)(hn:q Option.none=Option.none) :
  Local (λs=>match q (s.look id) with | some a=>some (a,s.touch id at_ false) | Option.none=>Option.none):=by
 intro s r s1 h;dsimp only at h
 split at h
 ·rename_i a K5
  cases h;refine⟨Nat.le_refl _,λhcl=>⟨[⟨id,at_,false⟩],rfl,λj _=>⟨rfl,λk _=>rfl⟩,?_,?_⟩⟩
  ·intro t ht _
   rw[List.mem_singleton]at ht;subst ht;exact λhno=>by have hno:s.look id=Option.none:=hno;rw[hno,hn]at K5;cases K5
  ·intro z hz hag hzc
   have h0:=hag ⟨id,at_,false⟩ (List.mem_singleton.2 rfl) (λ⟨x,y⟩=>Nat.lt_irrefl _ (Nat.lt_of_le_of_lt x y));refine⟨z.touch id at_ false,?_,hz,rfl,?_⟩
   ·dsimp only
    rw[hq _ _ h0,K5]
   ·intro j
    have nw:¬ iW [⟨id,at_,false⟩] j:=λ⟨t,ht,_,hw,_⟩=>by rw[List.mem_singleton]at ht;subst ht;cases hw
    exact⟨λh=>(nw h).elim,λ_=>⟨rfl,λk=>⟨(λ⟨t,ht,_,hw,_⟩=>by rw[List.mem_singleton]at ht;subst ht;cases hw),λ_=>rfl⟩⟩⟩
 ·cases h
theorem Local.cell(id k:Nat)(v:Value)(hlim:id<lim):Local (λs=>match s.look id with
  | some (.cells c e (0,0))=>if k<c.size then some ((),(s.put id (some (.cells (c.setIfInBounds k v) e (0,0)))).touch id (some k) true) else Option.none
  | _=>Option.none):=by
 intro s r s1 h;dsimp only at h
 split at h
 ·rename_i c e hl
  split at h
  ·rename_i hk
   cases h;have lk:∀ j,((s.put id (some (.cells (c.setIfInBounds k v) e (0,0)))).touch id (some k) true).look j=if j=id then some (.cells (c.setIfInBounds k v) e (0,0)) else s.look j:=by
    intro j
    by_cases ej:j=id
    ·subst ej;rw[if_pos rfl];exact St.bZ _ _ _ hlim
    ·rw[if_neg ej];exact St.bh _ _ _ _ ej
   have nall:∀ j,¬ iW [⟨id,some k,true⟩] j:=λj ⟨t,ht,_,_,hn⟩=>by rw[List.mem_singleton]at ht;subst ht;cases hn
   refine⟨Nat.le_refl _,λhcl=>⟨[⟨id,some k,true⟩],rfl,?_,?_,?_⟩⟩
   ·intro j _
    rw[lk j]
    by_cases ej:j=id
    ·subst ej
     rw[if_pos rfl,hl];refine⟨by simp[kx],λm hm=>?_⟩;have hne:k≠m:=λe=>hm ⟨_,List.mem_singleton.2 rfl,rfl,rfl,by rw[e]⟩
     simp only[sj];rw[Array.getElem?_setIfInBounds,if_neg hne]
    ·rw[if_neg ej];exact⟨rfl,λ_ _=>rfl⟩
   ·intro t ht _
    rw[List.mem_singleton]at ht;subst ht;exact λhno=>by have hno:s.look id=Option.none:=hno;rw[hno]at hl;cases hl
   ·intro z hz hag hzc
    have h0:=hag ⟨id,some k,true⟩ (List.mem_singleton.2 rfl) (λ⟨x,y⟩=>Nat.lt_irrefl _ (Nat.lt_of_le_of_lt x y));obtain⟨h1,h2⟩:=h0;rw[hl]at h1;have hz2:∃ c2:Array Value,z.look id=some (.cells c2 e (0,0))/\c2.size=c.size:=by
     cases hzl:z.look id with
     | none=>rw[hzl]at h1;cases h1
     | some o =>
      rw[hzl]at h1;cases o<;>simp only[kx,J5.cells.injEq,reduceCtorEq]at h1
      obtain⟨rfl,h3,rfl⟩:=h1;exact⟨_,rfl,h3.symm⟩
    obtain⟨c2,hzl,hsz⟩:=hz2;have lz:∀ j,((z.put id (some (.cells (c2.setIfInBounds k v) e (0,0)))).touch id (some k) true).look j=if j=id then some (.cells (c2.setIfInBounds k v) e (0,0)) else z.look j:=by
     intro j
     by_cases ej:j=id
     ·subst ej;rw[if_pos rfl];exact St.bZ _ _ _ hlim
     ·rw[if_neg ej];exact St.bh _ _ _ _ ej
    refine⟨(z.put id (some (.cells (c2.setIfInBounds k v) e (0,0)))).touch id (some k) true,?_,hz,rfl,?_⟩
    ·dsimp only
     rw[hzl];show(if k<c2.size then _ else _)=_;rw[if_pos (by omega)]
    ·intro j
     refine⟨λh=>(nall j h).elim,λ_=>?_⟩;rw[lz j,lk j]
     by_cases ej:j=id
     ·subst ej
      rw[if_pos rfl,if_pos rfl,hzl];refine⟨by simp[kx],λm=>⟨λhm=>?_,λhm=>?_⟩⟩
      ·obtain⟨t,ht,_,_,hn⟩:=hm
       rw[List.mem_singleton]at ht;subst ht;cases hn;simp only[sj];rw[Array.getElem?_setIfInBounds,Array.getElem?_setIfInBounds,if_pos rfl,if_pos rfl,if_pos (by omega),if_pos hk]
      ·have hne:k≠m:=λe=>hm ⟨_,List.mem_singleton.2 rfl,rfl,rfl,by rw[e]⟩
       simp only[sj];rw[Array.getElem?_setIfInBounds,if_neg hne]
     ·rw[if_neg ej,if_neg ej]
      refine⟨rfl,λm=>⟨λ⟨t,ht,D5,_⟩=>?_,λ_=>rfl⟩⟩;rw[List.mem_singleton]at ht;subst ht;exact(ej D5.symm).elim
  ·cases h
 ·cases h
theorem Local.whole{α:Type}(id:Nat)(q:Option Obj->Option (α×Option Obj))(hlim:id<lim)(hn:q Option.none=Option.none) :
  Local (λs=>match q (s.look id) with | some (a,o)=>some (a,(s.put id o).touch id Option.none true) | Option.none=>Option.none):=by
 intro s r s1 h;dsimp only at h
 split at h
 ·rename_i a o K5
  cases h;have lk:∀ (z:St) j,((z.put id o).touch id Option.none true).look j=if j=id then o else z.look j:=by
   intro z j
   by_cases ej:j=id
   ·subst ej;rw[if_pos rfl];exact St.bZ _ _ _ hlim
   ·rw[if_neg ej];exact St.bh _ _ _ _ ej
  have K6:∀ j k,¬ mE [⟨id,Option.none,true⟩] j k:=λj k ⟨t,ht,_,_,hn⟩=>by rw[List.mem_singleton]at ht;subst ht;cases hn
  have nall:∀ j,j≠id->¬ iW [⟨id,Option.none,true⟩] j:=λj hj ⟨t,ht,D5,_⟩=>by rw[List.mem_singleton]at ht;subst ht;exact hj D5.symm
  refine⟨Nat.le_refl _,λhcl=>⟨[⟨id,Option.none,true⟩],rfl,?_,?_,?_⟩⟩
  ·intro j hj
   have ej:j≠id:=λe=>hj ⟨_,List.mem_singleton.2 rfl,e.symm,rfl,rfl⟩
   rw[lk s j,if_neg ej];exact⟨rfl,λ_ _=>rfl⟩
  ·intro t ht _
   rw[List.mem_singleton]at ht;subst ht;exact λhno=>by have hno:s.look id=Option.none:=hno;rw[hno,hn]at K5;cases K5
  ·intro z hz hag hzc
   have h0:s.look id=z.look id:=hag ⟨id,Option.none,true⟩ (List.mem_singleton.2 rfl) (λ⟨x,y⟩=>Nat.lt_irrefl _ (Nat.lt_of_le_of_lt x y));refine⟨(z.put id o).touch id Option.none true,?_,hz,rfl,?_⟩
   ·dsimp only
    rw[← h0,K5]
   ·intro j
    rw[lk z j,lk s j]
    by_cases ej:j=id
    ·subst ej
     rw[if_pos rfl,if_pos rfl];exact⟨λ_=>rfl,λhw=>(hw ⟨_,List.mem_singleton.2 rfl,rfl,rfl,rfl⟩).elim⟩
    ·rw[if_neg ej,if_neg ej]
     exact⟨λhw=>(nall j ej hw).elim,λ_=>⟨rfl,λk=>⟨λhk=>(K6 j k hk).elim,λ_=>rfl⟩⟩⟩
 ·cases h
theorem Local.new(d:Nat)(hd:d<4)(o:Obj):Local (λs=>if 4*s.next+d<lim then some (4*s.next+d,{ (s.put (4*s.next+d) (some o)).touch (4*s.next+d) Option.none true with next:=s.next+1 }) else Option.none):=by
 intro s r s1 h;dsimp only at h
 split at h
 ·rename_i hlim
  cases h;have lk:∀ (z:St) (n:Nat) j,(({ (z.put (4*s.next+d) (some o)).touch (4*s.next+d) Option.none true with next:=n } : St)).look j=if j=4*s.next+d then some o else z.look j:=by
   intro z n j
   by_cases ej:j=4*s.next+d
   ·rw[if_pos ej,ej];exact St.bZ _ _ _ hlim
   ·rw[if_neg ej];exact St.bh _ _ _ _ ej
  have K6:∀ j k,¬ mE [⟨4*s.next+d,Option.none,true⟩] j k:=λj k ⟨t,ht,_,_,hn⟩=>by rw[List.mem_singleton]at ht;subst ht;cases hn
  have nall:∀ j,j≠4*s.next+d->¬ iW [⟨4*s.next+d,Option.none,true⟩] j:=λj hj ⟨t,ht,D5,_⟩=>by rw[List.mem_singleton]at ht;subst ht;exact hj D5.symm
  refine⟨Nat.le_succ _,λhcl=>⟨[⟨4*s.next+d,Option.none,true⟩],rfl,?_,?_,?_⟩⟩
  ·intro j hj
   have ej:j≠4*s.next+d:=λe=>hj ⟨_,List.mem_singleton.2 rfl,e.symm,rfl,rfl⟩
   rw[lk s _ j,if_neg ej];exact⟨rfl,λ_ _=>rfl⟩
  ·intro t ht hold
   rw[List.mem_singleton]at ht;subst ht;exact absurd (show 4*s.next<=4*s.next+d/\4*s.next+d<4*(s.next+1) by omega) hold
  ·intro z hz hag hzc
   refine⟨{ (z.put (4*s.next+d) (some o)).touch (4*s.next+d) Option.none true with next:=s.next+1 },?_,rfl,rfl,?_⟩
   ·dsimp only
    rw[hz,if_pos hlim]
   ·intro j
    rw[lk z _ j,lk s _ j]
    by_cases ej:j=4*s.next+d
    ·rw[if_pos ej,if_pos ej]
     exact⟨λ_=>rfl,λhw=>(hw ⟨_,List.mem_singleton.2 rfl,ej.symm,rfl,rfl⟩).elim⟩
    ·rw[if_neg ej,if_neg ej]
     exact⟨λhw=>(nall j ej hw).elim,λ_=>⟨rfl,λk=>⟨λhk=>(K6 j k hk).elim,λ_=>rfl⟩⟩⟩
 ·cases h
end Go.Ev
namespace Go.Ev
open Go.RowKit
variable[bg]
def iX(r:Nat)(x:Option Obj):Option (Option (TypeId×Nat)) :=
 match iF r,x with
 | false,some (.cells c e (0,0))=>some (some (e,c.size))
 | _,_=>none
def qm(x:Option Obj):Option Bool :=
 match x with
 | some (.cells _ _ (0,0))=>some false
 | _=>none
def O1(x:Option Obj):Option Obj :=
 match x with
 | some (.map es n)=>some (.map es n)
 | some (.mapIter m n se st)=>some (.mapIter m n se st)
 | some (.stringIter st p)=>some (.stringIter st p)
 | some (.loop l)=>some (.loop l)
 | some (.deferred d)=>some (.deferred d)
 | _=>none
def O2(o:Obj)(x:Option Obj):Option (Unit×Option Obj) :=
 match x,o with
 | some (.map _ _),.map es n=>some ((),some (.map es n))
 | some (.mapIter _ _ _ _),.mapIter m n se st=>some ((),some (.mapIter m n se st))
 | some (.stringIter _ _),.stringIter st p=>some ((),some (.stringIter st p))
 | some (.loop _),.loop l=>some ((),some (.loop l))
 | some (.deferred _),.deferred d=>some ((),some (.deferred d))
 | _,_=>none
theorem jI{x y:Option Obj}{c:Array Value}{e:TypeId}{f:Nat×Nat}(h:kx x=kx y)(hx:x=some (.cells c e f)):∃ c',y=some (.cells c' e f)/\c'.size=c.size:=by
 subst hx;cases y with
 | none=>cases h
 | some o =>
  cases o<;>simp only[kx,J5.cells.injEq,reduceCtorEq]at h
  obtain⟨rfl,h3,rfl⟩:=h;exact⟨_,rfl,h3.symm⟩
theorem jJ{x y:Option Obj}{a:Addr}{n:Nat}(h:kx x=kx y)(hx:x=some (.view a n)):∃ a',y=some (.view a' n):=by
 subst hx;cases y with
 | none=>cases h
 | some o =>
  cases o<;>simp only[kx,J5.vw.injEq,reduceCtorEq]at h
  subst h;exact⟨_,rfl⟩
theorem iu{x y:Option Obj}(h:kx x=kx y)(hx:∀ c e f,x≠some (.cells c e f))(hx2:∀ a n,x≠some (.view a n)):y=x:=by
 have hy:∀ c e f,y≠some (.cells c e f):=by
  intro c e f hh;obtain⟨c',h2,_⟩:=jI h.symm hh;exact hx _ _ _ h2
 have hy2:∀ a n,y≠some (.view a n):=by
  intro a n hh;obtain⟨a',h2⟩:=jJ h.symm hh;exact hx2 _ _ h2
 have hc:∀ (z:Option Obj),(∀ c e f,z≠some (.cells c e f))->(∀ a n,z≠some (.view a n))->∀ k,sj z k=none:=by
  intro z hz hz2 k;cases z with
  | none=>rfl
  | some o =>
   cases o with
   | cells c e f=>exact(hz _ _ _ rfl).elim
   | view a n=>exact(hz2 _ _ rfl).elim
   | _=>rfl
 exact nV h.symm (λk=>by rw[hc y hy hy2,hc x hx hx2])
theorem Cs{r:Nat}{x y:Option Obj}(h:kx x=kx y):iX r y=iX r x:=by
 cases hg:iF r with
 | true=>simp[iX,hg]
 | false =>
  cases x with
  | none=>rw[dM (h.symm)]
  | some o =>
   cases o with
   | cells c e f =>
    obtain⟨c',rfl,hs⟩:=jI h rfl;obtain⟨f1,f2⟩:=f;unfold iX;rw[hg];cases f1<;>cases f2<;>simp[hs]
   | view a n =>
    obtain⟨a',rfl⟩:=jJ h rfl;simp[iX,hg]
   | _=>rw[iu h (by intro c e f hh;cases hh) (by intro a n hh;cases hh)]
def Ib:Option Obj->Nat->Option Value
 | some (.cells c _ _),k=>c[k]?
 | _,_=>none
theorem Ic{x y:Option Obj}{k:Nat}(h:kx x=kx y/\sj x k=sj y k):Ib y k=Ib x k:=by
 obtain⟨h,h2⟩:=h;cases x with
 | none=>rw[dM h.symm]
 | some o =>
  cases o with
  | cells c e f =>
   obtain⟨c',rfl,hs⟩:=jI h rfl;exact h2.symm
  | view a n =>
   obtain⟨a',rfl⟩:=jJ h rfl;rfl
  | _=>rw[iu h (by intro c e f hh;cases hh) (by intro a n hh;cases hh)]
theorem zx{x y:Option Obj}(h:kx x=kx y):qm y=qm x:=by
 cases x with
 | none=>rw[dM (h.symm)]
 | some o =>
  cases o with
  | cells c e f =>
   obtain⟨c',rfl,hs⟩:=jI h rfl;obtain⟨f1,f2⟩:=f;unfold qm;cases f1<;>cases f2<;>simp
  | view a n =>
   obtain⟨a',rfl⟩:=jJ h rfl;rfl
  | _=>rw[iu h (by intro c e f hh;cases hh) (by intro a n hh;cases hh)]
theorem cE{α:Type}(P:Program)(m:Sem α):Local (aw P m):=by
 induction m with
 | pure a=>exact Local.congr (λs=>rfl) (Local.pure a)
 | load md a k ih =>
  obtain⟨id,off,sp⟩:=a;cases sp with
  | some sp=>exact Local.congr (λs=>by simp only[aw]) Local.none
  | none =>
   refine Local.congr (λs=>?_) (Local.bind (Local.read id (some off) (λx=>Ib x off) (λx y h=>Ic h) rfl) ih);simp only[aw];cases hl:s.look id with
   | none=>rfl
   | some o =>
    cases o with
    | cells c e f =>
     simp only[Ib];cases c[off]? <;> rfl
    | _=>rfl
 | store md a v k ih =>
  obtain⟨id,off,sp⟩:=a;cases sp with
  | some sp=>exact Local.congr (λs=>by simp only[aw];cases oneCell v<;>rfl) Local.none
  | none =>
   cases h1:oneCell v with
   | false=>exact Local.congr (λs=>by simp only[aw,h1]) Local.none
   | true =>
    by_cases hlim:id<lim
    ·refine Local.congr (λs=>?_) (Local.bind (Local.cell id off v hlim) (λ_=>ih))
     simp only[aw,h1];cases hl:s.look id with
     | none=>rfl
     | some o =>
      cases o with
      | cells c e f =>
       obtain⟨f1,f2⟩:=f;cases f1<;>cases f2<;>first | rfl | skip
       by_cases hk:off<c.size
       ·simp[hk,hlim]
       ·simp[hk]
      | _=>rfl
    ·refine Local.congr (λs=>?_) Local.none
     simp only[aw,h1]
     split
     ·rw[if_neg (λh=>hlim h.2)]
     ·rfl
 | new o k ih =>
  have mk:(∀ s:St,aw P (.new o k) s=if 4*s.next<lim then aw P (k (4*s.next)) { (s.put (4*s.next) (some o)).touch (4*s.next) none true with next:=s.next+1 } else none)->Local (aw P (.new o k)):=by
   intro h;refine Local.congr (λs=>?_) (Local.bind (Local.new 0 (by omega) o) ih);rw[h s];dsimp only[Nat.add_zero]
   split<;>rfl
  cases o with
  | cells c e f =>
   obtain⟨f1,f2⟩:=f;cases f1 with
   | zero =>
    cases f2 with
    | zero=>exact mk (λs=>by simp only[aw])
    | succ n=>exact Local.congr (λs=>by simp only[aw];split<;>rfl) Local.none
   | succ n=>exact Local.congr (λs=>by simp only[aw];split<;>rfl) Local.none
  | map es n=>exact mk (λs=>by simp only[aw])
  | mapIter m n se st=>exact mk (λs=>by simp only[aw])
  | stringIter st p=>exact mk (λs=>by simp only[aw])
  | loop l=>exact mk (λs=>by simp only[aw])
  | deferred d=>exact mk (λs=>by simp only[aw])
  | _=>exact Local.congr (λs=>by simp only[aw];split<;>rfl) Local.none
 | shape r k ih =>
  refine Local.congr (λs=>?_) (Local.bind (Local.read r (some 0) (iX r) (λx y h=>Cs h.1) (by unfold iX;split<;>first | rfl | (rename_i h;cases h))) ih);simp only[aw];cases hg:iF r with
  | true=>simp[iX,hg]
  | false =>
   cases hl:s.look r with
   | none=>simp[iX,hg]
   | some o =>
    cases o with
    | cells c e f =>
     obtain⟨f1,f2⟩:=f;cases f1<;>cases f2<;>simp[iX,hg]
    | _=>simp[iX,hg]
 | freeze a n k ih=>exact Local.congr (λs=>rfl) Local.none
 | frozen a k ih =>
  refine Local.congr (λs=>?_) (Local.bind (Local.read a.block (some 0) qm (λx y h=>zx h.1) rfl) ih);simp only[aw];cases hl:s.look a.block with
  | none=>rfl
  | some o =>
   cases o with
   | cells c e f =>
    obtain⟨f1,f2⟩:=f;cases f1<;>cases f2<;>rfl
   | _=>rfl
 | getObj r k ih =>
  refine Local.congr (λs=>?_) (Local.bind (Local.read r none O1 (λx y h=>by rw[show x=y from h]) rfl) ih);simp only[aw];cases hl:s.look r with
  | none=>rfl
  | some o=>cases o<;>rfl
 | setObj r o k ih =>
  by_cases hlim:r<lim
  ·refine Local.congr (λs=>?_) (Local.bind (Local.whole r (O2 o) hlim (by cases o<;>rfl)) (λ_=>ih))
   simp only[aw,hlim,if_true];cases hl:s.look r with
   | none=>cases o<;>rfl
   | some x=>cases x<;>cases o<;>rfl
  ·refine Local.congr (λs=>?_) Local.none
   simp only[aw]
   split
   ·rw[if_neg hlim]
   ·rw[if_neg hlim]
   ·rw[if_neg hlim]
   ·rw[if_neg hlim]
   ·rw[if_neg hlim]
   ·rfl
 | choose q k ih =>
  cases hq:q.forced with
  | true=>exact Local.congr (λs=>by simp only[aw,hq,if_true]) (ih 0)
  | false=>exact Local.congr (λs=>by simp[aw,hq]) Local.none
 | sys c k ih=>exact Local.congr (λs=>rfl) Local.none
 | program k ih=>exact Local.congr (λs=>rfl) (ih P)
 | mark m k ih=>exact Local.congr (λs=>rfl) ih
 | halt h=>exact Local.congr (λs=>rfl) Local.none
end Go.Ev
namespace Go.Ev
open Go.RowKit
variable[bg]
theorem Local.map{α β:Type}{f:St->Option (α×St)}(hf:Local f)(g:α->β):Local (λs=>(f s).map λ(a,s1)=>(g a,s1)):=by
 refine Local.congr (λs=>?_) (Local.bind hf (λa=>Local.pure (g a)));dsimp only;cases f s with
 | none=>rfl
 | some x=>rfl
theorem Local.ite{α:Type}(c:Bool){f:St->Option (α×St)}(hf:Local f):Local (λs=>if c=true then f s else Option.none):=by
 cases c with
 | false=>exact Local.congr (λs=>by simp) Local.none
 | true=>exact Local.congr (λs=>by simp) hf
theorem fR{f:St->Option (Value×St)}(hf:Local f):Local (λs=>sv (f s)):=Local.map hf Next.value
theorem D6{α:Type}{f:St->Option (α×St)}(hf:Local f):Local (λs=>su (f s)):=Local.map hf (λ_=>Next.skip)
def O4(x:Option Obj):Option (Array MapEntry×Nat) :=
 match x with
 | some (.map es n)=>some (es,n)
 | _=>none
theorem sX(P:Program)(t:TypeId)(m k:Value)(ok:Bool):Local (λs=>ji P s t m k ok):=by
 unfold ji;cases hT:o6 P t with
 | none=>exact Local.congr (λs=>by simp[hT]) Local.none
 | some x =>
  obtain⟨kt,d,et⟩:=x;cases hk:jy k with
  | false=>exact Local.congr (λs=>by simp[hT,hk]) Local.none
  | true =>
   have fin:∀ es:Array MapEntry,Local (λs1=>match Instr.findNow d k es.toList 0 with
     | some (some (_,v))=>some (if ok then Value.tuple #[v,.bool true] else v,s1)
     | some none =>
      match P.info? et with
      | some i=>(match i.zero with | some z=>if bW 6 z then some (if ok then Value.tuple #[z,.bool false] else z,s1) else none | none=>none)
      | none=>none
     | none=>none):=by
    intro es;cases Instr.findNow d k es.toList 0 with
    | none=>exact Local.none
    | some r =>
     cases r with
     | some p=>exact Local.pure _
     | none =>
      dsimp only;cases P.info? et with
      | none=>exact Local.none
      | some i =>
       dsimp only;cases i.zero with
       | none=>exact Local.none
       | some z =>
        dsimp only;exact Local.ite _ (Local.pure _)
   cases m with
   | map r =>
    cases r with
    | none=>exact Local.congr (λs=>rfl) (fin #[])
    | some r =>
     refine Local.congr (λs=>?_) (Local.bind (Local.read r none O4 (λx y h=>by rw[show x=y from h]) rfl) (λp=>fin p.1));dsimp only[entriesOf];cases hl:s.look r with
     | none=>rfl
     | some o=>cases o<;>rfl
   | _=>exact Local.congr (λs=>rfl) Local.none
def O5(P:Program)(t:TypeId)(k v:Value)(x:Option Obj):Option (Unit×Option Obj) :=
 match o6 P t,x with
 | some (_,d,_),some (.map es n) =>
  match Instr.findNow d k es.toList 0 with
  | some (some (i,_))=>if Instr.sameBits 10000 (((es[i]?).map (·.key)).getD k) k then some ((),some (.map (es.modify i λe=>{ e with key:=k,val:=v }) n)) else none
  | some none=>some ((),some (.map (es.push { key:=k,val:=v,born:=n }) (n+1)))
  | none=>none
 | _,_=>none
def K7(P:Program)(t:TypeId)(k:Value)(x:Option Obj):Option (Unit×Option Obj) :=
 match o6 P t,x with
 | some (_,d,_),some (.map es n) =>
  match Instr.findNow d k es.toList 0 with
  | some (some (i,_))=>some ((),some (.map (es.eraseIdxIfInBounds i) n))
  | some none=>some ((),some (.map es n))
  | none=>none
 | _,_=>none
theorem sY(P:Program)(t:TypeId)(m k v:Value):Local (λs=>(ek P s t m k v).map λs1=>((),s1)):=by
 cases hT:o6 P t with
 | none=>exact Local.congr (λs=>by simp[ek,hT]) Local.none
 | some x =>
  obtain⟨kt,d,et⟩:=x;cases hk:jy k with
  | false=>exact Local.congr (λs=>by simp[ek,hT,hk]) Local.none
  | true =>
   cases m with
   | map r =>
    cases r with
    | none=>exact Local.congr (λs=>by simp[ek,hT,hk]) Local.none
    | some r =>
     by_cases hlim:r<lim
     ·refine Local.congr (λs=>?_) (Local.whole r (O5 P t k v) hlim (by simp[O5,hT]))
      simp only[ek,hT,hk,O5];cases hl:s.look r with
      | none=>rfl
      | some o =>
       cases o with
       | map es n =>
        simp only[hlim,if_true];cases Instr.findNow d k es.toList 0 with
        | none=>rfl
        | some q =>
         cases q with
         | none=>rfl
         | some p =>
          dsimp only
          split<;>rfl
       | _=>rfl
     ·refine Local.congr (λs=>?_) Local.none
      simp only[ek,hT,hk,hlim,if_false];cases hl:s.look r with
      | none=>rfl
      | some o=>cases o<;>rfl
   | _=>exact Local.congr (λs=>by simp[ek,hT,hk]) Local.none
def K8(P:Program)(t:TypeId)(k:Value)(x:Option Obj):Option (Value×Option Obj) :=
 match o6 P t,x with
 | some (_,d,et),some (.map es n) =>
  match Instr.findNow d k es.toList 0 with
  | some (some (i,v))=>if Instr.sameBits 10000 (((es[i]?).map (·.key)).getD k) k then some (.tuple #[v,goInt (((es[i]?).map (·.born)).getD 0)],some (.map (es.modify i λe=>{ e with key:=k }) n)) else none
  | some none =>
   match P.info? et with
   | some i=>(match i.zero with | some z=>if bW 6 z then some (.tuple #[z,goInt n],some (.map (es.push { key:=k,val:=z,born:=n }) (n+1))) else none | none=>none)
   | none=>none
  | none=>none
 | _,_=>none
theorem uY(P:Program)(t:TypeId)(m k:Value):Local (λs=>gi P s t m k):=by
 cases hT:o6 P t with
 | none=>exact Local.congr (λs=>by simp[gi,hT]) Local.none
 | some x =>
  obtain⟨kt,d,et⟩:=x;cases hk:jy k with
  | false=>exact Local.congr (λs=>by simp[gi,hT,hk]) Local.none
  | true =>
   cases m with
   | map r =>
    cases r with
    | none=>exact Local.congr (λs=>by simp[gi,hT,hk]) Local.none
    | some r =>
     by_cases hlim:r<lim
     ·refine Local.congr (λs=>?_) (Local.whole r (K8 P t k) hlim (by simp[K8,hT]))
      simp only[gi,hT,hk,K8];cases hl:s.look r with
      | none=>rfl
      | some o =>
       cases o with
       | map es n =>
        simp only[hlim,if_true];cases Instr.findNow d k es.toList 0 with
        | none=>rfl
        | some q =>
         cases q with
         | none =>
          dsimp only;cases P.info? et with
          | none=>rfl
          | some i =>
           dsimp only;cases i.zero with
           | none=>rfl
           | some z =>
            dsimp only
            split<;>rfl
         | some p =>
          dsimp only
          split<;>rfl
       | _=>rfl
     ·refine Local.congr (λs=>?_) Local.none
      simp only[gi,hT,hk,hlim,if_false];cases hl:s.look r with
      | none=>rfl
      | some o=>cases o<;>rfl
   | _=>exact Local.congr (λs=>by simp[gi,hT,hk]) Local.none
def K9(b:Int)(v:Value)(x:Option Obj):Option (Unit×Option Obj) :=
 match x with
 | some (.map es n) =>
  match es.findIdx? (λe=>(e.born:Int)==b) with
  | some i=>some ((),some (.map (es.modify i λe=>{ e with val:=v }) n))
  | none=>none
 | _=>none
theorem uZ(m st v:Value):Local (λs=>(g7 s m st v).map λs1=>((),s1)):=by
 cases m with
 | map r =>
  cases r with
  | none=>exact Local.congr (λs=>by simp[g7]) Local.none
  | some r =>
   cases st with
   | int ik b =>
    by_cases hlim:r<lim
    ·refine Local.congr (λs=>?_) (Local.whole r (K9 b v) hlim (by simp[K9]))
     simp only[g7,K9];cases hl:s.look r with
     | none=>rfl
     | some o =>
      cases o with
      | map es n =>
       simp only[hlim,if_true];cases es.findIdx? (λe=>(e.born:Int)==b) with
       | none=>rfl
       | some i=>rfl
      | _=>rfl
    ·refine Local.congr (λs=>?_) Local.none
     simp only[g7,hlim,if_false];cases hl:s.look r with
     | none=>rfl
     | some o=>cases o<;>rfl
   | _=>exact Local.congr (λs=>by simp[g7]) Local.none
 | _=>exact Local.congr (λs=>by simp[g7]) Local.none
theorem sZ(P:Program)(t:TypeId)(m k:Value):Local (λs=>(eW P s t m k).map λs1=>((),s1)):=by
 cases hT:o6 P t with
 | none=>exact Local.congr (λs=>by simp[eW,hT]) Local.none
 | some x =>
  obtain⟨kt,d,et⟩:=x;cases hk:jy k with
  | false=>exact Local.congr (λs=>by simp[eW,hT,hk]) Local.none
  | true =>
   cases m with
   | map r =>
    cases r with
    | none=>exact Local.congr (λs=>by simp[eW,hT,hk]) Local.none
    | some r =>
     by_cases hlim:r<lim
     ·refine Local.congr (λs=>?_) (Local.whole r (K7 P t k) hlim (by simp[K7,hT]))
      simp only[eW,hT,hk,K7];cases hl:s.look r with
      | none=>rfl
      | some o =>
       cases o with
       | map es n =>
        simp only[hlim,if_true];cases Instr.findNow d k es.toList 0 with
        | none=>rfl
        | some q =>
         cases q with
         | none=>rfl
         | some p=>rfl
       | _=>rfl
     ·refine Local.congr (λs=>?_) Local.none
      simp only[eW,hT,hk,hlim,if_false];cases hl:s.look r with
      | none=>rfl
      | some o=>cases o<;>rfl
   | _=>exact Local.congr (λs=>by simp[eW,hT,hk]) Local.none
def lE(sz:Nat)(x:Value)(s:St):Option (Array Value×St) :=
 match bO s sz x with
 | some (c,l)=>some (c,{ s with log:=l++s.log })
 | none=>none
def M1(off n sz:Nat)(x:Option Obj):Option (Array Value) :=
 match x with
 | some (.cells a _ _)=>if off+n*sz<=a.size/\(a.extract off (off+n*sz)).toList.all oneCell=true then some (a.extract off (off+n*sz)) else none
 | _=>none
theorem lF(sz:Nat)(x:Value):Local (lE sz x):=by
 cases x with
 | slice a n c =>
  cases a with
  | none =>
   match n,c with
   | 0,0=>exact Local.congr (λs=>rfl) (Local.pure #[])
   | 0,c+1=>exact Local.congr (λs=>rfl) Local.none
   | n+1,c=>exact Local.congr (λs=>rfl) Local.none
  | some a =>
   obtain⟨id,off,sp⟩:=a;cases sp with
   | some q=>exact Local.congr (λs=>rfl) Local.none
   | none =>
    refine Local.congr (λs=>?_) (Local.read id none (M1 off n sz) (λx y h=>by rw[show x=y from h]) rfl);simp only[lE,bO,M1];cases hl:s.look id with
    | none=>rfl
    | some o =>
     cases o with
     | cells a e f =>
      by_cases hc:off+n*sz<=a.size/\(a.extract off (off+n*sz)).toList.all oneCell=true
      ·simp only[hc,and_self,if_true];rfl
      ·simp only[hc,if_false]
     | _=>rfl
 | string b =>
  by_cases h:sz=1
  ·refine Local.congr (λs=>?_) (Local.pure (byteCells b).toArray)
   simp[lE,bO,h]
  ·refine Local.congr (λs=>?_) Local.none
   simp[lE,bO,h]
 | _=>exact Local.congr (λs=>rfl) Local.none
def qT(e:TypeId)(x:Option Obj):Option (Unit×Option Obj) :=
 match x with
 | some (.cells _ e0 _)=>if e0=e then some ((),none) else none
 | _=>none
def o_(e:TypeId)(k:Nat)(c:Array Value)(s:St):Option (Value×St) :=
 if 4*s.next+1<lim then some (.slice (some ⟨4*s.next+1,0,none⟩) k k,{ (s.put (4*s.next+1) (some (.cells c e (0,0)))).touch (4*s.next+1) none true with next:=s.next+1 }) else none
theorem nW(e:TypeId)(k:Nat)(c:Array Value):Local (o_ e k c):=by
 refine Local.congr (λs=>?_) (Local.map (Local.new 1 (by omega) (.cells c e (0,0))) (λid=>Value.slice (some ⟨id,0,none⟩) k k));unfold o_;dsimp only
 split<;>rfl
def u5(e:TypeId)(id:Nat)(s:St):Option (Unit×St) :=
 match qT e (s.look id) with
 | some (a,o)=>some (a,(s.put id o).touch id none true)
 | none=>none
def pf(e:TypeId)(k:Nat)(dr:Option Nat)(c:Array Value)(s:St):Option (Value×St) :=
 match dr with
 | none=>o_ e k c s
 | some id =>
  if id<lim then
   match u5 e id s with
   | some (_,s1)=>o_ e k c s1
   | none=>none
  else none
theorem u6(e:TypeId)(k:Nat)(dr:Option Nat)(c:Array Value):Local (pf e k dr c):=by
 cases dr with
 | none=>exact nW _ _ _
 | some id =>
  by_cases hlim:id<lim
  ·refine Local.congr (λs=>?_) (Local.bind (Local.whole id (qT e) hlim rfl) (λ_=>nW e k c))
   simp only[pf,u5,hlim,if_true];cases qT e (s.look id)<;>rfl
  ·exact Local.congr (λs=>by simp only[pf,hlim,if_false]) Local.none
def qU(e:TypeId)(sz k:Nat)(src:Value)(dr:Option Nat)(olds:Array Value)(s:St):Option (Value×St) :=
 match lE sz src s with
 | some (news,s2)=>pf e k dr (olds++news) s2
 | none=>none
theorem u7(e:TypeId)(sz k:Nat)(src:Value)(dr:Option Nat)(olds:Array Value):Local (qU e sz k src dr olds) :=
 Local.congr (λs=>by unfold qU;cases lE sz src s<;>rfl) (Local.bind (lF sz src) (λnews=>u6 e k dr (olds++news)))
def jK(e:TypeId)(sz k:Nat)(dst src:Value)(dr:Option Nat)(s:St):Option (Value×St) :=
 match lE sz dst s with
 | some (olds,s1)=>qU e sz k src dr olds s1
 | none=>none
theorem iY(e:TypeId)(sz k:Nat)(dst src:Value)(dr:Option Nat):Local (jK e sz k dst src dr) :=
 Local.congr (λs=>by unfold jK;cases lE sz dst s<;>rfl) (Local.bind (lF sz dst) (λolds=>u7 e sz k src dr olds))
end Go.Ev
namespace Go.Ev
open Go.RowKit
variable[bg]
theorem xb(sz:Nat)(x:Value)(s:St)(l:List Touch):lE sz x { s with log:=l }=match bO s sz x with | some (c,l1)=>some (c,{ s with log:=l1++l }) | none=>none:=rfl
theorem mM(e:TypeId)(sz k:Nat)(dst src:Value)(s:St):jK e sz k dst src none s =
  if 4*s.next+1<lim then
   match bO s sz src,bO s sz dst with
   | some (news,l1),some (olds,l2)=>some (.slice (some ⟨4*s.next+1,0,none⟩) k k,{ s.put (4*s.next+1) (some (.cells (olds++news) e (0,0))) with next:=s.next+1,log:=⟨4*s.next+1,none,true⟩::(l1++(l2++s.log)) })
   | _,_=>none
  else none:=by
 unfold jK lE;cases hd:bO s sz dst with
 | none =>
  cases hs:bO s sz src<;>simp
 | some x =>
  obtain⟨olds,l2⟩:=x;dsimp only;unfold qU;rw[xb];cases hs:bO s sz src with
  | none=>simp
  | some y =>
   obtain⟨news,l1⟩:=y;dsimp only[pf,o_];rfl
theorem s9(e:TypeId)(sz k id:Nat)(dst src:Value)(s:St):jK e sz k dst src (some id) s =
  if 4*s.next+1<lim then
   match bO s sz src,bO s sz dst with
   | some (news,l1),some (olds,l2) =>
    (match s.look id with
     | some (.cells _ e0 _)=>if e0=e/\id<lim then some (.slice (some ⟨4*s.next+1,0,none⟩) k k,{ (s.put id none).put (4*s.next+1) (some (.cells (olds++news) e (0,0))) with next:=s.next+1,log:=⟨4*s.next+1,none,true⟩::⟨id,none,true⟩::(l1++(l2++s.log)) }) else none
     | _=>none)
   | _,_=>none
  else none:=by
 unfold jK lE;cases hd:bO s sz dst with
 | none =>
  cases hs:bO s sz src<;>simp
 | some x =>
  obtain⟨olds,l2⟩:=x;dsimp only;unfold qU;rw[xb];cases hs:bO s sz src with
  | none=>simp
  | some y =>
   obtain⟨news,l1⟩:=y;dsimp only[pf,u5];have hlk:({ s with log:=l1++(l2++s.log) } : St).look id=s.look id:=rfl;rw[hlk]
   by_cases hlim:id<lim
   ·rw[if_pos hlim]
    cases hl:s.look id with
    | none=>simp[qT]
    | some o =>
     cases o with
     | cells c e0 f =>
      by_cases he:e0=e
      ·subst he
       simp only[qT,if_true,hlim,and_self,o_];rfl
      ·simp[qT,he]
     | _=>simp[qT]
   ·rw[if_neg hlim]
    cases hl:s.look id with
    | none=>simp
    | some o=>cases o<;>simp[hlim]
theorem tf(P:Program)(t u:TypeId)(dst src:Value):Local (λs=>cS P s t u dst src):=by
 cases hu:P.underlying t with
 | none=>exact Local.congr (λs=>by simp[cS,hu]) Local.none
 | some d =>
  cases d with
  | slice e =>
   cases hm:eM src with
   | none=>exact Local.congr (λs=>by simp[cS,hu,hm]) Local.none
   | some m =>
    cases dst with
    | slice ba n c =>
     cases hi:P.info? e with
     | none=>exact Local.congr (λs=>by simp[cS,hu,hm,hi]) Local.none
     | some i =>
      cases hz:i.zero with
      | none=>exact Local.congr (λs=>by simp[cS,hu,hm,hi,hz]) Local.none
      | some z =>
       by_cases hk:(∃ x,P.underlying u=some (.slice x))\/P.underlying u=some .string
       case neg =>
        refine Local.congr (λs=>?_) Local.none;cases hU:P.underlying u with
        | none=>simp only[cS,hu,hm,hi,hz,hU]
        | some d =>
         cases d with
         | slice x=>exact absurd (Or.inl ⟨x,hU⟩) hk
         | string=>exact absurd (Or.inr hU) hk
         | _=>simp only[cS,hu,hm,hi,hz,hU]
       case pos =>
        by_cases hm0:m=0
        ·exact Local.congr (λs=>by rcases hk with ⟨x,hU⟩ | hU<;>simp only[cS,hu,hm,hi,hz,hU,hm0,if_true]) (Local.pure (Value.slice ba n c))
        ·by_cases hst:(n+m)*i.bytes<=140737488355328/\n+m<=1000000000/\0<i.size/\z.cells.size=i.size/\(n=0\/ba.isSome=true)
         ·obtain⟨c1,c2,c3,c4,c5⟩:=hst
          have hcond:∀ s:St,((n+m)*i.bytes<=140737488355328/\n+m<=1000000000/\4*s.next+1<lim/\0<i.size/\z.cells.size=i.size/\(n=0\/ba.isSome=true))↔4*s.next+1<lim:=λs=>⟨λh=>h.2.2.1,λh=>⟨c1,c2,h,c3,c4,c5⟩⟩
          cases ba with
          | none =>
           refine Local.congr (λs=>?_) (iY e i.size (n+m) (.slice none n c) src none);rw[mM];rcases hk with ⟨x,hU⟩ | hU<;>simp only[cS,hu,hm,hi,hz,hU,hm0,if_false,hcond s]
           all_goals (split<;>first | rfl | (rcases bO s i.size src with _ | ⟨_,_⟩<;>rcases bO s i.size (.slice none n c) with _ | ⟨_,_⟩<;>rfl))
          | some a =>
           obtain⟨id,off,sp⟩:=a;cases hg:iF id with
           | true =>
            cases off with
            | zero =>
             refine Local.congr (λs=>?_) (iY e i.size (n+m) (.slice (some ⟨id,0,sp⟩) n c) src (some id));rw[s9];rcases hk with ⟨x,hU⟩ | hU<;>simp only[cS,hu,hm,hi,hz,hU,hm0,if_false,hcond s,hg,if_true]
             all_goals (split<;>first | rfl | (rcases bO s i.size src with _ | ⟨_,_⟩<;>rcases bO s i.size (.slice (some ⟨id,0,sp⟩) n c) with _ | ⟨_,_⟩<;>rcases s.look id with _ | o<;>first | rfl | (cases o<;>rfl)))
            | succ off =>
             refine Local.congr (λs=>?_) Local.none;rcases hk with ⟨x,hU⟩ | hU<;>simp only[cS,hu,hm,hi,hz,hU,hm0,if_false,hcond s,hg,if_true]
             all_goals split
             all_goals first | rfl | (split<;>rfl)
           | false =>
            by_cases hc:c<n+m
            ·refine Local.congr (λs=>?_) (iY e i.size (n+m) (.slice (some ⟨id,off,sp⟩) n c) src none)
             rw[mM];rcases hk with ⟨x,hU⟩ | hU<;>simp only[cS,hu,hm,hi,hz,hU,hm0,if_false,hcond s,hg,hc,if_true,Bool.false_eq_true]
             all_goals (split<;>first | rfl | (rcases bO s i.size src with _ | ⟨_,_⟩<;>rcases bO s i.size (.slice (some ⟨id,off,sp⟩) n c) with _ | ⟨_,_⟩<;>rfl))
            ·refine Local.congr (λs=>?_) Local.none
             rcases hk with ⟨x,hU⟩ | hU<;>simp only[cS,hu,hm,hi,hz,hU,hm0,if_false,hcond s,hg,hc,Bool.false_eq_true]
             all_goals split
             all_goals first | rfl | (split<;>rfl)
         ·refine Local.congr (λs=>?_) Local.none
          rcases hk with ⟨x,hU⟩ | hU<;>simp only[cS,hu,hm,hi,hz,hU,hm0,if_false]
          all_goals rw[if_neg (λh=>hst ⟨h.1,h.2.1,h.2.2.2⟩)]
    | _=>exact Local.congr (λs=>by simp[cS,hu,hm]) Local.none
  | _=>exact Local.congr (λs=>by simp[cS,hu]) Local.none
end Go.Ev
namespace Go.Ev
open Go.RowKit
variable[bg]
theorem Local.jC{α:Type}(c:Prop)[Decidable c]{f:St->Option (α×St)}(hf:Local f):Local (λs=>if c then f s else Option.none):=by
 by_cases h:c
 ·exact Local.congr (λs=>by rw[if_pos h]) hf
 ·exact Local.congr (λs=>by rw[if_neg h]) Local.none
theorem ky{β:Type}{f:St->Option St}(hf:Local (λs=>(f s).map λs1=>((),s1)))(v:β):Local (λs=>(f s).map λs1=>(v,s1)):=by
 refine Local.congr (λs=>?_) (Local.map hf (λ_=>v));cases f s<;>rfl
theorem xc(P:Program)(a:Act)(o:Oper):Local (fQ P a o):=by
 unfold fQ;refine Local.jC _ ?_;cases hq:iT P (execOp a.eval o) with
 | none=>exact Local.congr (λs=>by simp[hq]) Local.none
 | some n =>
  cases n with
  | value v=>exact Local.congr (λs=>by simp[hq]) (Local.jC (bW 5 v=true) (Local.pure (Next.value v)))
  | _=>exact Local.congr (λs=>by simp[hq]) Local.none
theorem xd(P:Program)(a:Act)(o:Oper):(∃ n,∀ s,fQ P a o s=some (n,s))\/∀ s,fQ P a o s=none:=by
 unfold fQ
 split
 ·cases hq:iT P (execOp a.eval o) with
  | none=>exact .inr (λs=>rfl)
  | some n =>
   cases n with
   | value v =>
    by_cases hv:bW 5 v=true
    ·exact .inl ⟨.value v,λs=>by simp[hv]⟩
    ·exact .inr (λs=>by simp[hv])
   | _=>exact .inr (λs=>rfl)
 ·exact .inr (λs=>rfl)
theorem nX{P:Program}{a:Act}{o:Oper}{g:St->Option (Next×St)}(hg:Local g):Local (λs=>match fQ P a o s with | some r=>some r | none=>g s):=by
 rcases xd P a o with ⟨n,h⟩ | h
 ·exact Local.congr (λs=>by simp only[h s]) (Local.pure n)
 ·exact Local.congr (λs=>by simp only[h s]) hg
theorem xe(P:Program)(a:Act)(c:Call)(ty:TypeId):Local (mJ P a c ty):=by
 unfold mJ;refine Local.jC _ ?_;cases hc:c.callee with
 | value f =>
  dsimp only
  split
  ·exact Local.jC _ (Local.pure _)
  ·exact Local.jC _ (cE P _)
  ·exact Local.none
 | invoke r name =>
  dsimp only
  split
  ·split
   ·exact Local.jC _ (Local.pure _)
   ·exact Local.none
  ·exact Local.none
 | builtin b =>
  dsimp only
  split
  ·exact fR (cE P _)
  ·exact Local.jC _ (fR (cE P _))
  ·split
   ·exact fR (cE P _)
   ·exact fR (tf P _ _ _ _)
  ·exact fR (cE P _)
  ·exact ky (sZ P _ _ _) _
  ·exact Local.none
theorem xg(P:Program)(m:Sem Value):Local (λs=>match aw P m s with | some (v,s1)=>if nL v=true then some (Next.value v,s1) else none | none=>none):=by
 refine Local.congr (λs=>?_) (Local.bind (cE P m) (λv=>Local.jC (nL v=true) (Local.pure (Next.value v))));cases aw P m s with
 | none=>rfl
 | some x=>rfl
theorem pg{α β:Type}(c:Option α)(f:α->β):Local (λs=>c.map λr=>(f r,s)):=by
 cases c with
 | none=>exact Local.none
 | some a=>exact Local.pure (f a)
theorem zy(P:Program)(t u:TypeId)(x:Value):Local (zt P t u x):=by
 unfold zt
 split
 ·exact pg _ _
 ·exact Local.none
theorem lG(P:Program)(a:Act)(o:Oper):Local (bf P a o):=by
 unfold bf
 split
 all_goals first
  | exact Local.jC _ (Local.pure _)
  | exact Local.none
  | exact xc P a o
  | exact Local.jC _ (fR (cE P _))
  | exact Local.jC _ (D6 (cE P _))
  | exact fR (cE P _)
  | exact Local.jC _ (fR (sX P _ _ _ _))
  | exact Local.jC _ (ky (sY P _ _ _ _) _)
  | exact Local.jC _ (fR (uY P _ _ _))
  | exact Local.jC _ (ky (uZ _ _ _) _)
  | exact nX (xe P a _ _)
  | skip
 ·refine Local.jC _ ?_
  split
  ·exact Local.pure _
  ·exact Local.none
 ·refine Local.jC _ ?_
  split
  ·exact Local.pure _
  ·exact Local.pure _
  ·exact Local.pure _
  ·exact Local.none
 ·refine nX (Local.jC _ ?_)
  split
  ·split
   ·exact Local.pure _
   ·exact Local.pure _
   ·exact Local.none
  ·exact pg _ _
 ·exact nX (Local.jC _ (pg _ _))
 ·exact nX (Local.jC _ (zy P _ _ _))
 ·refine Local.jC _ ?_
  exact xg P _
end Go.Ev
