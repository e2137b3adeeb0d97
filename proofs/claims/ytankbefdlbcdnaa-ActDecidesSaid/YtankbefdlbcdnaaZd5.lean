/- Part of a proof: see the last text. -/
import Derived.Test.YtankbefdlbcdnaaZd4
set_option linter.unusedSectionVars false
set_option linter.unusedSimpArgs false
set_option linter.unusedVariables false
namespace Go.Ev
open Go.RowKit
variable[aL]
inductive GG where
 | no
 | cells (e:TypeId) (n:Nat) (f:Nat×Nat)
 | vw (n:Nat)
 | obj (o:Obj)
def iU:Option Obj->GG
 | none=>.no
 | some (.cells c e f)=>.cells e c.size f
 | some (.view _ n)=>.vw n
 | some o=>.obj o
def p7:Option Obj->Nat->Option Value
 | some (.cells c _ _),k=>c[k]?
 | some (.view a _),k=>if k=1 then some (.pointer (some a)) else none
 | _,_=>none
theorem lZ{x y:Option Obj}(h:iU x=iU y)(hc:∀ k,p7 x k=p7 y k):x=y:=by
 cases x with
 | none =>
  cases y with
  | none=>rfl
  | some y=>cases y<;>simp[iU]at h
 | some x =>
  cases y with
  | none=>cases x<;>simp[iU]at h
  | some y =>
   cases x<;>cases y<;>simp only[iU,GG.cells.injEq,GG.obj.injEq,GG.vw.injEq,reduceCtorEq]at h
   case view.view a n a' n' =>
    subst h;have:=hc 1;simp only[p7,if_true,Option.some.injEq,Value.pointer.injEq]at this;rw[this]
   case cells.cells c e f c' e' f' =>
    obtain⟨rfl,hs,rfl⟩:=h;have:c=c':=by
     apply Array.ext hs;intro i h1 h2;have:=hc i;simp only[p7,Array.getElem?_eq_getElem h1,Array.getElem?_eq_getElem h2,Option.some.injEq]at this;exact this
    rw[this]
   all_goals first | (cases h;rfl) | exact congrArg some h | skip
def gn(L:List Touch)(id:Nat):Prop:=∃ t ∈ L,t.id=id/\t.wr=true/\t.at_=none
def kq(L:List Touch)(id k:Nat):Prop:=∃ t ∈ L,t.id=id/\t.wr=true/\t.at_=some k
def Br(t:Touch)(x y:Option Obj):Prop :=
 match t.at_ with
 | none=>x=y
 | some k=>iU x=iU y/\p7 x k=p7 y k
def I3(L:List Touch)(s s1:St):Prop:=∀ id,¬ gn L id->iU (s1.look id)=iU (s.look id)/\∀ k,¬ kq L id k->p7 (s1.look id) k=p7 (s.look id) k
def GH(L:List Touch)(s1 s2 s3:St):Prop:=∀ id,(gn L id->s3.look id=s1.look id)/\(¬ gn L id->iU (s3.look id)=iU (s2.look id)/\∀ k,(kq L id k->p7 (s3.look id) k=p7 (s1.look id) k)/\(¬ kq L id k->p7 (s3.look id) k=p7 (s2.look id) k))
def kG(s:St)(n m:Nat):Prop:=∀ id,4*n<=id->id<4*m->s.look id=none
def Old(n m id:Nat):Prop:=¬ (4*n<=id/\id<4*m)
def Local{α:Type}(f:St->Option (α×St)):Prop :=
 ∀ s r s1,f s=some (r,s1)->s.next<=s1.next/\(kG s s.next s1.next->
  ∃ L,s1.log=L++s.log/\I3 L s s1/\(∀ t ∈ L,Old s.next s1.next t.id->s.look t.id≠none)/\
   ∀ s2:St,s2.next=s.next->(∀ t ∈ L,Old s.next s1.next t.id->Br t (s.look t.id) (s2.look t.id))->kG s2 s.next s1.next->
    ∃ s3,f s2=some (r,s3)/\s3.next=s1.next/\s3.log=L++s2.log/\GH L s1 s2 s3)
theorem cO{x:Option Obj}(h:iU x=.no):x=none:=by
 cases x with
 | none=>rfl
 | some o=>cases o<;>simp[iU]at h
theorem rU(id:Nat):¬ gn [] id:=λ⟨t,ht,_⟩=>by cases ht
theorem rV(id k:Nat):¬ kq [] id k:=λ⟨t,ht,_⟩=>by cases ht
theorem GH.nil(s:St)(s1:St):GH [] s1 s s:=λid=>⟨λh=>(rU id h).elim,λ_=>⟨rfl,λk=>⟨λh=>(rV id k h).elim,λ_=>rfl⟩⟩⟩
theorem Local.pure{α:Type}(a:α):Local (λs=>some (a,s)):=by
 intro s r s1 h;cases h;exact⟨Nat.le_refl _,λhcl=>⟨[],rfl,λid _=>⟨rfl,λk _=>rfl⟩,(λt ht=>by cases ht),λs2 hn ha hc=>⟨s2,rfl,hn,rfl,GH.nil s2 _⟩⟩⟩
theorem jw{L M:List Touch}{id:Nat} : gn (L++M) id↔gn L id\/gn M id:=by
 constructor
 ·rintro⟨t,ht,h⟩
  rcases List.mem_append.1 ht with ht | ht
  ·exact .inl ⟨t,ht,h⟩
  ·exact .inr ⟨t,ht,h⟩
 ·rintro(⟨t,ht,h⟩ | ⟨t,ht,h⟩)
  ·exact⟨t,List.mem_append_left _ ht,h⟩
  ·exact⟨t,List.mem_append_right _ ht,h⟩
theorem jx{L M:List Touch}{id k:Nat} : kq (L++M) id k↔kq L id k\/kq M id k:=by
 constructor
 ·rintro⟨t,ht,h⟩
  rcases List.mem_append.1 ht with ht | ht
  ·exact .inl ⟨t,ht,h⟩
  ·exact .inr ⟨t,ht,h⟩
 ·rintro(⟨t,ht,h⟩ | ⟨t,ht,h⟩)
  ·exact⟨t,List.mem_append_left _ ht,h⟩
  ·exact⟨t,List.mem_append_right _ ht,h⟩
theorem Local.bind{α β:Type}{f:St->Option (α×St)}{g:α->St->Option (β×St)}(hf:Local f)(hg:∀ a,Local (g a)) :
  Local (λs=>match f s with | some (a,s1)=>g a s1 | none=>none):=by
 intro s r s2 h;dsimp only at h
 split at h
 ·rename_i a s1 hfs
  obtain⟨n1,k1⟩:=hf s a s1 hfs;obtain⟨n2,k2⟩:=hg a s1 r s2 h;refine⟨Nat.le_trans n1 n2,λhcl=>?_⟩;obtain⟨L1,e1,u1,b1,l1⟩:=k1 (λid x y=>hcl id x (by omega));have GI:∀ id,4*s1.next<=id->id<4*s2.next->¬ gn L1 id:=by
   intro id x y ⟨t,ht,hid,_⟩;exact b1 t ht (λhh=>by omega) (by rw[hid];exact hcl id (by omega) y)
  have w1:kG s1 s1.next s2.next:=by
   intro id x y;exact cO (by rw[(u1 id (GI id x y)).1,hcl id (by omega) y];rfl)
  obtain⟨L2,e2,u2,b2,l2⟩:=k2 w1;refine⟨L2++L1,by rw[e2,e1,List.append_assoc],?_,?_,?_⟩
  ·intro id hw
   rw[jw,not_or]at hw;obtain⟨p1,p2⟩:=u1 id hw.2;obtain⟨q1,q2⟩:=u2 id hw.1;refine⟨q1.trans p1,λk hk=>?_⟩;rw[jx,not_or]at hk;exact(q2 k hk.1).trans (p2 k hk.2)
  ·intro t ht hold
   rcases List.mem_append.1 ht with ht | ht
   ·intro hno
    have Kv:¬ gn L1 t.id:=λ⟨u,hu,hid,_⟩=>b1 u hu (λhh=>hold (by omega)) (by rw[hid];exact hno)
    exact b2 t ht (λhh=>hold (by omega)) (cO (by rw[(u1 t.id Kv).1,hno];rfl))
   ·exact b1 t ht (λhh=>hold (by omega))
  ·intro z hz hag hzc
   obtain⟨z1,f1,m1,g1,r1⟩:=l1 z hz (λt ht hid=>by
    by_cases hw:Old s.next s2.next t.id
    ·exact hag t (List.mem_append_right _ ht) hw
    ·have hw':4*s.next<=t.id/\t.id<4*s2.next:=by unfold Old at hw;omega
     exact absurd (hcl t.id hw'.1 hw'.2) (b1 t ht hid)) (λid x y=>hzc id x (by omega))
   have Kw:∀ t ∈ L2,Old s1.next s2.next t.id->Br t (s1.look t.id) (z1.look t.id):=by
    intro t ht hid;obtain⟨ra,rb⟩:=r1 t.id
    by_cases hw:gn L1 t.id
    ·rw[ra hw]
     unfold Br
     split
     ·rfl
     ·exact⟨rfl,rfl⟩
    ·obtain⟨rc,rd⟩:=rb hw
     obtain⟨p1,p2⟩:=u1 t.id hw
     by_cases hold:Old s.next s2.next t.id
     ·have h0:=hag t (List.mem_append_left _ ht) hold
      unfold Br at h0 ⊢
      split at h0
      ·apply lZ
       ·rw[p1,rc,h0]
       ·intro k
        by_cases hk:kq L1 t.id k
        ·rw[(rd k).1 hk]
        ·rw[(rd k).2 hk,p2 k hk,h0]
      ·rename_i k hsome
       refine⟨by rw[p1,rc];exact h0.1,?_⟩
       by_cases hk:kq L1 t.id k
       ·rw[(rd k).1 hk]
       ·rw[(rd k).2 hk,p2 k hk];exact h0.2
     ·have hw':4*s.next<=t.id/\t.id<4*s2.next:=by unfold Old at hold;omega
      have hz0:z.look t.id=none:=hzc t.id hw'.1 hw'.2;have hs0:s.look t.id=none:=hcl t.id hw'.1 hw'.2;have e3:s1.look t.id=none:=cO (by rw[p1,hs0];rfl);have e4:z1.look t.id=none:=cO (by rw[rc,hz0];rfl);rw[e3,e4];unfold Br
      split
      ·rfl
      ·exact⟨rfl,rfl⟩
   have Kx:kG z1 s1.next s2.next:=by
    intro id x y;obtain⟨ra,rb⟩:=r1 id;exact cO (by rw[(rb (GI id x y)).1,hzc id (by omega) y];rfl)
   obtain⟨z2,f2,m2,g2,r2⟩:=l2 z1 m1 Kw Kx;refine⟨z2,?_,m2,by rw[g2,g1,List.append_assoc],?_⟩
   ·dsimp only
    rw[f1];exact f2
   ·intro id
    obtain⟨ra,rb⟩:=r1 id;obtain⟨rc,rd⟩:=r2 id;constructor
    ·intro hw
     rw[jw]at hw
     by_cases hw2:gn L2 id
     ·exact rc hw2
     ·have hw1:gn L1 id:=hw.resolve_left hw2
      obtain⟨q1,q2⟩:=u2 id hw2;obtain⟨s1',s2'⟩:=rd hw2;apply lZ
      ·rw[s1',ra hw1,q1]
      ·intro k
       by_cases hk:kq L2 id k
       ·exact(s2' k).1 hk
       ·rw[(s2' k).2 hk,ra hw1,q2 k hk]
    ·intro hw
     rw[jw,not_or]at hw;obtain⟨t1,t2⟩:=rb hw.2;obtain⟨t3,t4⟩:=rd hw.1;obtain⟨q1,q2⟩:=u2 id hw.1;refine⟨t3.trans t1,λk=>⟨λhk=>?_,λhk=>?_⟩⟩
     ·rw[jx]at hk
      by_cases hk2:kq L2 id k
      ·exact(t4 k).1 hk2
      ·have hk1:=hk.resolve_left hk2
       rw[(t4 k).2 hk2,(t2 k).1 hk1,q2 k hk2]
     ·rw[jx,not_or]at hk
      rw[(t4 k).2 hk.1,(t2 k).2 hk.2]
 ·cases h
theorem Local.congr{α:Type}{f g:St->Option (α×St)}(h:∀ s,g s=f s)(hf:Local f):Local g:=by
 have:g=f:=funext h;rw[this];exact hf
theorem Local.none{α:Type} : Local (λ_=>(Option.none:Option (α×St))):=by
 intro s r s1 h;cases h
theorem Local.read{α:Type}(id:Nat)(at_:Option Nat)(q:Option Obj->Option α)(hq:∀ x y,Br ⟨id,at_,false⟩ x y->q y=q x)(hn:q Option.none=Option.none) :
  Local (λs=>match q (s.look id) with | some a=>some (a,s.touch id at_ false) | Option.none=>Option.none):=by
 intro s r s1 h;dsimp only at h
 split at h
 ·rename_i a Hr
  cases h;refine⟨Nat.le_refl _,λhcl=>⟨[⟨id,at_,false⟩],rfl,λj _=>⟨rfl,λk _=>rfl⟩,?_,?_⟩⟩
  ·intro t ht _
   rw[List.mem_singleton]at ht;subst ht;exact λhno=>by have hno:s.look id=Option.none:=hno;rw[hno,hn]at Hr;cases Hr
  ·intro z hz hag hzc
   have h0:=hag ⟨id,at_,false⟩ (List.mem_singleton.2 rfl) (λ⟨x,y⟩=>Nat.lt_irrefl _ (Nat.lt_of_le_of_lt x y));refine⟨z.touch id at_ false,?_,hz,rfl,?_⟩
   ·dsimp only
    rw[hq _ _ h0,Hr]
   ·intro j
    have nw:¬ gn [⟨id,at_,false⟩] j:=λ⟨t,ht,_,hw,_⟩=>by rw[List.mem_singleton]at ht;subst ht;cases hw
    exact⟨λh=>(nw h).elim,λ_=>⟨rfl,λk=>⟨(λ⟨t,ht,_,hw,_⟩=>by rw[List.mem_singleton]at ht;subst ht;cases hw),λ_=>rfl⟩⟩⟩
 ·cases h
theorem Local.cell(id k:Nat)(v:Value)(hlim:id<lim):Local (λs=>match s.look id with
  | some (.cells c e (0,0))=>if k<c.size then some ((),(s.put id (some (.cells (c.setIfInBounds k v) e (0,0)))).touch id (some k) true) else Option.none
  | _=>Option.none):=by
 intro s r s1 h;dsimp only at h
 split at h
 ·rename_i c e hl
  split at h
  ·rename_i hk
   cases h;have lk:∀ j,((s.put id (some (.cells (c.setIfInBounds k v) e (0,0)))).touch id (some k) true).look j=if j=id then some (.cells (c.setIfInBounds k v) e (0,0)) else s.look j:=by
    intro j
    by_cases ej:j=id
    ·subst ej;rw[if_pos rfl];exact St.bA _ _ _ hlim
    ·rw[if_neg ej];exact St.aU _ _ _ _ ej
   have nall:∀ j,¬ gn [⟨id,some k,true⟩] j:=λj ⟨t,ht,_,_,hn⟩=>by rw[List.mem_singleton]at ht;subst ht;cases hn
   refine⟨Nat.le_refl _,λhcl=>⟨[⟨id,some k,true⟩],rfl,?_,?_,?_⟩⟩
   ·intro j _
    rw[lk j]
    by_cases ej:j=id
    ·subst ej
     rw[if_pos rfl,hl];refine⟨by simp[iU],λm hm=>?_⟩;have hne:k≠m:=λe=>hm ⟨_,List.mem_singleton.2 rfl,rfl,rfl,by rw[e]⟩
     simp only[p7];rw[Array.getElem?_setIfInBounds,if_neg hne]
    ·rw[if_neg ej];exact⟨rfl,λ_ _=>rfl⟩
   ·intro t ht _
    rw[List.mem_singleton]at ht;subst ht;exact λhno=>by have hno:s.look id=Option.none:=hno;rw[hno]at hl;cases hl
   ·intro z hz hag hzc
    have h0:=hag ⟨id,some k,true⟩ (List.mem_singleton.2 rfl) (λ⟨x,y⟩=>Nat.lt_irrefl _ (Nat.lt_of_le_of_lt x y));obtain⟨h1,h2⟩:=h0;rw[hl]at h1;have hz2:∃ c2:Array Value,z.look id=some (.cells c2 e (0,0))/\c2.size=c.size:=by
     cases hzl:z.look id with
     | none=>rw[hzl]at h1;cases h1
     | some o =>
      rw[hzl]at h1;cases o<;>simp only[iU,GG.cells.injEq,reduceCtorEq]at h1
      obtain⟨rfl,h3,rfl⟩:=h1;exact⟨_,rfl,h3.symm⟩
    obtain⟨c2,hzl,hsz⟩:=hz2;have lz:∀ j,((z.put id (some (.cells (c2.setIfInBounds k v) e (0,0)))).touch id (some k) true).look j=if j=id then some (.cells (c2.setIfInBounds k v) e (0,0)) else z.look j:=by
     intro j
     by_cases ej:j=id
     ·subst ej;rw[if_pos rfl];exact St.bA _ _ _ hlim
     ·rw[if_neg ej];exact St.aU _ _ _ _ ej
    refine⟨(z.put id (some (.cells (c2.setIfInBounds k v) e (0,0)))).touch id (some k) true,?_,hz,rfl,?_⟩
    ·dsimp only
     rw[hzl];show(if k<c2.size then _ else _)=_;rw[if_pos (by omega)]
    ·intro j
     refine⟨λh=>(nall j h).elim,λ_=>?_⟩;rw[lz j,lk j]
     by_cases ej:j=id
     ·subst ej
      rw[if_pos rfl,if_pos rfl,hzl];refine⟨by simp[iU],λm=>⟨λhm=>?_,λhm=>?_⟩⟩
      ·obtain⟨t,ht,_,_,hn⟩:=hm
       rw[List.mem_singleton]at ht;subst ht;cases hn;simp only[p7];rw[Array.getElem?_setIfInBounds,Array.getElem?_setIfInBounds,if_pos rfl,if_pos rfl,if_pos (by omega),if_pos hk]
      ·have hne:k≠m:=λe=>hm ⟨_,List.mem_singleton.2 rfl,rfl,rfl,by rw[e]⟩
       simp only[p7];rw[Array.getElem?_setIfInBounds,if_neg hne]
     ·rw[if_neg ej,if_neg ej]
      refine⟨rfl,λm=>⟨λ⟨t,ht,Bs,_⟩=>?_,λ_=>rfl⟩⟩;rw[List.mem_singleton]at ht;subst ht;exact(ej Bs.symm).elim
  ·cases h
 ·cases h
theorem Local.whole{α:Type}(id:Nat)(q:Option Obj->Option (α×Option Obj))(hlim:id<lim)(hn:q Option.none=Option.none) :
  Local (λs=>match q (s.look id) with | some (a,o)=>some (a,(s.put id o).touch id Option.none true) | Option.none=>Option.none):=by
 intro s r s1 h;dsimp only at h
 split at h
 ·rename_i a o Hr
  cases h;have lk:∀ (z:St) j,((z.put id o).touch id Option.none true).look j=if j=id then o else z.look j:=by
   intro z j
   by_cases ej:j=id
   ·subst ej;rw[if_pos rfl];exact St.bA _ _ _ hlim
   ·rw[if_neg ej];exact St.aU _ _ _ _ ej
  have Hs:∀ j k,¬ kq [⟨id,Option.none,true⟩] j k:=λj k ⟨t,ht,_,_,hn⟩=>by rw[List.mem_singleton]at ht;subst ht;cases hn
  have nall:∀ j,j≠id->¬ gn [⟨id,Option.none,true⟩] j:=λj hj ⟨t,ht,Bs,_⟩=>by rw[List.mem_singleton]at ht;subst ht;exact hj Bs.symm
  refine⟨Nat.le_refl _,λhcl=>⟨[⟨id,Option.none,true⟩],rfl,?_,?_,?_⟩⟩
  ·intro j hj
   have ej:j≠id:=λe=>hj ⟨_,List.mem_singleton.2 rfl,e.symm,rfl,rfl⟩
   rw[lk s j,if_neg ej];exact⟨rfl,λ_ _=>rfl⟩
  ·intro t ht _
   rw[List.mem_singleton]at ht;subst ht;exact λhno=>by have hno:s.look id=Option.none:=hno;rw[hno,hn]at Hr;cases Hr
  ·intro z hz hag hzc
   have h0:s.look id=z.look id:=hag ⟨id,Option.none,true⟩ (List.mem_singleton.2 rfl) (λ⟨x,y⟩=>Nat.lt_irrefl _ (Nat.lt_of_le_of_lt x y));refine⟨(z.put id o).touch id Option.none true,?_,hz,rfl,?_⟩
   ·dsimp only
    rw[← h0,Hr]
   ·intro j
    rw[lk z j,lk s j]
    by_cases ej:j=id
    ·subst ej
     rw[if_pos rfl,if_pos rfl];exact⟨λ_=>rfl,λhw=>(hw ⟨_,List.mem_singleton.2 rfl,rfl,rfl,rfl⟩).elim⟩
    ·rw[if_neg ej,if_neg ej]
     exact⟨λhw=>(nall j ej hw).elim,λ_=>⟨rfl,λk=>⟨λhk=>(Hs j k hk).elim,λ_=>rfl⟩⟩⟩
 ·cases h
theorem Local.new(d:Nat)(hd:d<4)(o:Obj):Local (λs=>if 4*s.next+d<lim then some (4*s.next+d,{ (s.put (4*s.next+d) (some o)).touch (4*s.next+d) Option.none true with next:=s.next+1 }) else Option.none):=by
 intro s r s1 h;dsimp only at h
 split at h
 ·rename_i hlim
  cases h;have lk:∀ (z:St) (n:Nat) j,(({ (z.put (4*s.next+d) (some o)).touch (4*s.next+d) Option.none true with next:=n } : St)).look j=if j=4*s.next+d then some o else z.look j:=by
   intro z n j
   by_cases ej:j=4*s.next+d
   ·rw[if_pos ej,ej];exact St.bA _ _ _ hlim
   ·rw[if_neg ej];exact St.aU _ _ _ _ ej
  have Hs:∀ j k,¬ kq [⟨4*s.next+d,Option.none,true⟩] j k:=λj k ⟨t,ht,_,_,hn⟩=>by rw[List.mem_singleton]at ht;subst ht;cases hn
  have nall:∀ j,j≠4*s.next+d->¬ gn [⟨4*s.next+d,Option.none,true⟩] j:=λj hj ⟨t,ht,Bs,_⟩=>by rw[List.mem_singleton]at ht;subst ht;exact hj Bs.symm
  refine⟨Nat.le_succ _,λhcl=>⟨[⟨4*s.next+d,Option.none,true⟩],rfl,?_,?_,?_⟩⟩
  ·intro j hj
   have ej:j≠4*s.next+d:=λe=>hj ⟨_,List.mem_singleton.2 rfl,e.symm,rfl,rfl⟩
   rw[lk s _ j,if_neg ej];exact⟨rfl,λ_ _=>rfl⟩
  ·intro t ht hold
   rw[List.mem_singleton]at ht;subst ht;exact absurd (show 4*s.next<=4*s.next+d/\4*s.next+d<4*(s.next+1) by omega) hold
  ·intro z hz hag hzc
   refine⟨{ (z.put (4*s.next+d) (some o)).touch (4*s.next+d) Option.none true with next:=s.next+1 },?_,rfl,rfl,?_⟩
   ·dsimp only
    rw[hz,if_pos hlim]
   ·intro j
    rw[lk z _ j,lk s _ j]
    by_cases ej:j=4*s.next+d
    ·rw[if_pos ej,if_pos ej]
     exact⟨λ_=>rfl,λhw=>(hw ⟨_,List.mem_singleton.2 rfl,ej.symm,rfl,rfl⟩).elim⟩
    ·rw[if_neg ej,if_neg ej]
     exact⟨λhw=>(nall j ej hw).elim,λ_=>⟨rfl,λk=>⟨λhk=>(Hs j k hk).elim,λ_=>rfl⟩⟩⟩
 ·cases h
end Go.Ev
namespace Go.Ev
open Go.RowKit
variable[aL]
def gp(r:Nat)(x:Option Obj):Option (Option (TypeId×Nat)) :=
 match gG r,x with
 | false,some (.cells c e (0,0))=>some (some (e,c.size))
 | _,_=>none
def om(x:Option Obj):Option Bool :=
 match x with
 | some (.cells _ _ (0,0))=>some false
 | _=>none
def Ky(x:Option Obj):Option Obj :=
 match x with
 | some (.map es n)=>some (.map es n)
 | some (.mapIter m n se st)=>some (.mapIter m n se st)
 | some (.stringIter st p)=>some (.stringIter st p)
 | some (.loop l)=>some (.loop l)
 | some (.deferred d)=>some (.deferred d)
 | _=>none
def Kz(o:Obj)(x:Option Obj):Option (Unit×Option Obj) :=
 match x,o with
 | some (.map _ _),.map es n=>some ((),some (.map es n))
 | some (.mapIter _ _ _ _),.mapIter m n se st=>some ((),some (.mapIter m n se st))
 | some (.stringIter _ _),.stringIter st p=>some ((),some (.stringIter st p))
 | some (.loop _),.loop l=>some ((),some (.loop l))
 | some (.deferred _),.deferred d=>some ((),some (.deferred d))
 | _,_=>none
theorem ij{x y:Option Obj}{c:Array Value}{e:TypeId}{f:Nat×Nat}(h:iU x=iU y)(hx:x=some (.cells c e f)):∃ c',y=some (.cells c' e f)/\c'.size=c.size:=by
 subst hx;cases y with
 | none=>cases h
 | some o =>
  cases o<;>simp only[iU,GG.cells.injEq,reduceCtorEq]at h
  obtain⟨rfl,h3,rfl⟩:=h;exact⟨_,rfl,h3.symm⟩
theorem il{x y:Option Obj}{a:Addr}{n:Nat}(h:iU x=iU y)(hx:x=some (.view a n)):∃ a',y=some (.view a' n):=by
 subst hx;cases y with
 | none=>cases h
 | some o =>
  cases o<;>simp only[iU,GG.vw.injEq,reduceCtorEq]at h
  subst h;exact⟨_,rfl⟩
theorem fV{x y:Option Obj}(h:iU x=iU y)(hx:∀ c e f,x≠some (.cells c e f))(hx2:∀ a n,x≠some (.view a n)):y=x:=by
 have hy:∀ c e f,y≠some (.cells c e f):=by
  intro c e f hh;obtain⟨c',h2,_⟩:=ij h.symm hh;exact hx _ _ _ h2
 have hy2:∀ a n,y≠some (.view a n):=by
  intro a n hh;obtain⟨a',h2⟩:=il h.symm hh;exact hx2 _ _ h2
 have hc:∀ (z:Option Obj),(∀ c e f,z≠some (.cells c e f))->(∀ a n,z≠some (.view a n))->∀ k,p7 z k=none:=by
  intro z hz hz2 k;cases z with
  | none=>rfl
  | some o =>
   cases o with
   | cells c e f=>exact(hz _ _ _ rfl).elim
   | view a n=>exact(hz2 _ _ rfl).elim
   | _=>rfl
 exact lZ h.symm (λk=>by rw[hc y hy hy2,hc x hx hx2])
theorem Aa{r:Nat}{x y:Option Obj}(h:iU x=iU y):gp r y=gp r x:=by
 cases hg:gG r with
 | true=>simp[gp,hg]
 | false =>
  cases x with
  | none=>rw[cO (h.symm)]
  | some o =>
   cases o with
   | cells c e f =>
    obtain⟨c',rfl,hs⟩:=ij h rfl;obtain⟨f1,f2⟩:=f;unfold gp;rw[hg];cases f1<;>cases f2<;>simp[hs]
   | view a n =>
    obtain⟨a',rfl⟩:=il h rfl;simp[gp,hg]
   | _=>rw[fV h (by intro c e f hh;cases hh) (by intro a n hh;cases hh)]
def EU:Option Obj->Nat->Option Value
 | some (.cells c _ _),k=>c[k]?
 | _,_=>none
theorem EV{x y:Option Obj}{k:Nat}(h:iU x=iU y/\p7 x k=p7 y k):EU y k=EU x k:=by
 obtain⟨h,h2⟩:=h;cases x with
 | none=>rw[cO h.symm]
 | some o =>
  cases o with
  | cells c e f =>
   obtain⟨c',rfl,hs⟩:=ij h rfl;exact h2.symm
  | view a n =>
   obtain⟨a',rfl⟩:=il h rfl;rfl
  | _=>rw[fV h (by intro c e f hh;cases hh) (by intro a n hh;cases hh)]
theorem wH{x y:Option Obj}(h:iU x=iU y):om y=om x:=by
 cases x with
 | none=>rw[cO (h.symm)]
 | some o =>
  cases o with
  | cells c e f =>
   obtain⟨c',rfl,hs⟩:=ij h rfl;obtain⟨f1,f2⟩:=f;unfold om;cases f1<;>cases f2<;>simp
  | view a n =>
   obtain⟨a',rfl⟩:=il h rfl;rfl
  | _=>rw[fV h (by intro c e f hh;cases hh) (by intro a n hh;cases hh)]
theorem bK{α:Type}(P:Program)(m:Sem α):Local (aC P m):=by
 induction m with
 | pure a=>exact Local.congr (λs=>rfl) (Local.pure a)
 | load md a k ih =>
  obtain⟨id,off,sp⟩:=a;cases sp with
  | some sp=>exact Local.congr (λs=>by simp only[aC]) Local.none
  | none =>
   refine Local.congr (λs=>?_) (Local.bind (Local.read id (some off) (λx=>EU x off) (λx y h=>EV h) rfl) ih);simp only[aC];cases hl:s.look id with
   | none=>rfl
   | some o =>
    cases o with
    | cells c e f =>
     simp only[EU];cases c[off]? <;> rfl
    | _=>rfl
 | store md a v k ih =>
  obtain⟨id,off,sp⟩:=a;cases sp with
  | some sp=>exact Local.congr (λs=>by simp only[aC];cases oneCell v<;>rfl) Local.none
  | none =>
   cases h1:oneCell v with
   | false=>exact Local.congr (λs=>by simp only[aC,h1]) Local.none
   | true =>
    by_cases hlim:id<lim
    ·refine Local.congr (λs=>?_) (Local.bind (Local.cell id off v hlim) (λ_=>ih))
     simp only[aC,h1];cases hl:s.look id with
     | none=>rfl
     | some o =>
      cases o with
      | cells c e f =>
       obtain⟨f1,f2⟩:=f;cases f1<;>cases f2<;>first | rfl | skip
       by_cases hk:off<c.size
       ·simp[hk,hlim]
       ·simp[hk]
      | _=>rfl
    ·refine Local.congr (λs=>?_) Local.none
     simp only[aC,h1]
     split
     ·rw[if_neg (λh=>hlim h.2)]
     ·rfl
 | new o k ih =>
  have mk:(∀ s:St,aC P (.new o k) s=if 4*s.next<lim then aC P (k (4*s.next)) { (s.put (4*s.next) (some o)).touch (4*s.next) none true with next:=s.next+1 } else none)->Local (aC P (.new o k)):=by
   intro h;refine Local.congr (λs=>?_) (Local.bind (Local.new 0 (by omega) o) ih);rw[h s];dsimp only[Nat.add_zero]
   split<;>rfl
  cases o with
  | cells c e f =>
   obtain⟨f1,f2⟩:=f;cases f1 with
   | zero =>
    cases f2 with
    | zero=>exact mk (λs=>by simp only[aC])
    | succ n=>exact Local.congr (λs=>by simp only[aC];split<;>rfl) Local.none
   | succ n=>exact Local.congr (λs=>by simp only[aC];split<;>rfl) Local.none
  | map es n=>exact mk (λs=>by simp only[aC])
  | mapIter m n se st=>exact mk (λs=>by simp only[aC])
  | stringIter st p=>exact mk (λs=>by simp only[aC])
  | loop l=>exact mk (λs=>by simp only[aC])
  | deferred d=>exact mk (λs=>by simp only[aC])
  | _=>exact Local.congr (λs=>by simp only[aC];split<;>rfl) Local.none
 | shape r k ih =>
  refine Local.congr (λs=>?_) (Local.bind (Local.read r (some 0) (gp r) (λx y h=>Aa h.1) (by unfold gp;split<;>first | rfl | (rename_i h;cases h))) ih);simp only[aC];cases hg:gG r with
  | true=>simp[gp,hg]
  | false =>
   cases hl:s.look r with
   | none=>simp[gp,hg]
   | some o =>
    cases o with
    | cells c e f =>
     obtain⟨f1,f2⟩:=f;cases f1<;>cases f2<;>simp[gp,hg]
    | _=>simp[gp,hg]
 | freeze a n k ih=>exact Local.congr (λs=>rfl) Local.none
 | frozen a k ih =>
  refine Local.congr (λs=>?_) (Local.bind (Local.read a.block (some 0) om (λx y h=>wH h.1) rfl) ih);simp only[aC];cases hl:s.look a.block with
  | none=>rfl
  | some o =>
   cases o with
   | cells c e f =>
    obtain⟨f1,f2⟩:=f;cases f1<;>cases f2<;>rfl
   | _=>rfl
 | getObj r k ih =>
  refine Local.congr (λs=>?_) (Local.bind (Local.read r none Ky (λx y h=>by rw[show x=y from h]) rfl) ih);simp only[aC];cases hl:s.look r with
  | none=>rfl
  | some o=>cases o<;>rfl
 | setObj r o k ih =>
  by_cases hlim:r<lim
  ·refine Local.congr (λs=>?_) (Local.bind (Local.whole r (Kz o) hlim (by cases o<;>rfl)) (λ_=>ih))
   simp only[aC,hlim,if_true];cases hl:s.look r with
   | none=>cases o<;>rfl
   | some x=>cases x<;>cases o<;>rfl
  ·refine Local.congr (λs=>?_) Local.none
   simp only[aC]
   split
   ·rw[if_neg hlim]
   ·rw[if_neg hlim]
   ·rw[if_neg hlim]
   ·rw[if_neg hlim]
   ·rw[if_neg hlim]
   ·rfl
 | choose q k ih =>
  cases hq:q.forced with
  | true=>exact Local.congr (λs=>by simp only[aC,hq,if_true]) (ih 0)
  | false=>exact Local.congr (λs=>by simp[aC,hq]) Local.none
 | sys c k ih=>exact Local.congr (λs=>rfl) Local.none
 | program k ih=>exact Local.congr (λs=>rfl) (ih P)
 | mark m k ih=>exact Local.congr (λs=>rfl) ih
 | halt h=>exact Local.congr (λs=>rfl) Local.none
end Go.Ev
namespace Go.Ev
open Go.RowKit
variable[aL]
theorem Local.map{α β:Type}{f:St->Option (α×St)}(hf:Local f)(g:α->β):Local (λs=>(f s).map λ(a,s1)=>(g a,s1)):=by
 refine Local.congr (λs=>?_) (Local.bind hf (λa=>Local.pure (g a)));dsimp only;cases f s with
 | none=>rfl
 | some x=>rfl
theorem Local.ite{α:Type}(c:Bool){f:St->Option (α×St)}(hf:Local f):Local (λs=>if c=true then f s else Option.none):=by
 cases c with
 | false=>exact Local.congr (λs=>by simp) Local.none
 | true=>exact Local.congr (λs=>by simp) hf
theorem ez{f:St->Option (Value×St)}(hf:Local f):Local (λs=>sv (f s)):=Local.map hf Next.value
theorem Bt{α:Type}{f:St->Option (α×St)}(hf:Local f):Local (λs=>su (f s)):=Local.map hf (λ_=>Next.skip)
def KA(x:Option Obj):Option (Array MapEntry×Nat) :=
 match x with
 | some (.map es n)=>some (es,n)
 | _=>none
theorem ql(P:Program)(t:TypeId)(m k:Value)(ok:Bool):Local (λs=>gM P s t m k ok):=by
 unfold gM;cases hT:mU P t with
 | none=>exact Local.congr (λs=>by simp[hT]) Local.none
 | some x =>
  obtain⟨kt,d,et⟩:=x;cases hk:gX k with
  | false=>exact Local.congr (λs=>by simp[hT,hk]) Local.none
  | true =>
   have fin:∀ es:Array MapEntry,Local (λs1=>match Instr.findNow d k es.toList 0 with
     | some (some (_,v))=>some (if ok then Value.tuple #[v,.bool true] else v,s1)
     | some none =>
      match P.info? et with
      | some i=>(match i.zero with | some z=>if bz 6 z then some (if ok then Value.tuple #[z,.bool false] else z,s1) else none | none=>none)
      | none=>none
     | none=>none):=by
    intro es;cases Instr.findNow d k es.toList 0 with
    | none=>exact Local.none
    | some r =>
     cases r with
     | some p=>exact Local.pure _
     | none =>
      dsimp only;cases P.info? et with
      | none=>exact Local.none
      | some i =>
       dsimp only;cases i.zero with
       | none=>exact Local.none
       | some z =>
        dsimp only;exact Local.ite _ (Local.pure _)
   cases m with
   | map r =>
    cases r with
    | none=>exact Local.congr (λs=>rfl) (fin #[])
    | some r =>
     refine Local.congr (λs=>?_) (Local.bind (Local.read r none KA (λx y h=>by rw[show x=y from h]) rfl) (λp=>fin p.1));dsimp only[entriesOf];cases hl:s.look r with
     | none=>rfl
     | some o=>cases o<;>rfl
   | _=>exact Local.congr (λs=>rfl) Local.none
def KB(P:Program)(t:TypeId)(k v:Value)(x:Option Obj):Option (Unit×Option Obj) :=
 match mU P t,x with
 | some (_,d,_),some (.map es n) =>
  match Instr.findNow d k es.toList 0 with
  | some (some (i,_))=>if Instr.sameBits 10000 (((es[i]?).map (·.key)).getD k) k then some ((),some (.map (es.modify i λe=>{ e with key:=k,val:=v }) n)) else none
  | some none=>some ((),some (.map (es.push { key:=k,val:=v,born:=n }) (n+1)))
  | none=>none
 | _,_=>none
def Ht(P:Program)(t:TypeId)(k:Value)(x:Option Obj):Option (Unit×Option Obj) :=
 match mU P t,x with
 | some (_,d,_),some (.map es n) =>
  match Instr.findNow d k es.toList 0 with
  | some (some (i,_))=>some ((),some (.map (es.eraseIdxIfInBounds i) n))
  | some none=>some ((),some (.map es n))
  | none=>none
 | _,_=>none
theorem qm(P:Program)(t:TypeId)(m k v:Value):Local (λs=>(c9 P s t m k v).map λs1=>((),s1)):=by
 cases hT:mU P t with
 | none=>exact Local.congr (λs=>by simp[c9,hT]) Local.none
 | some x =>
  obtain⟨kt,d,et⟩:=x;cases hk:gX k with
  | false=>exact Local.congr (λs=>by simp[c9,hT,hk]) Local.none
  | true =>
   cases m with
   | map r =>
    cases r with
    | none=>exact Local.congr (λs=>by simp[c9,hT,hk]) Local.none
    | some r =>
     by_cases hlim:r<lim
     ·refine Local.congr (λs=>?_) (Local.whole r (KB P t k v) hlim (by simp[KB,hT]))
      simp only[c9,hT,hk,KB];cases hl:s.look r with
      | none=>rfl
      | some o =>
       cases o with
       | map es n =>
        simp only[hlim,if_true];cases Instr.findNow d k es.toList 0 with
        | none=>rfl
        | some q =>
         cases q with
         | none=>rfl
         | some p =>
          dsimp only
          split<;>rfl
       | _=>rfl
     ·refine Local.congr (λs=>?_) Local.none
      simp only[c9,hT,hk,hlim,if_false];cases hl:s.look r with
      | none=>rfl
      | some o=>cases o<;>rfl
   | _=>exact Local.congr (λs=>by simp[c9,hT,hk]) Local.none
def Hu(P:Program)(t:TypeId)(k:Value)(x:Option Obj):Option (Value×Option Obj) :=
 match mU P t,x with
 | some (_,d,et),some (.map es n) =>
  match Instr.findNow d k es.toList 0 with
  | some (some (i,v))=>if Instr.sameBits 10000 (((es[i]?).map (·.key)).getD k) k then some (.tuple #[v,goInt (((es[i]?).map (·.born)).getD 0)],some (.map (es.modify i λe=>{ e with key:=k }) n)) else none
  | some none =>
   match P.info? et with
   | some i=>(match i.zero with | some z=>if bz 6 z then some (.tuple #[z,goInt n],some (.map (es.push { key:=k,val:=z,born:=n }) (n+1))) else none | none=>none)
   | none=>none
  | none=>none
 | _,_=>none
theorem rW(P:Program)(t:TypeId)(m k:Value):Local (λs=>eV P s t m k):=by
 cases hT:mU P t with
 | none=>exact Local.congr (λs=>by simp[eV,hT]) Local.none
 | some x =>
  obtain⟨kt,d,et⟩:=x;cases hk:gX k with
  | false=>exact Local.congr (λs=>by simp[eV,hT,hk]) Local.none
  | true =>
   cases m with
   | map r =>
    cases r with
    | none=>exact Local.congr (λs=>by simp[eV,hT,hk]) Local.none
    | some r =>
     by_cases hlim:r<lim
     ·refine Local.congr (λs=>?_) (Local.whole r (Hu P t k) hlim (by simp[Hu,hT]))
      simp only[eV,hT,hk,Hu];cases hl:s.look r with
      | none=>rfl
      | some o =>
       cases o with
       | map es n =>
        simp only[hlim,if_true];cases Instr.findNow d k es.toList 0 with
        | none=>rfl
        | some q =>
         cases q with
         | none =>
          dsimp only;cases P.info? et with
          | none=>rfl
          | some i =>
           dsimp only;cases i.zero with
           | none=>rfl
           | some z =>
            dsimp only
            split<;>rfl
         | some p =>
          dsimp only
          split<;>rfl
       | _=>rfl
     ·refine Local.congr (λs=>?_) Local.none
      simp only[eV,hT,hk,hlim,if_false];cases hl:s.look r with
      | none=>rfl
      | some o=>cases o<;>rfl
   | _=>exact Local.congr (λs=>by simp[eV,hT,hk]) Local.none
def Hv(b:Int)(v:Value)(x:Option Obj):Option (Unit×Option Obj) :=
 match x with
 | some (.map es n) =>
  match es.findIdx? (λe=>(e.born:Int)==b) with
  | some i=>some ((),some (.map (es.modify i λe=>{ e with val:=v }) n))
  | none=>none
 | _=>none
theorem rX(m st v:Value):Local (λs=>(fG s m st v).map λs1=>((),s1)):=by
 cases m with
 | map r =>
  cases r with
  | none=>exact Local.congr (λs=>by simp[fG]) Local.none
  | some r =>
   cases st with
   | int ik b =>
    by_cases hlim:r<lim
    ·refine Local.congr (λs=>?_) (Local.whole r (Hv b v) hlim (by simp[Hv]))
     simp only[fG,Hv];cases hl:s.look r with
     | none=>rfl
     | some o =>
      cases o with
      | map es n =>
       simp only[hlim,if_true];cases es.findIdx? (λe=>(e.born:Int)==b) with
       | none=>rfl
       | some i=>rfl
      | _=>rfl
    ·refine Local.congr (λs=>?_) Local.none
     simp only[fG,hlim,if_false];cases hl:s.look r with
     | none=>rfl
     | some o=>cases o<;>rfl
   | _=>exact Local.congr (λs=>by simp[fG]) Local.none
 | _=>exact Local.congr (λs=>by simp[fG]) Local.none
theorem qn(P:Program)(t:TypeId)(m k:Value):Local (λs=>(dD P s t m k).map λs1=>((),s1)):=by
 cases hT:mU P t with
 | none=>exact Local.congr (λs=>by simp[dD,hT]) Local.none
 | some x =>
  obtain⟨kt,d,et⟩:=x;cases hk:gX k with
  | false=>exact Local.congr (λs=>by simp[dD,hT,hk]) Local.none
  | true =>
   cases m with
   | map r =>
    cases r with
    | none=>exact Local.congr (λs=>by simp[dD,hT,hk]) Local.none
    | some r =>
     by_cases hlim:r<lim
     ·refine Local.congr (λs=>?_) (Local.whole r (Ht P t k) hlim (by simp[Ht,hT]))
      simp only[dD,hT,hk,Ht];cases hl:s.look r with
      | none=>rfl
      | some o =>
       cases o with
       | map es n =>
        simp only[hlim,if_true];cases Instr.findNow d k es.toList 0 with
        | none=>rfl
        | some q =>
         cases q with
         | none=>rfl
         | some p=>rfl
       | _=>rfl
     ·refine Local.congr (λs=>?_) Local.none
      simp only[dD,hT,hk,hlim,if_false];cases hl:s.look r with
      | none=>rfl
      | some o=>cases o<;>rfl
   | _=>exact Local.congr (λs=>by simp[dD,hT,hk]) Local.none
def jy(sz:Nat)(x:Value)(s:St):Option (Array Value×St) :=
 match bg s sz x with
 | some (c,l)=>some (c,{ s with log:=l++s.log })
 | none=>none
def I4(off n sz:Nat)(x:Option Obj):Option (Array Value) :=
 match x with
 | some (.cells a _ _)=>if off+n*sz<=a.size/\(a.extract off (off+n*sz)).toList.all oneCell=true then some (a.extract off (off+n*sz)) else none
 | _=>none
theorem jz(sz:Nat)(x:Value):Local (jy sz x):=by
 cases x with
 | slice a n c =>
  cases a with
  | none =>
   match n,c with
   | 0,0=>exact Local.congr (λs=>rfl) (Local.pure #[])
   | 0,c+1=>exact Local.congr (λs=>rfl) Local.none
   | n+1,c=>exact Local.congr (λs=>rfl) Local.none
  | some a =>
   obtain⟨id,off,sp⟩:=a;cases sp with
   | some q=>exact Local.congr (λs=>rfl) Local.none
   | none =>
    refine Local.congr (λs=>?_) (Local.read id none (I4 off n sz) (λx y h=>by rw[show x=y from h]) rfl);simp only[jy,bg,I4];cases hl:s.look id with
    | none=>rfl
    | some o =>
     cases o with
     | cells a e f =>
      by_cases hc:off+n*sz<=a.size/\(a.extract off (off+n*sz)).toList.all oneCell=true
      ·simp only[hc,and_self,if_true];rfl
      ·simp only[hc,if_false]
     | _=>rfl
 | string b =>
  by_cases h:sz=1
  ·refine Local.congr (λs=>?_) (Local.pure (byteCells b).toArray)
   simp[jy,bg,h]
  ·refine Local.congr (λs=>?_) Local.none
   simp[jy,bg,h]
 | _=>exact Local.congr (λs=>rfl) Local.none
def pi(e:TypeId)(x:Option Obj):Option (Unit×Option Obj) :=
 match x with
 | some (.cells _ e0 _)=>if e0=e then some ((),none) else none
 | _=>none
def mX(e:TypeId)(k:Nat)(c:Array Value)(s:St):Option (Value×St) :=
 if 4*s.next+1<lim then some (.slice (some ⟨4*s.next+1,0,none⟩) k k,{ (s.put (4*s.next+1) (some (.cells c e (0,0)))).touch (4*s.next+1) none true with next:=s.next+1 }) else none
theorem l3(e:TypeId)(k:Nat)(c:Array Value):Local (mX e k c):=by
 refine Local.congr (λs=>?_) (Local.map (Local.new 1 (by omega) (.cells c e (0,0))) (λid=>Value.slice (some ⟨id,0,none⟩) k k));unfold mX;dsimp only
 split<;>rfl
def rY(e:TypeId)(id:Nat)(s:St):Option (Unit×St) :=
 match pi e (s.look id) with
 | some (a,o)=>some (a,(s.put id o).touch id none true)
 | none=>none
def mY(e:TypeId)(k:Nat)(dr:Option Nat)(c:Array Value)(s:St):Option (Value×St) :=
 match dr with
 | none=>mX e k c s
 | some id =>
  if id<lim then
   match rY e id s with
   | some (_,s1)=>mX e k c s1
   | none=>none
  else none
theorem rZ(e:TypeId)(k:Nat)(dr:Option Nat)(c:Array Value):Local (mY e k dr c):=by
 cases dr with
 | none=>exact l3 _ _ _
 | some id =>
  by_cases hlim:id<lim
  ·refine Local.congr (λs=>?_) (Local.bind (Local.whole id (pi e) hlim rfl) (λ_=>l3 e k c))
   simp only[mY,rY,hlim,if_true];cases pi e (s.look id)<;>rfl
  ·exact Local.congr (λs=>by simp only[mY,hlim,if_false]) Local.none
def pj(e:TypeId)(sz k:Nat)(src:Value)(dr:Option Nat)(olds:Array Value)(s:St):Option (Value×St) :=
 match jy sz src s with
 | some (news,s2)=>mY e k dr (olds++news) s2
 | none=>none
theorem r8(e:TypeId)(sz k:Nat)(src:Value)(dr:Option Nat)(olds:Array Value):Local (pj e sz k src dr olds) :=
 Local.congr (λs=>by unfold pj;cases jy sz src s<;>rfl) (Local.bind (jz sz src) (λnews=>rZ e k dr (olds++news)))
def ip(e:TypeId)(sz k:Nat)(dst src:Value)(dr:Option Nat)(s:St):Option (Value×St) :=
 match jy sz dst s with
 | some (olds,s1)=>pj e sz k src dr olds s1
 | none=>none
theorem gq(e:TypeId)(sz k:Nat)(dst src:Value)(dr:Option Nat):Local (ip e sz k dst src dr) :=
 Local.congr (λs=>by unfold ip;cases jy sz dst s<;>rfl) (Local.bind (jz sz dst) (λolds=>r8 e sz k src dr olds))
end Go.Ev
namespace Go.Ev
open Go.RowKit
variable[aL]
theorem uq(sz:Nat)(x:Value)(s:St)(l:List Touch):jy sz x { s with log:=l }=match bg s sz x with | some (c,l1)=>some (c,{ s with log:=l1++l }) | none=>none:=rfl
theorem kH(e:TypeId)(sz k:Nat)(dst src:Value)(s:St):ip e sz k dst src none s =
  if 4*s.next+1<lim then
   match bg s sz src,bg s sz dst with
   | some (news,l1),some (olds,l2)=>some (.slice (some ⟨4*s.next+1,0,none⟩) k k,{ s.put (4*s.next+1) (some (.cells (olds++news) e (0,0))) with next:=s.next+1,log:=⟨4*s.next+1,none,true⟩::(l1++(l2++s.log)) })
   | _,_=>none
  else none:=by
 unfold ip jy;cases hd:bg s sz dst with
 | none =>
  cases hs:bg s sz src<;>simp
 | some x =>
  obtain⟨olds,l2⟩:=x;dsimp only;unfold pj;rw[uq];cases hs:bg s sz src with
  | none=>simp
  | some y =>
   obtain⟨news,l1⟩:=y;dsimp only[mY,mX];rfl
theorem qo(e:TypeId)(sz k id:Nat)(dst src:Value)(s:St):ip e sz k dst src (some id) s =
  if 4*s.next+1<lim then
   match bg s sz src,bg s sz dst with
   | some (news,l1),some (olds,l2) =>
    (match s.look id with
     | some (.cells _ e0 _)=>if e0=e/\id<lim then some (.slice (some ⟨4*s.next+1,0,none⟩) k k,{ (s.put id none).put (4*s.next+1) (some (.cells (olds++news) e (0,0))) with next:=s.next+1,log:=⟨4*s.next+1,none,true⟩::⟨id,none,true⟩::(l1++(l2++s.log)) }) else none
     | _=>none)
   | _,_=>none
  else none:=by
 unfold ip jy;cases hd:bg s sz dst with
 | none =>
  cases hs:bg s sz src<;>simp
 | some x =>
  obtain⟨olds,l2⟩:=x;dsimp only;unfold pj;rw[uq];cases hs:bg s sz src with
  | none=>simp
  | some y =>
   obtain⟨news,l1⟩:=y;dsimp only[mY,rY];have hlk:({ s with log:=l1++(l2++s.log) } : St).look id=s.look id:=rfl;rw[hlk]
   by_cases hlim:id<lim
   ·rw[if_pos hlim]
    cases hl:s.look id with
    | none=>simp[pi]
    | some o =>
     cases o with
     | cells c e0 f =>
      by_cases he:e0=e
      ·subst he
       simp only[pi,if_true,hlim,and_self,mX];rfl
      ·simp[pi,he]
     | _=>simp[pi]
   ·rw[if_neg hlim]
    cases hl:s.look id with
    | none=>simp
    | some o=>cases o<;>simp[hlim]
theorem qp(P:Program)(t u:TypeId)(dst src:Value):Local (λs=>b7 P s t u dst src):=by
 cases hu:P.underlying t with
 | none=>exact Local.congr (λs=>by simp[b7,hu]) Local.none
 | some d =>
  cases d with
  | slice e =>
   cases hm:dw src with
   | none=>exact Local.congr (λs=>by simp[b7,hu,hm]) Local.none
   | some m =>
    cases dst with
    | slice ba n c =>
     cases hi:P.info? e with
     | none=>exact Local.congr (λs=>by simp[b7,hu,hm,hi]) Local.none
     | some i =>
      cases hz:i.zero with
      | none=>exact Local.congr (λs=>by simp[b7,hu,hm,hi,hz]) Local.none
      | some z =>
       by_cases hk:(∃ x,P.underlying u=some (.slice x))\/P.underlying u=some .string
       case neg =>
        refine Local.congr (λs=>?_) Local.none;cases hU:P.underlying u with
        | none=>simp only[b7,hu,hm,hi,hz,hU]
        | some d =>
         cases d with
         | slice x=>exact absurd (Or.inl ⟨x,hU⟩) hk
         | string=>exact absurd (Or.inr hU) hk
         | _=>simp only[b7,hu,hm,hi,hz,hU]
       case pos =>
        by_cases hm0:m=0
        ·exact Local.congr (λs=>by rcases hk with ⟨x,hU⟩ | hU<;>simp only[b7,hu,hm,hi,hz,hU,hm0,if_true]) (Local.pure (Value.slice ba n c))
        ·by_cases hst:(n+m)*i.bytes<=140737488355328/\n+m<=1000000000/\0<i.size/\z.cells.size=i.size/\(n=0\/ba.isSome=true)
         ·obtain⟨c1,c2,c3,c4,c5⟩:=hst
          have hcond:∀ s:St,((n+m)*i.bytes<=140737488355328/\n+m<=1000000000/\4*s.next+1<lim/\0<i.size/\z.cells.size=i.size/\(n=0\/ba.isSome=true))↔4*s.next+1<lim:=λs=>⟨λh=>h.2.2.1,λh=>⟨c1,c2,h,c3,c4,c5⟩⟩
          cases ba with
          | none =>
           refine Local.congr (λs=>?_) (gq e i.size (n+m) (.slice none n c) src none);rw[kH];rcases hk with ⟨x,hU⟩ | hU<;>simp only[b7,hu,hm,hi,hz,hU,hm0,if_false,hcond s]
           all_goals (split<;>first | rfl | (rcases bg s i.size src with _ | ⟨_,_⟩<;>rcases bg s i.size (.slice none n c) with _ | ⟨_,_⟩<;>rfl))
          | some a =>
           obtain⟨id,off,sp⟩:=a;cases hg:gG id with
           | true =>
            cases off with
            | zero =>
             refine Local.congr (λs=>?_) (gq e i.size (n+m) (.slice (some ⟨id,0,sp⟩) n c) src (some id));rw[qo];rcases hk with ⟨x,hU⟩ | hU<;>simp only[b7,hu,hm,hi,hz,hU,hm0,if_false,hcond s,hg,if_true]
             all_goals (split<;>first | rfl | (rcases bg s i.size src with _ | ⟨_,_⟩<;>rcases bg s i.size (.slice (some ⟨id,0,sp⟩) n c) with _ | ⟨_,_⟩<;>rcases s.look id with _ | o<;>first | rfl | (cases o<;>rfl)))
            | succ off =>
             refine Local.congr (λs=>?_) Local.none;rcases hk with ⟨x,hU⟩ | hU<;>simp only[b7,hu,hm,hi,hz,hU,hm0,if_false,hcond s,hg,if_true]
             all_goals split
             all_goals first | rfl | (split<;>rfl)
           | false =>
            by_cases hc:c<n+m
            ·refine Local.congr (λs=>?_) (gq e i.size (n+m) (.slice (some ⟨id,off,sp⟩) n c) src none)
             rw[kH];rcases hk with ⟨x,hU⟩ | hU<;>simp only[b7,hu,hm,hi,hz,hU,hm0,if_false,hcond s,hg,hc,if_true,Bool.false_eq_true]
             all_goals (split<;>first | rfl | (rcases bg s i.size src with _ | ⟨_,_⟩<;>rcases bg s i.size (.slice (some ⟨id,off,sp⟩) n c) with _ | ⟨_,_⟩<;>rfl))
            ·refine Local.congr (λs=>?_) Local.none
             rcases hk with ⟨x,hU⟩ | hU<;>simp only[b7,hu,hm,hi,hz,hU,hm0,if_false,hcond s,hg,hc,Bool.false_eq_true]
             all_goals split
             all_goals first | rfl | (split<;>rfl)
         ·refine Local.congr (λs=>?_) Local.none
          rcases hk with ⟨x,hU⟩ | hU<;>simp only[b7,hu,hm,hi,hz,hU,hm0,if_false]
          all_goals rw[if_neg (λh=>hst ⟨h.1,h.2.1,h.2.2.2⟩)]
    | _=>exact Local.congr (λs=>by simp[b7,hu,hm]) Local.none
  | _=>exact Local.congr (λs=>by simp[b7,hu]) Local.none
end Go.Ev
namespace Go.Ev
open Go.RowKit
variable[aL]
theorem Local.g8{α:Type}(c:Prop)[Decidable c]{f:St->Option (α×St)}(hf:Local f):Local (λs=>if c then f s else Option.none):=by
 by_cases h:c
 ·exact Local.congr (λs=>by rw[if_pos h]) hf
 ·exact Local.congr (λs=>by rw[if_neg h]) Local.none
theorem iV{β:Type}{f:St->Option St}(hf:Local (λs=>(f s).map λs1=>((),s1)))(v:β):Local (λs=>(f s).map λs1=>(v,s1)):=by
 refine Local.congr (λs=>?_) (Local.map hf (λ_=>v));cases f s<;>rfl
theorem ut(P:Program)(a:Act)(o:Oper):Local (ew P a o):=by
 unfold ew;refine Local.g8 _ ?_;cases hq:gi P (execOp a.eval o) with
 | none=>exact Local.congr (λs=>by simp[hq]) Local.none
 | some n =>
  cases n with
  | value v=>exact Local.congr (λs=>by simp[hq]) (Local.g8 (bz 5 v=true) (Local.pure (Next.value v)))
  | _=>exact Local.congr (λs=>by simp[hq]) Local.none
theorem uu(P:Program)(a:Act)(o:Oper):(∃ n,∀ s,ew P a o s=some (n,s))\/∀ s,ew P a o s=none:=by
 unfold ew
 split
 ·cases hq:gi P (execOp a.eval o) with
  | none=>exact .inr (λs=>rfl)
  | some n =>
   cases n with
   | value v =>
    by_cases hv:bz 5 v=true
    ·exact .inl ⟨.value v,λs=>by simp[hv]⟩
    ·exact .inr (λs=>by simp[hv])
   | _=>exact .inr (λs=>rfl)
 ·exact .inr (λs=>rfl)
theorem l4{P:Program}{a:Act}{o:Oper}{g:St->Option (Next×St)}(hg:Local g):Local (λs=>match ew P a o s with | some r=>some r | none=>g s):=by
 rcases uu P a o with ⟨n,h⟩ | h
 ·exact Local.congr (λs=>by simp only[h s]) (Local.pure n)
 ·exact Local.congr (λs=>by simp only[h s]) hg
theorem uv(P:Program)(a:Act)(c:Call)(ty:TypeId):Local (kE P a c ty):=by
 unfold kE;refine Local.g8 _ ?_;cases hc:c.callee with
 | value f =>
  dsimp only
  split
  ·exact Local.g8 _ (Local.pure _)
  ·exact Local.g8 _ (bK P _)
  ·exact Local.none
 | invoke r name =>
  dsimp only
  split
  ·split
   ·exact Local.g8 _ (Local.pure _)
   ·exact Local.none
  ·exact Local.none
 | builtin b =>
  dsimp only
  split
  ·exact ez (bK P _)
  ·exact Local.g8 _ (ez (bK P _))
  ·split
   ·exact ez (bK P _)
   ·exact ez (qp P _ _ _ _)
  ·exact ez (bK P _)
  ·exact iV (qn P _ _ _) _
  ·exact Local.none
theorem uw(P:Program)(m:Sem Value):Local (λs=>match aC P m s with | some (v,s1)=>if lP v=true then some (Next.value v,s1) else none | none=>none):=by
 refine Local.congr (λs=>?_) (Local.bind (bK P m) (λv=>Local.g8 (lP v=true) (Local.pure (Next.value v))));cases aC P m s with
 | none=>rfl
 | some x=>rfl
theorem mZ{α β:Type}(c:Option α)(f:α->β):Local (λs=>c.map λr=>(f r,s)):=by
 cases c with
 | none=>exact Local.none
 | some a=>exact Local.pure (f a)
theorem wI(P:Program)(t u:TypeId)(x:Value):Local (wD P t u x):=by
 unfold wD
 split
 ·exact mZ _ _
 ·exact Local.none
theorem jA(P:Program)(a:Act)(o:Oper):Local (aS P a o):=by
 unfold aS
 split
 all_goals first
  | exact Local.g8 _ (Local.pure _)
  | exact Local.none
  | exact ut P a o
  | exact Local.g8 _ (ez (bK P _))
  | exact Local.g8 _ (Bt (bK P _))
  | exact ez (bK P _)
  | exact Local.g8 _ (ez (ql P _ _ _ _))
  | exact Local.g8 _ (iV (qm P _ _ _ _) _)
  | exact Local.g8 _ (ez (rW P _ _ _))
  | exact Local.g8 _ (iV (rX _ _ _) _)
  | exact l4 (uv P a _ _)
  | skip
 ·refine Local.g8 _ ?_
  split
  ·exact Local.pure _
  ·exact Local.none
 ·refine Local.g8 _ ?_
  split
  ·exact Local.pure _
  ·exact Local.pure _
  ·exact Local.pure _
  ·exact Local.none
 ·refine l4 (Local.g8 _ ?_)
  split
  ·split
   ·exact Local.pure _
   ·exact Local.pure _
   ·exact Local.none
  ·exact mZ _ _
 ·exact l4 (Local.g8 _ (mZ _ _))
 ·exact l4 (Local.g8 _ (wI P _ _ _))
 ·refine Local.g8 _ ?_
  exact uw P _
end Go.Ev
