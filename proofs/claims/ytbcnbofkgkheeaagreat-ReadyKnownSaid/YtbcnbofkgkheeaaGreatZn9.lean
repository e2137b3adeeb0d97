/- Part of a proof: see the last text. -/
import Derived.Test.YtbcnbofkgkheeaaGreatZn8
set_option linter.unusedSectionVars false
set_option linter.unusedSimpArgs false
set_option linter.unusedVariables false
namespace Go.Ev
open Go.RowKit
variable[aP]
theorem je{α:Sort _}(b:Bool)(x y:α):@Bool.rec (λ_=>α) x y b=if b=true then y else x:=by cases b<;>rfl
theorem Ah(a b:Nat):(Nat.beq a b=true)=(a=b):=by
 simp
theorem TV.ez(v:Value)(l r:TV)(n:Nat):(TV.node v l r).get n=if n=0 then v else if n%2=1 then l.get (n / 2) else r.get (n / 2-1):=by
 show @Bool.rec (λ_=>Value) (@Bool.rec (λ_=>Value) (r.get (Nat.sub (Nat.div n 2) 1)) (l.get (Nat.div n 2)) (Nat.beq (Nat.mod n 2) 1)) v (Nat.beq n 0)=_;rw[je,je];simp only[Ah];rfl
theorem TV.lW(n:Nat):TV.leaf.get n=undef:=rfl
def TV.val:TV->Value
 | .leaf=>undef
 | .node v _ _=>v
def TV.BX:TV->TV
 | .leaf=>.leaf
 | .node _ l _=>l
def TV.BY:TV->TV
 | .leaf=>.leaf
 | .node _ _ r=>r
def TV.set:Nat->TV->Nat->Value->TV
 | 0,t,_,_=>t
 | d+1,t,n,x=>if n=0 then .node x t.BX t.BY else if n%2=1 then .node t.val (t.BX.set d (n / 2) x) t.BY else .node t.val t.BX (t.BY.set d (n / 2-1) x)
theorem TV.D7{β:Type} : ∀ (d:Nat) (t:TV) (n:Nat) (x:Value) (k:TV->β),TV.mc d t n x k=k (TV.set d t n x):=by
 intro d
 induction d with
 | zero=>intro t n x k;rfl
 | succ d ih =>
  intro t n x k;cases t with
  | leaf =>
   show @Bool.rec (λ_=>β) (@Bool.rec (λ_=>β) (TV.mc d .leaf (Nat.sub (Nat.div n 2) 1) x (λr=>k (.node undef .leaf r))) (TV.mc d .leaf (Nat.div n 2) x (λl=>k (.node undef l .leaf))) (Nat.beq (Nat.mod n 2) 1)) (k (.node x .leaf .leaf)) (Nat.beq n 0)=_;rw[je,je];simp only[Ah,ih]
   by_cases h0:n=0
   ·rw[if_pos h0];subst h0;rfl
   ·rw[if_neg h0]
    by_cases h1:n.mod 2=1
    ·have e:TV.set (d+1) .leaf n x=.node undef (TV.set d .leaf (n / 2) x) .leaf:=by
      show(if n=0 then _ else if n%2=1 then _ else _)=_;rw[if_neg h0,if_pos (show n%2=1 from h1)];rfl
     rw[if_pos h1,e];rfl
    ·have e:TV.set (d+1) .leaf n x=.node undef .leaf (TV.set d .leaf (n / 2-1) x):=by
      show(if n=0 then _ else if n%2=1 then _ else _)=_;rw[if_neg h0,if_neg (show ¬ n%2=1 from h1)];rfl
     rw[if_neg h1,e];rfl
  | node v l r =>
   show @Bool.rec (λ_=>β) (@Bool.rec (λ_=>β) (TV.mc d r (Nat.sub (Nat.div n 2) 1) x (λr'=>k (.node v l r'))) (TV.mc d l (Nat.div n 2) x (λl'=>k (.node v l' r))) (Nat.beq (Nat.mod n 2) 1)) (k (.node x l r)) (Nat.beq n 0)=_;rw[je,je];simp only[Ah,ih]
   by_cases h0:n=0
   ·rw[if_pos h0];subst h0;rfl
   ·rw[if_neg h0]
    by_cases h1:n.mod 2=1
    ·have e:TV.set (d+1) (.node v l r) n x=.node v (TV.set d l (n / 2) x) r:=by
      show(if n=0 then _ else if n%2=1 then _ else _)=_;rw[if_neg h0,if_pos (show n%2=1 from h1)];rfl
     rw[if_pos h1,e];rfl
    ·have e:TV.set (d+1) (.node v l r) n x=.node v l (TV.set d r (n / 2-1) x):=by
      show(if n=0 then _ else if n%2=1 then _ else _)=_;rw[if_neg h0,if_neg (show ¬ n%2=1 from h1)];rfl
     rw[if_neg h1,e];rfl
theorem TV.get_eq(t:TV)(n:Nat):t.get n=if n=0 then t.val else if n%2=1 then t.BX.get (n / 2) else t.BY.get (n / 2-1):=by
 cases t with
 | leaf=>simp[TV.lW,TV.val,TV.BX,TV.BY]
 | node v l r=>exact TV.ez v l r n
theorem TV.jC(d:Nat):∀ (t:TV) (n m:Nat) (x:Value),n+1<2 ^ d->(t.set d n x).get m=if m=n then x else t.get m:=by
 induction d with
 | zero=>intro t n m x h;simp at h
 | succ d ih =>
  intro t n m x h;have hp:2 ^ (d+1)=2*2 ^ d:=by rw[Nat.pow_succ,Nat.mul_comm]
  unfold TV.set
  by_cases h0:n=0
  ·subst h0
   rw[if_pos rfl,TV.ez,TV.get_eq t]
   by_cases hm:m=0
   ·simp[hm]
   ·simp[hm]
  ·rw[if_neg h0]
   by_cases h1:n%2=1
   ·rw[if_pos h1,TV.ez,TV.get_eq t]
    by_cases hm:m=0
    ·subst hm
     rw[if_pos rfl,if_pos rfl,if_neg (λe=>h0 e.symm)]
    ·rw[if_neg hm,if_neg hm]
     by_cases hm1:m%2=1
     ·rw[if_pos hm1,if_pos hm1,ih _ _ _ _ (by omega)]
      by_cases e:m=n
      ·rw[if_pos e,if_pos (by omega)]
      ·rw[if_neg e,if_neg (by omega)]
     ·rw[if_neg hm1,if_neg hm1,if_neg (by omega)]
   ·rw[if_neg h1,TV.ez,TV.get_eq t]
    by_cases hm:m=0
    ·subst hm
     rw[if_pos rfl,if_pos rfl,if_neg (λe=>h0 e.symm)]
    ·rw[if_neg hm,if_neg hm]
     by_cases hm1:m%2=1
     ·rw[if_pos hm1,if_pos hm1,if_neg (by omega)]
     ·rw[if_neg hm1,if_neg hm1,ih _ _ _ _ (by omega)]
      by_cases e:m=n
      ·rw[if_pos e,if_pos (by omega)]
      ·rw[if_neg e,if_neg (by omega)]
theorem kY{β:Type}(n:Nat)(k:Nat->β):rJ n k=k n:=by cases n<;>rfl
theorem rR{β:Type}(n:Int)(k:Int->β):zZ n k=k n:=by
 cases n with
 | ofNat n=>exact kY n (λn=>k (.ofNat n))
 | negSucc n=>exact kY n (λn=>k (.negSucc n))
theorem D8{β:Type}(a:Option Addr)(k:Option Addr->β):Mx a k=k a:=by
 cases a with
 | none=>rfl
 | some a =>
  obtain⟨b,off,sp⟩:=a;show rJ b (λb=>rJ off (λoff=>k (some ⟨b,off,sp⟩)))=_;rw[kY,kY]
theorem D9{β:Type}(v:Value)(k:Value->β):Hp v k=k v:=by
 cases v with
 | pointer a=>exact D8 a (λa=>k (.pointer a))
 | slice a n c =>
  show Mx a (λa=>rJ n (λn=>rJ c (λc=>k (.slice a n c))))=_;rw[D8,kY,kY]
 | _=>rfl
theorem D_{α β:Type} : ∀ (l:List α) (k:List α->β),FW l k=k l:=by
 intro l
 induction l with
 | nil=>intro k;rfl
 | cons v l ih =>
  intro k;show FW l (λl=>k (v::l))=_;rw[ih]
theorem Tr.Hz:∀ (d:Nat) (t:Tr) (n:Nat),Tr.gt d t n=Tr.get d t n:=by
 intro d
 induction d with
 | zero=>intro t n;rfl
 | succ d ih =>
  intro t n;cases t with
  | leaf=>rfl
  | node v l r =>
   show @Bool.rec (λ_=>Option Obj) (@Bool.rec (λ_=>Option Obj) (Tr.gt d r (Nat.div n 2)) (Tr.gt d l (Nat.div n 2)) (Nat.beq (Nat.mod n 2) 0)) v (Nat.beq n 0)=_;rw[je,je];simp only[Ah,ih];rfl
theorem Tr.HA{β:Type} : ∀ (d:Nat) (t:Tr) (n:Nat) (x:Option Obj) (k:Tr->β),Tr.Pp d t n x k=k (Tr.set d t n x):=by
 intro d
 induction d with
 | zero=>intro t n x k;rfl
 | succ d ih =>
  intro t n x k;cases t with
  | leaf =>
   show @Bool.rec (λ_=>β) (@Bool.rec (λ_=>β) (Tr.Pp d .leaf (Nat.div n 2) x (λr=>k (.node none .leaf r))) (Tr.Pp d .leaf (Nat.div n 2) x (λl=>k (.node none l .leaf))) (Nat.beq (Nat.mod n 2) 0)) (k (.node x .leaf .leaf)) (Nat.beq n 0)=_;rw[je,je];simp only[Ah,ih]
   by_cases h0:n=0
   ·rw[if_pos h0];subst h0;rfl
   ·rw[if_neg h0]
    by_cases h1:n.mod 2=0
    ·have e:Tr.set (d+1) .leaf n x=.node none (Tr.set d .leaf (n / 2) x) .leaf:=by
      show(if n=0 then _ else if n%2=0 then _ else _)=_;rw[if_neg h0,if_pos (show n%2=0 from h1)];rfl
     rw[if_pos h1,e];rfl
    ·have e:Tr.set (d+1) .leaf n x=.node none .leaf (Tr.set d .leaf (n / 2) x):=by
      show(if n=0 then _ else if n%2=0 then _ else _)=_;rw[if_neg h0,if_neg (show ¬ n%2=0 from h1)];rfl
     rw[if_neg h1,e];rfl
  | node v l r =>
   show @Bool.rec (λ_=>β) (@Bool.rec (λ_=>β) (Tr.Pp d r (Nat.div n 2) x (λr'=>k (.node v l r'))) (Tr.Pp d l (Nat.div n 2) x (λl'=>k (.node v l' r))) (Nat.beq (Nat.mod n 2) 0)) (k (.node x l r)) (Nat.beq n 0)=_;rw[je,je];simp only[Ah,ih]
   by_cases h0:n=0
   ·rw[if_pos h0];subst h0;rfl
   ·rw[if_neg h0]
    by_cases h1:n.mod 2=0
    ·have e:Tr.set (d+1) (.node v l r) n x=.node v (Tr.set d l (n / 2) x) r:=by
      show(if n=0 then _ else if n%2=0 then _ else _)=_;rw[if_neg h0,if_pos (show n%2=0 from h1)];rfl
     rw[if_pos h1,e];rfl
    ·have e:Tr.set (d+1) (.node v l r) n x=.node v l (Tr.set d r (n / 2) x):=by
      show(if n=0 then _ else if n%2=0 then _ else _)=_;rw[if_neg h0,if_neg (show ¬ n%2=0 from h1)];rfl
     rw[if_neg h1,e];rfl
theorem Ea:∀ (l:List Value) (n:Nat),Pq l n=l[n]?:=by
 intro l
 induction l with
 | nil=>intro n;rfl
 | cons v l ih =>
  intro n;cases n with
  | zero=>rfl
  | succ n=>exact ih n
theorem HB{β:Type}(x:Value):∀ (l:List Value) (n:Nat) (k:List Value->β),Hq l x n k=k (l.set n x):=by
 intro l
 induction l with
 | nil=>intro n k;rfl
 | cons v l ih =>
  intro n k;cases n with
  | zero=>rfl
  | succ n =>
   show Hq l x n (λl'=>k (v::l'))=_;rw[ih];rfl
theorem gU.ez{α:Type}(v:Option α)(l r:gU α)(n:Nat):(gU.node v l r).get n=if n=0 then v else if n%2=1 then l.get (n / 2) else r.get (n / 2-1):=by
 show @Bool.rec (λ_=>Option α) (@Bool.rec (λ_=>Option α) (r.get (Nat.sub (Nat.div n 2) 1)) (l.get (Nat.div n 2)) (Nat.beq (Nat.mod n 2) 1)) v (Nat.beq n 0)=_;rw[je,je];simp only[Ah];rfl
theorem gU.MG{α β:Type} : ∀ (d:Nat) (t:gU α) (n:Nat) (x:α) (k:gU α->β),∃ t',gU.mc d t n x k=k t'/\∀ m y,t'.get m=some y->(m=n/\y=x)\/t.get m=some y:=by
 intro d
 induction d with
 | zero=>intro t n x k;exact⟨t,rfl,λm y h=>.inr h⟩
 | succ d ih =>
  intro t n x k;have key:∀ (v:Option α) (l r:gU α),(∀ m,t.get m=(gU.node v l r).get m)->
    gU.mc (d+1) t n x k = @Bool.rec (λ_=>β) (@Bool.rec (λ_=>β) (gU.mc d r (Nat.sub (Nat.div n 2) 1) x (λr'=>k (.node v l r'))) (gU.mc d l (Nat.div n 2) x (λl'=>k (.node v l' r))) (Nat.beq (Nat.mod n 2) 1)) (k (.node (some x) l r)) (Nat.beq n 0)->
    ∃ t',gU.mc (d+1) t n x k=k t'/\∀ m y,t'.get m=some y->(m=n/\y=x)\/t.get m=some y:=by
   intro v l r hg he;rw[he,je,je];simp only[Ah]
   by_cases h0:n=0
   ·rw[if_pos h0]
    refine⟨_,rfl,λm y hy=>?_⟩;rw[gU.ez]at hy
    by_cases hm:m=0
    ·rw[if_pos hm]at hy
     cases hy;exact .inl ⟨by omega,rfl⟩
    ·rw[if_neg hm]at hy
     refine .inr ?_;rw[hg,gU.ez,if_neg hm];exact hy
   ·rw[if_neg h0]
    by_cases h1:n.mod 2=1
    ·rw[if_pos h1]
     obtain⟨t',e,ht⟩:=ih l (n / 2) x (λl'=>k (.node v l' r));refine⟨_,e,λm y hy=>?_⟩;rw[gU.ez]at hy;rw[hg,gU.ez];have h1':n%2=1:=h1
     by_cases hm:m=0
     ·rw[if_pos hm]at hy ⊢
      exact .inr hy
     ·rw[if_neg hm]at hy ⊢
      by_cases hm1:m%2=1
      ·rw[if_pos hm1]at hy ⊢
       rcases ht _ _ hy with ⟨a,b⟩ | a
       ·exact .inl ⟨by omega,b⟩
       ·exact .inr a
      ·rw[if_neg hm1]at hy ⊢
       exact .inr hy
    ·rw[if_neg h1]
     obtain⟨t',e,ht⟩:=ih r (n / 2-1) x (λr'=>k (.node v l r'));refine⟨_,e,λm y hy=>?_⟩;rw[gU.ez]at hy;rw[hg,gU.ez];have h1':¬ n%2=1:=h1
     by_cases hm:m=0
     ·rw[if_pos hm]at hy ⊢
      exact .inr hy
     ·rw[if_neg hm]at hy ⊢
      by_cases hm1:m%2=1
      ·rw[if_pos hm1]at hy ⊢
       exact .inr hy
      ·rw[if_neg hm1]at hy ⊢
       rcases ht _ _ hy with ⟨a,b⟩ | a
       ·exact .inl ⟨by omega,b⟩
       ·exact .inr a
  cases t with
  | leaf =>
   refine key none .leaf .leaf (λm=>?_) rfl;rw[gU.ez]
   by_cases hm:m=0
   ·rw[if_pos hm];rfl
   ·rw[if_neg hm]
    split<;>rfl
  | node v l r=>exact key v l r (λm=>rfl) rfl
theorem gU.HC{α β:Type} : ∀ (l:List α) (i:Nat) (t:gU α) (k:gU α->β),∃ t',gU.Od l i t k=k t'/\∀ m y,t'.get m=some y->(i<=m/\l[m-i]? = some y)\/t.get m=some y:=by
 intro l
 induction l with
 | nil=>intro i t k;exact⟨t,rfl,λm y h=>.inr h⟩
 | cons v l ih =>
  intro i t k;obtain⟨t1,e1,h1⟩:=gU.MG 16 t i v (λt1=>gU.Od l (i+1) t1 k);obtain⟨t2,e2,h2⟩:=ih (i+1) t1 k;refine⟨t2,?_,λm y hy=>?_⟩
  ·show gU.mc 16 t i v (λt1=>gU.Od l (Nat.succ i) t1 k)=_
   rw[e1];exact e2
  ·rcases h2 m y hy with ⟨a,b⟩ | a
   ·refine .inl ⟨by omega,?_⟩
    rw[show m-i=(m-(i+1))+1 by omega];exact b
   ·rcases h1 m y a with ⟨b,c⟩ | b
    ·subst b c
     exact .inl ⟨Nat.le_refl _,by simp⟩
    ·exact .inr b
structure rz(B:Base):Prop where
 T:∀ t i,B.T.get t=some i->B.P.info? t=some i
 F:∀ f fn,B.F.get f=some fn->B.P.funcs[f]? = some fn
theorem vq{P:Program}{t:TypeId}{i:TypeInfo}(h:P.types[t]? = some i):P.info? t=some i:=by
 have hlt:t<P.types.size:=(Array.getElem?_eq_some_iff.1 h).1;show(if t<P.types.size then P.types[t]? else Made.infoAt P.toTables Made.depth t)=_;rw[if_pos hlt];exact h
theorem tp{β:Type}(P:Program)(k:Base->β):∃ B,rz B/\B.P=P/\cZ P k=k B:=by
 obtain⟨⟨a1,a2,a3,a4,types,a6,a7,a8,a9,Q9,Q_⟩,funcs⟩:=P;obtain⟨T,e1,h1⟩:=gU.HC types.toList 0 .leaf (λT=>gU.Od funcs.toList 0 .leaf (λF=>k ⟨⟨⟨a1,a2,a3,a4,⟨types.toList⟩,a6,a7,a8,a9,Q9,Q_⟩,⟨funcs.toList⟩⟩,T,F⟩));obtain⟨F,e2,h2⟩:=gU.HC funcs.toList 0 .leaf (λF=>k ⟨⟨⟨a1,a2,a3,a4,⟨types.toList⟩,a6,a7,a8,a9,Q9,Q_⟩,⟨funcs.toList⟩⟩,T,F⟩);refine⟨⟨⟨⟨a1,a2,a3,a4,⟨types.toList⟩,a6,a7,a8,a9,Q9,Q_⟩,⟨funcs.toList⟩⟩,T,F⟩,⟨λt i h=>?_,λf fn h=>?_⟩,rfl,?_⟩
 ·rcases h1 t i h with ⟨_,b⟩ | b
  ·exact vq (by simpa using b)
  ·cases b
 ·rcases h2 f fn h with ⟨_,b⟩ | b
  ·simpa using b
  ·cases b
 ·show FW types.toList (λL=>FW funcs.toList (λM=>gU.Od L 0 .leaf (λT=>gU.Od M 0 .leaf (λF=>k ⟨⟨⟨a1,a2,a3,a4,⟨L⟩,a6,a7,a8,a9,Q9,Q_⟩,⟨M⟩⟩,T,F⟩))))=_
  rw[D_,D_,e1];exact e2
theorem pg(k:IntKind)(n:Int):ry k n=k.wrap n:=by
 have pos:∀ (m:Nat),IntKind.i64.wrap (.ofNat m)=if Nat.ble m 9223372036854775807=true then Int.ofNat m else IntKind.i64.wrap (.ofNat m):=by
  intro m
  split
  ·rename_i h
   have h':m<=9223372036854775807:=Nat.le_of_ble_eq_true h;have:(m:Int)<=9223372036854775807:=by omega
   exact IntWalk.i64_in (Int.ofNat m) (by show(-9223372036854775808:Int)<=(m:Int)/\(m:Int)<=9223372036854775807;omega)
  ·rfl
 have neg:∀ (m:Nat),IntKind.i64.wrap (.negSucc m)=if Nat.ble m 9223372036854775807=true then Int.negSucc m else IntKind.i64.wrap (.negSucc m):=by
  intro m
  split
  ·rename_i h
   have h':m<=9223372036854775807:=Nat.le_of_ble_eq_true h;have e:Int.negSucc m = -((m:Int)+1):=by omega
   exact IntWalk.i64_in (Int.negSucc m) (by rw[e];omega)
  ·rfl
 have un:∀ (m b:Nat),((m:Int)%((2:Int) ^ b))=((m%2 ^ b:Nat):Int):=by
  intro m b;rw[Int.natCast_emod];simp
 have T4:∀ (k:IntKind) (m:Nat),k.signed=false->k.wrap (.ofNat m)=.ofNat (m%2 ^ k.bits):=by
  intro k m hk;unfold IntKind.wrap;simp only[hk,Bool.false_and,Bool.false_eq_true,if_false];exact un m _
 cases n with
 | ofNat m =>
  cases k with
  | i64 =>
   show @Bool.rec (λ_=>Int) (IntKind.i64.wrap (.ofNat m)) (.ofNat m) (Nat.ble m 9223372036854775807)=_;rw[je];exact(pos m).symm
  | u64=>exact(T4 .u64 m rfl).symm
  | u32=>exact(T4 .u32 m rfl).symm
  | u8=>exact(T4 .u8 m rfl).symm
  | i8=>rfl
  | i16=>rfl
  | i32=>rfl
  | u16=>rfl
 | negSucc m =>
  cases k with
  | i64 =>
   show @Bool.rec (λ_=>Int) (IntKind.i64.wrap (.negSucc m)) (.negSucc m) (Nat.ble m 9223372036854775807)=_;rw[je];exact(neg m).symm
  | u64=>rfl
  | u32=>rfl
  | u8=>rfl
  | i8=>rfl
  | i16=>rfl
  | i32=>rfl
  | u16=>rfl
theorem rS(a b:Int):FV a b=decide (a<=b):=by
 cases a<;>cases b<;>unfold FV<;>rename_i a b
 ·rw[Bool.eq_iff_iff];simp
 ·symm;rw[decide_eq_false_iff_not];show ¬ ((a:Int)<=_);omega
 ·symm;rw[decide_eq_true_eq];show _<=(b:Int);omega
 ·rw[Bool.eq_iff_iff];simp;omega
theorem xE(a b:Int):Hr a b=(a==b):=by
 cases a<;>cases b<;>unfold Hr<;>rename_i a b<;>rw[Bool.eq_iff_iff]<;>simp<;>omega
theorem vS(a b:Int):(!decide (b<=a))=decide (a<b):=by
 rw[Bool.eq_iff_iff];simp
theorem xF{k k':IntKind}(h:Nat.beq (My k) (My k')=true):k=k':=by
 cases k<;>cases k'<;>first | rfl | (simp[My]at h)
variable[aP]
theorem dk{c:Bool}{r:Option (Next×St)}{x:Next×St}(h:BV c r=some x):c=true/\r=some x:=by
 cases c with
 | false=>cases h
 | true=>exact⟨rfl,h⟩
theorem eX{r f:Option (Next×St)}{x:Next×St}(h:GU r f=some x):r=some x\/f=some x:=by
 cases r with
 | none=>exact .inr h
 | some y=>exact .inl h
theorem b8{α:Type}{c:Bool}{r:Option α}{x:α}(h:@Bool.rec (λ_=>Option α) none r c=some x):c=true/\r=some x:=by
 cases c with
 | false=>cases h
 | true=>exact⟨rfl,h⟩
theorem kZ{B:Base}(hB:rz B){t:TypeId}{d:TypeDesc}(h:z_ B t=some d):B.P.underlying t=some d:=by
 unfold z_ at h
 split at h
 ·rename_i i hi
  have hi':=hB.T t i hi;unfold Program.underlying;rw[hi']
  split at h
  ·rename_i nm u hd
   split at h
   ·rename_i j hj
    cases h;have hj':=hB.T u j hj;obtain⟨_,_⟩:=i;simp only at hd;subst hd;simp only[hj',Option.map_some]
   ·cases h
  ·rename_i hd
   cases h
   split
   ·rename_i nm u heq
    cases heq;exact(hd _ _ rfl).elim
   ·rename_i heq
    cases heq;rfl
   ·rename_i heq;cases heq
 ·cases h
theorem bM{α β:Type}(P:Program)(m:Sem α)(f:α->Sem β)(s:St):az P (m >>= f) s=(az P m s).bind λ(a,s1)=>az P (f a) s1:=mR P m f s
theorem dB{P:Program}{t:TypeId}{d:TypeDesc}(h:P.underlying t=some d)(s:St):az P (Go.underlying t) s=some (d,s):=by
 unfold Go.underlying;show az P (match P.underlying t with | some d=>(Pure.pure d:Sem TypeDesc) | none=>Go.stuck "no such type") s=_;rw[h];rfl
theorem nS{P:Program}{t:TypeId}{d:TypeInfo}(h:P.info? t=some d)(s:St):az P (Go.typeInfo t) s=some (d,s):=by
 unfold Go.typeInfo;show az P (match P.info? t with | some d=>(Pure.pure d:Sem TypeInfo) | none=>Go.stuck "no such type") s=_;rw[h];rfl
theorem me{P:Program}{t:TypeId}{d:TypeInfo}(h:P.info? t=some d)(s:St):az P (Go.sizeOf t) s=some (d.size,s):=by
 unfold Go.sizeOf;rw[bM,nS h];rfl
theorem tq{P:Program}{t:TypeId}{d:TypeInfo}{z:Value}(h:P.info? t=some d)(hz:d.zero=some z)(s:St):az P (Go.zeroValue t) s=some (z,s):=by
 unfold Go.zeroValue;rw[bM,nS h];show az P (match d.zero with | some v=>(Pure.pure v:Sem Value) | none=>_) s=_;rw[hz];rfl
theorem Eb(h:Tr)(nx:Nat)(lg:List Touch)(b:Nat):(⟨h,nx,lg⟩:St).look b=Tr.gt deep h b:=(Tr.Hz _ _ _).symm
theorem Cs{B:Base}(hB:rz B){t:TypeId}(h:xB B t=true)(s:St):az B.P (Go.isAgg t) s=some (false,s):=by
 unfold xB at h
 split at h
 ·cases h
 ·cases h
 ·rename_i d h1 h2 hd
  unfold Go.isAgg;rw[bM,dB (kZ hB hd)];show az B.P (match d with | .struct _ | .array _ _=>(Pure.pure true:Sem Bool) | _=>Pure.pure false) s=_;cases d with
  | struct f=>exact(h1 _ rfl).elim
  | array n e=>exact(h2 _ _ rfl).elim
  | _=>rfl
 ·cases h
theorem HD{B:Base}(hB:rz B){ty:TypeId}{x:Value}{s:St}{r:Next×St}(h:Hu B ty x s=some r):sv (az B.P (Instr.loadAt ty x) s)=some r:=by
 unfold Hu at h
 split at h
 ·rename_i b off hh nx lg
  obtain⟨h1,h2⟩:=b8 h
  split at h2
  ·rename_i c e f hl
   split at h2
   ·rename_i v hv
    cases h2;have e1:az B.P (Instr.loadAt ty (.pointer (some ⟨b,off,none⟩))) ⟨hh,nx,lg⟩=some (v,⟨hh,nx,⟨b,some off,false⟩::lg⟩):=by
     unfold Instr.loadAt;rw[bM];show az B.P (loadVar ty ⟨b,off,none⟩) ⟨hh,nx,lg⟩=_;unfold loadVar;rw[bM,Cs hB h1];show az B.P (Go.load ⟨b,off,none⟩) ⟨hh,nx,lg⟩=_;unfold Go.load;simp only[az];rw[Eb,hl];dsimp only;rw[Ea]at hv;rw[← Array.getElem?_toList,hv];rfl
    rw[e1];rfl
   ·cases h2
  ·cases h2
 ·cases h
theorem FX{B:Base}(hB:rz B){ty:TypeId}{x v:Value}{s:St}{r:Next×St}(h:Cn B ty x v s=some r):su (az B.P (Instr.storeAt ty x v) s)=some r:=by
 unfold Cn at h
 split at h
 ·rename_i b off hh nx lg
  obtain⟨h1,h2⟩:=b8 h;rw[Bool.and_eq_true]at h1;obtain⟨h1a,h1b⟩:=h1
  split at h2
  ·rename_i c e hl
   obtain⟨h3,h4⟩:=b8 h2;rw[HB,Tr.HA]at h4;cases h4;rw[Bool.and_eq_true]at h3;have hoff:off<c.size:=by have:=Nat.le_of_ble_eq_true h3.1;rw[Array.length_toList]at this;exact this
   have hb:b<lim:=Nat.le_of_ble_eq_true h3.2;have hcells:v.cells = #[v]:=by cases v<;>first | (cases h1a;done) | rfl
   unfold RJ at h1b
   split at h1b
   ·rename_i i hi
    have hsz:i.size=1:=Nat.eq_of_beq_eq_true h1b;have e1:az B.P (Instr.storeAt ty (.pointer (some ⟨b,off,none⟩)) v) ⟨hh,nx,lg⟩=some ((),⟨Tr.set deep hh b (some (.cells ⟨c.toList.set off v⟩ e (0,0))),nx,⟨b,some off,true⟩::lg⟩):=by
     unfold Instr.storeAt;rw[bM];show az B.P (storeVar ty ⟨b,off,none⟩ v) ⟨hh,nx,lg⟩=_;unfold storeVar;rw[bM,me (hB.T _ _ hi)];dsimp only[Option.bind];rw[hcells,hsz];simp only[ne_eq,List.size_toArray,List.length_cons,List.length_nil,Nat.zero_add,not_true_eq_false,if_false];show az B.P (storeCells ⟨b,off,none⟩ [v] 0) ⟨hh,nx,lg⟩=_;have e2:az B.P (Go.store ⟨b,off,none⟩ v) ⟨hh,nx,lg⟩=some ((),⟨Tr.set deep hh b (some (.cells ⟨c.toList.set off v⟩ e (0,0))),nx,⟨b,some off,true⟩::lg⟩):=by
      unfold Go.store;simp only[az];rw[Eb,hl,h1a];simp only[hoff,hb,and_self,if_true,Option.some.injEq,Prod.mk.injEq];have ec:c.setIfInBounds off v=⟨c.toList.set off v⟩:=Array.ext' (by simp);rw[ec];exact⟨trivial,rfl⟩
     show az B.P (Go.store (Addr.add ⟨b,off,none⟩ 0) v >>= λ_=>storeCells ⟨b,off,none⟩ [] 1) ⟨hh,nx,lg⟩=_;rw[bM,show Addr.add ⟨b,off,none⟩ 0=⟨b,off,none⟩ from rfl,e2];rfl
    rw[e1];rfl
   ·cases h1b
  ·cases h2
 ·cases h
theorem Ec{B:Base}{c:Array Value}{t:TypeId}{v:Value}{s:St}{r:Next×St}(hv:v.cells=c)(h:MD c t s=some r):sv (az B.P (do pure (.pointer (some (← newVar t v))):Sem Value) s)=some r:=by
  obtain⟨hh,nx,lg⟩:=s;unfold MD at h;dsimp only at h;obtain⟨h1,h2⟩:=b8 h;rw[Tr.HA]at h2;cases h2;have hlim:4*nx<lim:=Nat.le_of_ble_eq_true h1;rw[bM];unfold newVar newRow newObj;rw[bM,hv];simp only[az,hlim,if_true];rfl
theorem FY{B:Base}(hB:rz B){t:TypeId}{s:St}{r:Next×St}(h:Cl B t s=some r):uX B.P t=true/\sv (az B.P (Instr.alloc t true (.tuple #[])) s)=some r:=by
 unfold Cl at h
 split at h
 ·rename_i c hc
  unfold Oe at hc
  split at hc
  ·rename_i i hi
   split at hc
   ·rename_i z hz
    obtain⟨h1,h2⟩:=b8 hc;cases h2;have hi':=hB.T _ _ hi;refine⟨by unfold uX;rw[hi'];dsimp only;rw[hz];exact h1,?_⟩;have:=Ec (B:=B) (v:=z) rfl h;unfold Instr.alloc;rw[bM,tq hi' hz];exact this
   ·cases hc
  ·cases hc
 ·cases h
theorem MH{B:Base}{t:TypeId}{v:Value}{s:St}{r:Next×St}(h:RL t v s=some r):sv (az B.P (Instr.box t v) s)=some r:=Ec rfl h
theorem FZ{B:Base}(hB:rz B){ty:TypeId}{x:Value}{f:Nat}{s:St}{r:Next×St}(h:Co B ty x f s=some r):vI B.P ty f=true/\sv (az B.P (Instr.fieldAt ty x f) s)=some r:=by
  unfold Co at h
  split at h
  · rename_i b off
    split at h
    · rename_i d hd
      cases h;unfold RI at hd
      split at hd
      · rename_i fields hu
        split at hd
        · rename_i fd VK
          split at hd
          · rename_i i hi
            have hi':=hB.T _ _ hi;have hz:i.size≠0/\d=fd.offset:=by
              rw[je]at hd
              split at hd
              · cases hd
              · rename_i hn
                cases hd;exact⟨λe=>hn (by rw[e];rfl),rfl⟩
            obtain⟨hz,rfl⟩:=hz;have hu':=kZ hB hu;constructor
            · unfold vI
              rw[hu'];dsimp only;rw[VK];dsimp only;rw[hi'];simpa using hz
            · unfold Instr.fieldAt
              rw[bM,dB hu'];dsimp only[Option.bind];rw[VK];dsimp only;rw[bM];show sv (az B.P (do let p ← fieldPlace ⟨b,off,none⟩ fd;pure (.pointer (some p)):Sem Value) s)=_;rw[bM];unfold fieldPlace;rw[bM,me hi'];dsimp only[Option.bind];rw[if_neg hz,Addr.fS];rfl
          · cases hd
        · cases hd
      · cases hd
    · cases h
  · cases h
theorem F3{B:Base}(hB:rz B){ty:TypeId}{x i:Value}{s:St}{r:Next×St}(h:Cm B ty x i s=some r):sv (az B.P (Instr.indexAt ty x i) s)=some r:=by
 unfold Cm at h
 split at h
 ·rename_i b off n c k i
  split at h
  ·rename_i z hz
   obtain⟨h1,h2⟩:=b8 h;cases h2;have hlt:i<n:=Nat.le_of_ble_eq_true h1;unfold Og at hz
   split at hz
   ·rename_i e hu
    split at hz
    ·rename_i ti hi
     cases hz;have hu':=kZ hB hu;unfold Instr.indexAt;rw[bM];show sv (az B.P _ s)=_;rw[bM,dB hu'];dsimp only[Option.bind];rw[bM];show sv (az B.P _ s)=_;rw[bM,dB hu'];dsimp only[Option.bind];have hc:(0:Int)<=Int.ofNat i/\Int.ofNat i<(n:Int):=⟨Int.natCast_nonneg i,Int.ofNat_lt.2 hlt⟩;rw[if_pos hc,bM,me (hB.T _ _ hi)];dsimp only[Option.bind];rw[Addr.fS];rfl
    ·cases hz
   ·cases hz
  ·cases h
 ·cases h
theorem Ai{P:Program}{x:Value}{i:Nat}{s:St}{r:Next×St}(h:tj x i s=some r):sv (az P (Instr.extract x i) s)=some r:=by
 unfold tj at h
 split at h
 ·rename_i vs
  split at h
  ·rename_i v hv
   cases h;rw[Ea,Array.getElem?_toList]at hv;unfold Instr.extract;dsimp only;rw[hv];rfl
  ·cases h
 ·cases h
theorem MI{op:BinOp}{k:IntKind}{a b:Int}{v:Value}(h:fint op k a b=some v)(t:TypeId):binOp op t (.int k a) (.int k b)=pure v/\bH 5 v=true:=by
 have e1:(if k≠k then (Go.stuck "BinOp: operands of different kinds" : Sem Value) else pure v)=pure v:=if_neg (λhh=>hh rfl);have bc:∀ (c:Bool) (x y:Value) (w:Value),@Bool.rec (λ_=>Option Value) (some x) (some y) c=some w->w=if c then y else x:=by
  intro c x y w hh;cases c<;>(cases hh;rfl)
 have b1:∀ c:Bool,(if c=true then Value.bool true else Value.bool false)=.bool c:=by intro c;cases c<;>rfl
 have b2:∀ c:Bool,(if c=true then Value.bool false else Value.bool true)=.bool (!c):=by intro c;cases c<;>rfl
 cases op with
 | add=>have h':zZ (ry k (Int.add a b)) (λn=>some (Value.int k n))=some v:=h;rw[rR]at h';cases h';refine⟨?_,rfl⟩;rw[pg];simp[binOp,Op.intArith]
 | sub=>have h':zZ (ry k (Int.sub a b)) (λn=>some (Value.int k n))=some v:=h;rw[rR]at h';cases h';refine⟨?_,rfl⟩;rw[pg];simp[binOp,Op.intArith];rfl
 | mul=>have h':zZ (ry k (Int.mul a b)) (λn=>some (Value.int k n))=some v:=h;rw[rR]at h';cases h';refine⟨?_,rfl⟩;rw[pg];simp[binOp,Op.intArith]
 | eql=>have h':=bc _ _ _ _ h;subst h';rw[b1,xE];exact⟨by simp[binOp,Op.intCmp],rfl⟩
 | neq=>have h':=bc _ _ _ _ h;subst h';rw[b2,xE];exact⟨by simp[binOp,Op.intCmp];rfl,rfl⟩
 | lss=>have h':=bc _ _ _ _ h;subst h';rw[b2,rS,vS];exact⟨by simp[binOp,Op.intCmp],rfl⟩
 | leq=>have h':=bc _ _ _ _ h;subst h';rw[b1,rS];exact⟨by simp[binOp,Op.intCmp],rfl⟩
 | gtr=>have h':=bc _ _ _ _ h;subst h';rw[b2,rS,vS];exact⟨by simp[binOp,Op.intCmp],rfl⟩
 | geq=>have h':=bc _ _ _ _ h;subst h';rw[b1,rS];exact⟨by simp[binOp,Op.intCmp],rfl⟩
 | _=>cases h
theorem MJ{op:BinOp}{x y v:Value}(h:Mz op x y=some v)(t:TypeId)(ox oy:Operand):(do eqGuard op t ox oy x y;binOp op t x y:Sem Value)=pure v/\bH 5 v=true/\bH 5 x=true/\bH 5 y=true:=by
  unfold Mz at h
  split at h
  · rename_i k a k' b
    obtain⟨h1,h2⟩:=b8 h;have:=xF h1;subst this;obtain⟨h3,h4⟩:=MI h2 t;refine⟨?_,h4,rfl,rfl⟩;rw[h3];unfold eqGuard
    split<;>rfl
  · cases h
theorem F4{P:Program}{ρ:Operand->Value}{o:Oper}{op:BinOp}{t u:TypeId}{x y:Operand}{v:Value}{s:St}(ho:o.op=.binOp op t x y u)(hx:aZ x=true)(hy:aZ y=true)(h:Mz op (ρ x) (ρ y)=some v):fI P ρ o s=some (.value v,s):=by
  obtain⟨h1,h2,h3,h4⟩:=MJ h t x y;unfold fI;rw[ho];simp only[kM,Op.operands,List.all_cons,List.all_nil,hx,hy,h3,h4,Bool.and_true,if_true];have:execOp ρ o=(do pure (.value (← (do eqGuard op t x y (ρ x) (ρ y);binOp op t (ρ x) (ρ y):Sem Value))):Sem Next):=by
    unfold execOp;rw[ho]
  rw[this,h1];show(if bH 5 v=true then some (Next.value v,s) else none)=_;rw[if_pos h2]
theorem Ed{B:Base}(hB:rz B){t:TypeId}{k:IntKind}(h:MB B t=some k):B.P.underlying t=some (.int k):=by
 unfold MB at h
 split at h
 ·rename_i k' hu
  cases h;exact kZ hB hu
 ·cases h
theorem gV{α β:Type}(P:Program)(m:Sem α)(f:α->Sem β):iZ P (m >>= f)=(iZ P m).bind λa=>iZ P (f a):=by
 show iZ P (m.bind f)=_
 induction m with
 | pure a=>rfl
 | choose q k ih =>
  simp only[Sem.bind,iZ]
  split
  ·exact ih 0
  ·rfl
 | program k ih=>exact ih P
 | mark m k ih=>exact ih
 | _=>rfl
theorem ii{P:Program}{t:TypeId}{d:TypeDesc}(h:P.underlying t=some d):iZ P (Go.underlying t)=some d:=by
 unfold Go.underlying;show iZ P (match P.underlying t with | some d=>(Pure.pure d:Sem TypeDesc) | none=>Go.stuck "no such type")=_;rw[h];rfl
theorem HE{B:Base}(hB:rz B){ρ:Operand->Value}{o:Oper}{t u:TypeId}{x:Operand}{s:St}{r:Next×St}(ho:o.op=.convert t u x)(hx:aZ x=true)(h:Hs B t u (ρ x) s=some r):fI B.P ρ o s=some r:=by
  unfold Hs at h
  split at h
  · rename_i k0 n hv
    split at h
    · rename_i k1 k ht hk
      rw[rR]at h;cases h;unfold fI;rw[ho];simp only[kM,Op.operands,List.all_cons,List.all_nil,hx,hv,bH,Bool.and_true,if_true];have e:execOp ρ o=(do pure (.value (← convert t u (ρ x))):Sem Next):=by
        unfold execOp;rw[ho]
      have e2:iZ B.P (convert t u (.int k0 n))=some (.int k (k.wrap n)):=by
        unfold convert;rw[gV,ii (Ed hB ht)];dsimp only[Option.bind];rw[gV,ii (Ed hB hk)];rfl
      rw[e,hv,gV,e2,pg];rfl
    · cases h
  · cases h
theorem MK{P:Program}{ρ:Operand->Value}{o:Oper}{op:UnOp}{t:TypeId}{x:Operand}{s:St}{r:Next×St}(ho:o.op=.unOp op t x)(hx:aZ x=true)(h:Ps op (ρ x) s=some r):fI P ρ o s=some r:=by
  unfold Ps at h
  split at h
  · rename_i b hv
    unfold fI;rw[ho];simp only[kM,Op.operands,List.all_cons,List.all_nil,hx,hv,bH,Bool.and_true,if_true];have e:execOp ρ o=(do pure (.value (← Op.unary .not (ρ x))):Sem Next):=by
      unfold execOp;rw[ho]
    rw[e,hv];cases b<;>(cases h;rfl)
  · cases h
theorem Ee{B:Base}(hB:rz B){t:TypeId}(h:MA B t=true):∃ e,B.P.underlying t=some (.pointer e):=by
 unfold MA at h
 split at h
 ·rename_i e hu
  exact⟨e,kZ hB hu⟩
 ·cases h
theorem F5(a:Addr):bH 5 (.pointer (some a))=false:=rfl
def Px(op:BinOp)(s:St):Option (Next×St) :=
 match op with
 | .eql=>some (.value (.bool false),s)
 | .neq=>some (.value (.bool true),s)
 | _=>none
theorem vT{P:Program}{ρ:Operand->Value}{o:Oper}{op:BinOp}{t u:TypeId}{x y:Operand}{s:St}(ho:o.op=.binOp op t x y u) :
  fJ P ρ o s=(match fI P ρ o s with | some r=>some r | none=>if bg [x,y] then (if fX P t (ρ x) (ρ y) then Px op s else G9 op (ρ x) (ρ y) s) else none):=by
 obtain⟨dst,T5,ty,pos,after,guard⟩:=o;simp only at ho;subst ho;rfl
theorem HG{P:Program}{ρ:Operand->Value}{o:Oper}{op:UnOp}{t:TypeId}{x:Operand}{s:St}(ho:o.op=.unOp op t x) :
  fJ P ρ o s=(match fI P ρ o s with | some r=>some r | none=>if aZ x then G_ op (ρ x) s else none):=by
 obtain⟨dst,T5,ty,pos,after,guard⟩:=o;simp only at ho;subst ho;rfl
theorem Ct{P:Program}{ρ:Operand->Value}{o:Oper}{t u:TypeId}{x:Operand}{s:St}(ho:o.op=.convert t u x) :
  fJ P ρ o s=(match fI P ρ o s with | some r=>some r | none=>if aZ x then B7 P t u (ρ x) s else none):=by
 obtain⟨dst,T5,ty,pos,after,guard⟩:=o;simp only at ho;subst ho;rfl
theorem Cu{P:Program}{ρ:Operand->Value}{o:Oper}{c:Call}{s:St}(ho:o.op=.call c) :
  fJ P ρ o s=(match fI P ρ o s with | some r=>some r | none=>D2 P ρ c o.type s):=by
 obtain⟨dst,T5,ty,pos,after,guard⟩:=o;simp only at ho;subst ho;rfl
theorem HI{B:Base}(hB:rz B){ρ:Operand->Value}{o:Oper}{op:BinOp}{t u:TypeId}{x y:Operand}{s:St}{r:Next×St}(ho:o.op=.binOp op t x y u)(hx:aZ x=true)(hy:aZ y=true)
    (h:Ht B op t (ρ x) (ρ y) s=some r) :
    fJ B.P ρ o s=some r:=by
  rw[vT ho];unfold Ht at h
  split at h
  · rename_i a RN Tl
    obtain⟨h1,h2⟩:=b8 h;obtain⟨e,hu⟩:=Ee hB h1;have hf:fI B.P ρ o s=none:=by
      unfold fI;rw[ho];simp only[kM,Op.operands,List.all_cons,List.all_nil,RN,F5,Bool.and_false,Bool.false_and,Bool.and_true,Bool.false_eq_true,if_false]
    rw[hf];dsimp only;have hn:fX B.P t (ρ x) (ρ y)=true:=by
      unfold fX;rw[hu,RN,Tl]
    have ha:bg [x,y]=true:=by simp[bg,hx,hy]
    rw[ha,hn];simp only[if_true];exact h2
  · rename_i RN Tl
    obtain⟨h1,h2⟩:=b8 h;obtain⟨e,hu⟩:=Ee hB h1;have heq:iZ B.P (Op.equal t (.pointer none) (.pointer none))=some true:=by
      have hk:∀ n,iZ B.P (Op.equalIn (n+1) t (.pointer none) (.pointer none))=some true:=by
        intro n;unfold Op.equalIn;rw[gV,ii hu];rfl
      exact hk 9999
    have hg:∀ op,eqGuard op t x y (.pointer none) (.pointer none)=pure ():=by
      intro op;unfold eqGuard
      split<;>rfl
    have hf:fI B.P ρ o s=some r:=by
      unfold fI;rw[ho];simp only[kM,Op.operands,List.all_cons,List.all_nil,hx,hy,RN,Tl,bH,Bool.and_true,if_true];have ee:execOp ρ o=(do pure (.value (← (do eqGuard op t x y (ρ x) (ρ y);binOp op t (ρ x) (ρ y):Sem Value))):Sem Next):=by
        unfold execOp;rw[ho]
      rw[ee,RN,Tl,gV,gV,hg];cases op with
      | eql =>
        cases h2;have eb:binOp .eql t (.pointer none) (.pointer none)=(do pure (.bool (← Op.equal t (.pointer none) (.pointer none))):Sem Value):=rfl;show(match (iZ B.P (binOp .eql t (.pointer none) (.pointer none))).bind λa=>iZ B.P (pure (Next.value a)) with | some (.value v)=>if bH 5 v=true then some (Next.value v,s) else none | _=>none)=_;rw[eb,gV,heq];rfl
      | neq =>
        cases h2;have eb:binOp .neq t (.pointer none) (.pointer none)=(do pure (.bool (!(← Op.equal t (.pointer none) (.pointer none)))):Sem Value):=rfl;show(match (iZ B.P (binOp .neq t (.pointer none) (.pointer none))).bind λa=>iZ B.P (pure (Next.value a)) with | some (.value v)=>if bH 5 v=true then some (Next.value v,s) else none | _=>none)=_;rw[eb,gV,heq];rfl
      | _=>cases h2
    rw[hf]
  · cases h
theorem ML{B:Base}(hB:rz B){t ty:TypeId}{x:Value}{s:St}{r:Next×St}(h:Pr B t x s=some r):sv (az B.P (Builtin.len_ #[t] ty #[x]) s)=some r:=by
 unfold Pr at h
 split at h
 ·rename_i a n c
  obtain⟨h1,h2⟩:=b8 h;cases h2;unfold MC at h1
  split at h1
  ·rename_i e hu
   unfold Builtin.len_;simp only[List.getElem?_toArray,List.getElem?_cons_zero];rw[bM,dB (kZ hB hu)];rfl
  ·cases h1
  ·cases h1
 ·rename_i b
  obtain⟨h1,h2⟩:=b8 h;cases h2;unfold MC at h1
  split at h1
  ·cases h1
  ·rename_i hu
   unfold Builtin.len_;simp only[List.getElem?_toArray,List.getElem?_cons_zero];rw[bM,dB (kZ hB hu)];rfl
  ·cases h1
 ·cases h
theorem HJ{B:Base}(hB:rz B){f:FuncId}(h:Tk B f=true):wW B.P f=true:=by
 unfold Tk at h
 split at h
 ·rename_i fn hf
  unfold wW;rw[hB.F _ _ hf];exact h
 ·cases h
theorem Aj(t:TV):∀ xs:List Operand,vO t xs=xs.map (db t):=by
 intro xs
 induction xs with
 | nil=>rfl
 | cons x xs ih =>
  show db t x::vO t xs=_;rw[ih];rfl
theorem tt{P:Program}{ρ:Operand->Value}{o:Oper}{c:Call}{s:St}(ho:o.op=.call c)(hc:∀ b,c.callee=.builtin b->b≠.min/\b≠.max):fI P ρ o s=none:=by
 have:kM o.op=false:=by
  rw[ho];obtain⟨callee,args,ts⟩:=c;cases callee with
  | builtin b =>
   have:=hc b rfl;cases b<;>first | rfl | (exact absurd rfl this.1) | (exact absurd rfl this.2)
  | _=>rfl
 unfold fI;rw[this];simp
theorem Cv{B:Base}(hB:rz B){t:TV}{o:Oper}{c:Call}{s:St}{r:Next×St}(ho:o.op=.call c)(h:xC B t o c s=some r):fJ B.P (db t) o s=some r:=by
 have hr:=Cu (P:=B.P) (ρ:=db t) (s:=s) ho;unfold xC at h
 split at h
 ·rename_i f hf
  split at h
  ·rename_i g first captured hv
   obtain⟨h1,h2⟩:=dk h;rw[Bool.and_eq_true]at h1;cases h2;rw[hr,tt ho (λb e=>by rw[hf]at e;cases e)];dsimp only;unfold D2;rw[h1.1,hf];simp only[if_true,hv,HJ hB h1.2]
   congr 3
   apply Array.ext';simp[Aj]
  ·exact h
 ·rename_i b hb
  unfold Aa at h
  split at h
  ·rename_i x ty ha ht
   obtain⟨h1,h2⟩:=dk h;rcases eX h2 with h3 | h3
   ·rw[hr,tt ho (λb e=>by rw[hb]at e;cases e;exact⟨by simp,by simp⟩)]
    dsimp only;unfold D2;rw[h1,hb];simp only[if_true,ha,ht];exact ML hB h3
   ·exact h3
  ·exact h
 ·exact h
theorem T6{x y:Operand}(h:bg [x,y]=true):aZ x=true/\aZ y=true:=by simpa[bg] using h
theorem HK{B:Base}(hB:rz B){t:TV}{o:Oper}{s:St}{r:Next×St}(h:D3 B t o s=some r):fJ B.P (db t) o s=some r:=by
 unfold D3 at h
 split at h
 ·rename_i x ho
  obtain⟨h1,h2⟩:=dk h;unfold fJ;rw[ho];simp only[h1,if_true];exact h2
 ·rename_i x ho
  obtain⟨h1,h2⟩:=dk h;unfold fJ;rw[ho];simp only[h1,if_true];exact h2
 ·rename_i c x y ho
  obtain⟨h1,h2⟩:=dk h;unfold fJ;rw[ho];simp only[h1,if_true];unfold Oh at h2
  split at h2
  ·rename_i b hb
   cases h2;cases b<;>rfl
  ·cases h2
 ·rename_i op ty x y u ho
  obtain⟨h1,h2⟩:=dk h;obtain⟨hx,hy⟩:=T6 h1
  split at h2
  ·rename_i v hv
   cases h2;rw[vT ho,F4 ho hx hy hv]
  ·rcases eX h2 with h3 | h3
   ·exact HI hB ho hx hy h3
   ·exact h3
 ·rename_i op ty x ho
  obtain⟨h1,h2⟩:=dk h;rcases eX h2 with h3 | h3
  ·rw[HG ho,MK ho h1 h3]
  ·exact h3
 ·rename_i a u x ho
  obtain⟨h1,h2⟩:=dk h;rcases eX h2 with h3 | h3
  ·rw[Ct ho,HE hB ho h1 h3]
  ·exact h3
 ·rename_i ty ho
  rcases eX h with h3 | h3
  ·obtain⟨h4,h5⟩:=FY hB h3
   unfold fJ;rw[ho];simp only[h4,if_true];exact h5
  ·exact h3
 ·rename_i ty x ho
  obtain⟨h1,h2⟩:=dk h;rcases eX h2 with h3 | h3
  ·unfold fJ
   rw[ho];simp only[h1,if_true];exact MH h3
  ·exact h3
 ·rename_i ty x ho
  obtain⟨h1,h2⟩:=dk h;rcases eX h2 with h3 | h3
  ·unfold fJ
   rw[ho];simp only[h1,if_true];exact HD hB h3
  ·exact h3
 ·rename_i ty x y ho
  obtain⟨h1,h2⟩:=dk h;rcases eX h2 with h3 | h3
  ·unfold fJ
   rw[ho];simp only[h1,if_true];exact FX hB h3
  ·exact h3
 ·rename_i ty x f ho
  obtain⟨h1,h2⟩:=dk h;rcases eX h2 with h3 | h3
  ·obtain⟨h4,h5⟩:=FZ hB h3
   unfold fJ;rw[ho];simp only[h1,h4,Bool.and_self,if_true];exact h5
  ·exact h3
 ·rename_i ty x i ho
  obtain⟨h1,h2⟩:=dk h;rcases eX h2 with h3 | h3
  ·unfold fJ
   rw[ho];simp only[h1,if_true];exact F3 hB h3
  ·exact h3
 ·rename_i x ho
  obtain⟨h1,h2⟩:=dk h;unfold fJ;rw[ho];simp only[h1,if_true];exact h2
 ·rename_i x i ho
  obtain⟨h1,h2⟩:=dk h;rcases eX h2 with h3 | h3
  ·unfold fJ
   rw[ho];simp only[h1,if_true];exact Ai h3
  ·exact h3
 ·rename_i c ho
  exact Cv hB ho h
 ·exact h
end Go.Ev
