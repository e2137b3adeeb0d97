/- Part of a proof: see the last text. -/
import Derived.Test.YtankbefdlbcdnaaZd8
set_option linter.unusedSectionVars false
set_option linter.unusedSimpArgs false
set_option linter.unusedVariables false
namespace Go.Ev
open Go.RowKit
variable[aL]
theorem gw{α:Sort _}(b:Bool)(x y:α):@Bool.rec (λ_=>α) x y b=if b=true then y else x:=by cases b<;>rfl
theorem uV(a b:Nat):(Nat.beq a b=true)=(a=b):=by
 simp
theorem TV.dj(v:Value)(l r:TV)(n:Nat):(TV.node v l r).get n=if n=0 then v else if n%2=1 then l.get (n / 2) else r.get (n / 2-1):=by
 show @Bool.rec (λ_=>Value) (@Bool.rec (λ_=>Value) (r.get (Nat.sub (Nat.div n 2) 1)) (l.get (Nat.div n 2)) (Nat.beq (Nat.mod n 2) 1)) v (Nat.beq n 0)=_;rw[gw,gw];simp only[uV];rfl
theorem TV.jr(n:Nat):TV.leaf.get n=undef:=rfl
def TV.val:TV->Value
 | .leaf=>undef
 | .node v _ _=>v
def TV.wo:TV->TV
 | .leaf=>.leaf
 | .node _ l _=>l
def TV.wq:TV->TV
 | .leaf=>.leaf
 | .node _ _ r=>r
def TV.set:Nat->TV->Nat->Value->TV
 | 0,t,_,_=>t
 | d+1,t,n,x=>if n=0 then .node x t.wo t.wq else if n%2=1 then .node t.val (t.wo.set d (n / 2) x) t.wq else .node t.val t.wo (t.wq.set d (n / 2-1) x)
theorem TV.yK{β:Type} : ∀ (d:Nat) (t:TV) (n:Nat) (x:Value) (k:TV->β),TV.jC d t n x k=k (TV.set d t n x):=by
 intro d
 induction d with
 | zero=>intro t n x k;rfl
 | succ d ih =>
  intro t n x k;cases t with
  | leaf =>
   show @Bool.rec (λ_=>β) (@Bool.rec (λ_=>β) (TV.jC d .leaf (Nat.sub (Nat.div n 2) 1) x (λr=>k (.node undef .leaf r))) (TV.jC d .leaf (Nat.div n 2) x (λl=>k (.node undef l .leaf))) (Nat.beq (Nat.mod n 2) 1)) (k (.node x .leaf .leaf)) (Nat.beq n 0)=_;rw[gw,gw];simp only[uV,ih]
   by_cases h0:n=0
   ·rw[if_pos h0];subst h0;rfl
   ·rw[if_neg h0]
    by_cases h1:n.mod 2=1
    ·have e:TV.set (d+1) .leaf n x=.node undef (TV.set d .leaf (n / 2) x) .leaf:=by
      show(if n=0 then _ else if n%2=1 then _ else _)=_;rw[if_neg h0,if_pos (show n%2=1 from h1)];rfl
     rw[if_pos h1,e];rfl
    ·have e:TV.set (d+1) .leaf n x=.node undef .leaf (TV.set d .leaf (n / 2-1) x):=by
      show(if n=0 then _ else if n%2=1 then _ else _)=_;rw[if_neg h0,if_neg (show ¬ n%2=1 from h1)];rfl
     rw[if_neg h1,e];rfl
  | node v l r =>
   show @Bool.rec (λ_=>β) (@Bool.rec (λ_=>β) (TV.jC d r (Nat.sub (Nat.div n 2) 1) x (λr'=>k (.node v l r'))) (TV.jC d l (Nat.div n 2) x (λl'=>k (.node v l' r))) (Nat.beq (Nat.mod n 2) 1)) (k (.node x l r)) (Nat.beq n 0)=_;rw[gw,gw];simp only[uV,ih]
   by_cases h0:n=0
   ·rw[if_pos h0];subst h0;rfl
   ·rw[if_neg h0]
    by_cases h1:n.mod 2=1
    ·have e:TV.set (d+1) (.node v l r) n x=.node v (TV.set d l (n / 2) x) r:=by
      show(if n=0 then _ else if n%2=1 then _ else _)=_;rw[if_neg h0,if_pos (show n%2=1 from h1)];rfl
     rw[if_pos h1,e];rfl
    ·have e:TV.set (d+1) (.node v l r) n x=.node v l (TV.set d r (n / 2-1) x):=by
      show(if n=0 then _ else if n%2=1 then _ else _)=_;rw[if_neg h0,if_neg (show ¬ n%2=1 from h1)];rfl
     rw[if_neg h1,e];rfl
theorem TV.get_eq(t:TV)(n:Nat):t.get n=if n=0 then t.val else if n%2=1 then t.wo.get (n / 2) else t.wq.get (n / 2-1):=by
 cases t with
 | leaf=>simp[TV.jr,TV.val,TV.wo,TV.wq]
 | node v l r=>exact TV.dj v l r n
theorem TV.gR(d:Nat):∀ (t:TV) (n m:Nat) (x:Value),n+1<2 ^ d->(t.set d n x).get m=if m=n then x else t.get m:=by
 induction d with
 | zero=>intro t n m x h;simp at h
 | succ d ih =>
  intro t n m x h;have hp:2 ^ (d+1)=2*2 ^ d:=by rw[Nat.pow_succ,Nat.mul_comm]
  unfold TV.set
  by_cases h0:n=0
  ·subst h0
   rw[if_pos rfl,TV.dj,TV.get_eq t]
   by_cases hm:m=0
   ·simp[hm]
   ·simp[hm]
  ·rw[if_neg h0]
   by_cases h1:n%2=1
   ·rw[if_pos h1,TV.dj,TV.get_eq t]
    by_cases hm:m=0
    ·subst hm
     rw[if_pos rfl,if_pos rfl,if_neg (λe=>h0 e.symm)]
    ·rw[if_neg hm,if_neg hm]
     by_cases hm1:m%2=1
     ·rw[if_pos hm1,if_pos hm1,ih _ _ _ _ (by omega)]
      by_cases e:m=n
      ·rw[if_pos e,if_pos (by omega)]
      ·rw[if_neg e,if_neg (by omega)]
     ·rw[if_neg hm1,if_neg hm1,if_neg (by omega)]
   ·rw[if_neg h1,TV.dj,TV.get_eq t]
    by_cases hm:m=0
    ·subst hm
     rw[if_pos rfl,if_pos rfl,if_neg (λe=>h0 e.symm)]
    ·rw[if_neg hm,if_neg hm]
     by_cases hm1:m%2=1
     ·rw[if_pos hm1,if_pos hm1,if_neg (by omega)]
     ·rw[if_neg hm1,if_neg hm1,ih _ _ _ _ (by omega)]
      by_cases e:m=n
      ·rw[if_pos e,if_pos (by omega)]
      ·rw[if_neg e,if_neg (by omega)]
theorem iZ{β:Type}(n:Nat)(k:Nat->β):od n k=k n:=by cases n<;>rfl
theorem oo{β:Type}(n:Int)(k:Int->β):uP n k=k n:=by
 cases n with
 | ofNat n=>exact iZ n (λn=>k (.ofNat n))
 | negSucc n=>exact iZ n (λn=>k (.negSucc n))
theorem yL{β:Type}(a:Option Addr)(k:Option Addr->β):E2 a k=k a:=by
 cases a with
 | none=>rfl
 | some a =>
  obtain⟨b,off,sp⟩:=a;show od b (λb=>od off (λoff=>k (some ⟨b,off,sp⟩)))=_;rw[iZ,iZ]
theorem yM{β:Type}(v:Value)(k:Value->β):BH v k=k v:=by
 cases v with
 | pointer a=>exact yL a (λa=>k (.pointer a))
 | slice a n c =>
  show E2 a (λa=>od n (λn=>od c (λc=>k (.slice a n c))))=_;rw[yL,iZ,iZ]
 | _=>rfl
theorem yN{α β:Type} : ∀ (l:List α) (k:List α->β),Ak l k=k l:=by
 intro l
 induction l with
 | nil=>intro k;rfl
 | cons v l ih =>
  intro k;show Ak l (λl=>k (v::l))=_;rw[ih]
theorem Tr.BR:∀ (d:Nat) (t:Tr) (n:Nat),Tr.gt d t n=Tr.get d t n:=by
 intro d
 induction d with
 | zero=>intro t n;rfl
 | succ d ih =>
  intro t n;cases t with
  | leaf=>rfl
  | node v l r =>
   show @Bool.rec (λ_=>Option Obj) (@Bool.rec (λ_=>Option Obj) (Tr.gt d r (Nat.div n 2)) (Tr.gt d l (Nat.div n 2)) (Nat.beq (Nat.mod n 2) 0)) v (Nat.beq n 0)=_;rw[gw,gw];simp only[uV,ih];rfl
theorem Tr.BS{β:Type} : ∀ (d:Nat) (t:Tr) (n:Nat) (x:Option Obj) (k:Tr->β),Tr.Hx d t n x k=k (Tr.set d t n x):=by
 intro d
 induction d with
 | zero=>intro t n x k;rfl
 | succ d ih =>
  intro t n x k;cases t with
  | leaf =>
   show @Bool.rec (λ_=>β) (@Bool.rec (λ_=>β) (Tr.Hx d .leaf (Nat.div n 2) x (λr=>k (.node none .leaf r))) (Tr.Hx d .leaf (Nat.div n 2) x (λl=>k (.node none l .leaf))) (Nat.beq (Nat.mod n 2) 0)) (k (.node x .leaf .leaf)) (Nat.beq n 0)=_;rw[gw,gw];simp only[uV,ih]
   by_cases h0:n=0
   ·rw[if_pos h0];subst h0;rfl
   ·rw[if_neg h0]
    by_cases h1:n.mod 2=0
    ·have e:Tr.set (d+1) .leaf n x=.node none (Tr.set d .leaf (n / 2) x) .leaf:=by
      show(if n=0 then _ else if n%2=0 then _ else _)=_;rw[if_neg h0,if_pos (show n%2=0 from h1)];rfl
     rw[if_pos h1,e];rfl
    ·have e:Tr.set (d+1) .leaf n x=.node none .leaf (Tr.set d .leaf (n / 2) x):=by
      show(if n=0 then _ else if n%2=0 then _ else _)=_;rw[if_neg h0,if_neg (show ¬ n%2=0 from h1)];rfl
     rw[if_neg h1,e];rfl
  | node v l r =>
   show @Bool.rec (λ_=>β) (@Bool.rec (λ_=>β) (Tr.Hx d r (Nat.div n 2) x (λr'=>k (.node v l r'))) (Tr.Hx d l (Nat.div n 2) x (λl'=>k (.node v l' r))) (Nat.beq (Nat.mod n 2) 0)) (k (.node x l r)) (Nat.beq n 0)=_;rw[gw,gw];simp only[uV,ih]
   by_cases h0:n=0
   ·rw[if_pos h0];subst h0;rfl
   ·rw[if_neg h0]
    by_cases h1:n.mod 2=0
    ·have e:Tr.set (d+1) (.node v l r) n x=.node v (Tr.set d l (n / 2) x) r:=by
      show(if n=0 then _ else if n%2=0 then _ else _)=_;rw[if_neg h0,if_pos (show n%2=0 from h1)];rfl
     rw[if_pos h1,e];rfl
    ·have e:Tr.set (d+1) (.node v l r) n x=.node v l (Tr.set d r (n / 2) x):=by
      show(if n=0 then _ else if n%2=0 then _ else _)=_;rw[if_neg h0,if_neg (show ¬ n%2=0 from h1)];rfl
     rw[if_neg h1,e];rfl
theorem yO:∀ (l:List Value) (n:Nat),Hy l n=l[n]?:=by
 intro l
 induction l with
 | nil=>intro n;rfl
 | cons v l ih =>
  intro n;cases n with
  | zero=>rfl
  | succ n=>exact ih n
theorem BT{β:Type}(x:Value):∀ (l:List Value) (n:Nat) (k:List Value->β),BI l x n k=k (l.set n x):=by
 intro l
 induction l with
 | nil=>intro n k;rfl
 | cons v l ih =>
  intro n k;cases n with
  | zero=>rfl
  | succ n =>
   show BI l x n (λl'=>k (v::l'))=_;rw[ih];rfl
theorem fl.dj{α:Type}(v:Option α)(l r:fl α)(n:Nat):(fl.node v l r).get n=if n=0 then v else if n%2=1 then l.get (n / 2) else r.get (n / 2-1):=by
 show @Bool.rec (λ_=>Option α) (@Bool.rec (λ_=>Option α) (r.get (Nat.sub (Nat.div n 2) 1)) (l.get (Nat.div n 2)) (Nat.beq (Nat.mod n 2) 1)) v (Nat.beq n 0)=_;rw[gw,gw];simp only[uV];rfl
theorem fl.Fc{α β:Type} : ∀ (d:Nat) (t:fl α) (n:Nat) (x:α) (k:fl α->β),∃ t',fl.jC d t n x k=k t'/\∀ m y,t'.get m=some y->(m=n/\y=x)\/t.get m=some y:=by
 intro d
 induction d with
 | zero=>intro t n x k;exact⟨t,rfl,λm y h=>.inr h⟩
 | succ d ih =>
  intro t n x k;have key:∀ (v:Option α) (l r:fl α),(∀ m,t.get m=(fl.node v l r).get m)->
    fl.jC (d+1) t n x k = @Bool.rec (λ_=>β) (@Bool.rec (λ_=>β) (fl.jC d r (Nat.sub (Nat.div n 2) 1) x (λr'=>k (.node v l r'))) (fl.jC d l (Nat.div n 2) x (λl'=>k (.node v l' r))) (Nat.beq (Nat.mod n 2) 1)) (k (.node (some x) l r)) (Nat.beq n 0)->
    ∃ t',fl.jC (d+1) t n x k=k t'/\∀ m y,t'.get m=some y->(m=n/\y=x)\/t.get m=some y:=by
   intro v l r hg he;rw[he,gw,gw];simp only[uV]
   by_cases h0:n=0
   ·rw[if_pos h0]
    refine⟨_,rfl,λm y hy=>?_⟩;rw[fl.dj]at hy
    by_cases hm:m=0
    ·rw[if_pos hm]at hy
     cases hy;exact .inl ⟨by omega,rfl⟩
    ·rw[if_neg hm]at hy
     refine .inr ?_;rw[hg,fl.dj,if_neg hm];exact hy
   ·rw[if_neg h0]
    by_cases h1:n.mod 2=1
    ·rw[if_pos h1]
     obtain⟨t',e,ht⟩:=ih l (n / 2) x (λl'=>k (.node v l' r));refine⟨_,e,λm y hy=>?_⟩;rw[fl.dj]at hy;rw[hg,fl.dj];have h1':n%2=1:=h1
     by_cases hm:m=0
     ·rw[if_pos hm]at hy ⊢
      exact .inr hy
     ·rw[if_neg hm]at hy ⊢
      by_cases hm1:m%2=1
      ·rw[if_pos hm1]at hy ⊢
       rcases ht _ _ hy with ⟨a,b⟩ | a
       ·exact .inl ⟨by omega,b⟩
       ·exact .inr a
      ·rw[if_neg hm1]at hy ⊢
       exact .inr hy
    ·rw[if_neg h1]
     obtain⟨t',e,ht⟩:=ih r (n / 2-1) x (λr'=>k (.node v l r'));refine⟨_,e,λm y hy=>?_⟩;rw[fl.dj]at hy;rw[hg,fl.dj];have h1':¬ n%2=1:=h1
     by_cases hm:m=0
     ·rw[if_pos hm]at hy ⊢
      exact .inr hy
     ·rw[if_neg hm]at hy ⊢
      by_cases hm1:m%2=1
      ·rw[if_pos hm1]at hy ⊢
       exact .inr hy
      ·rw[if_neg hm1]at hy ⊢
       rcases ht _ _ hy with ⟨a,b⟩ | a
       ·exact .inl ⟨by omega,b⟩
       ·exact .inr a
  cases t with
  | leaf =>
   refine key none .leaf .leaf (λm=>?_) rfl;rw[fl.dj]
   by_cases hm:m=0
   ·rw[if_pos hm];rfl
   ·rw[if_neg hm]
    split<;>rfl
  | node v l r=>exact key v l r (λm=>rfl) rfl
theorem fl.BU{α β:Type} : ∀ (l:List α) (i:Nat) (t:fl α) (k:fl α->β),∃ t',fl.GK l i t k=k t'/\∀ m y,t'.get m=some y->(i<=m/\l[m-i]? = some y)\/t.get m=some y:=by
 intro l
 induction l with
 | nil=>intro i t k;exact⟨t,rfl,λm y h=>.inr h⟩
 | cons v l ih =>
  intro i t k;obtain⟨t1,e1,h1⟩:=fl.Fc 16 t i v (λt1=>fl.GK l (i+1) t1 k);obtain⟨t2,e2,h2⟩:=ih (i+1) t1 k;refine⟨t2,?_,λm y hy=>?_⟩
  ·show fl.jC 16 t i v (λt1=>fl.GK l (Nat.succ i) t1 k)=_
   rw[e1];exact e2
  ·rcases h2 m y hy with ⟨a,b⟩ | a
   ·refine .inl ⟨by omega,?_⟩
    rw[show m-i=(m-(i+1))+1 by omega];exact b
   ·rcases h1 m y a with ⟨b,c⟩ | b
    ·subst b c
     exact .inl ⟨Nat.le_refl _,by simp⟩
    ·exact .inr b
structure nY(B:Base):Prop where
 T:∀ t i,B.T.get t=some i->B.P.info? t=some i
 F:∀ f fn,B.F.get f=some fn->B.P.funcs[f]? = some fn
theorem qv{P:Program}{t:TypeId}{i:TypeInfo}(h:P.types[t]? = some i):P.info? t=some i:=by
 have hlt:t<P.types.size:=(Array.getElem?_eq_some_iff.1 h).1;show(if t<P.types.size then P.types[t]? else Made.infoAt P.toTables Made.depth t)=_;rw[if_pos hlt];exact h
theorem uW{β:Type}(P:Program)(k:Base->β):∃ B,nY B/\B.P=P/\dL P k=k B:=by
 obtain⟨⟨a1,a2,a3,a4,types,a6,a7,a8,a9,Iz,IA⟩,funcs⟩:=P;obtain⟨T,e1,h1⟩:=fl.BU types.toList 0 .leaf (λT=>fl.GK funcs.toList 0 .leaf (λF=>k ⟨⟨⟨a1,a2,a3,a4,⟨types.toList⟩,a6,a7,a8,a9,Iz,IA⟩,⟨funcs.toList⟩⟩,T,F⟩));obtain⟨F,e2,h2⟩:=fl.BU funcs.toList 0 .leaf (λF=>k ⟨⟨⟨a1,a2,a3,a4,⟨types.toList⟩,a6,a7,a8,a9,Iz,IA⟩,⟨funcs.toList⟩⟩,T,F⟩);refine⟨⟨⟨⟨a1,a2,a3,a4,⟨types.toList⟩,a6,a7,a8,a9,Iz,IA⟩,⟨funcs.toList⟩⟩,T,F⟩,⟨λt i h=>?_,λf fn h=>?_⟩,rfl,?_⟩
 ·rcases h1 t i h with ⟨_,b⟩ | b
  ·exact qv (by simpa using b)
  ·cases b
 ·rcases h2 f fn h with ⟨_,b⟩ | b
  ·simpa using b
  ·cases b
 ·show Ak types.toList (λL=>Ak funcs.toList (λM=>fl.GK L 0 .leaf (λT=>fl.GK M 0 .leaf (λF=>k ⟨⟨⟨a1,a2,a3,a4,⟨L⟩,a6,a7,a8,a9,Iz,IA⟩,⟨M⟩⟩,T,F⟩))))=_
  rw[yN,yN,e1];exact e2
theorem l8(k:IntKind)(n:Int):nX k n=k.wrap n:=by
 have pos:∀ (m:Nat),IntKind.i64.wrap (.ofNat m)=if Nat.ble m 9223372036854775807=true then Int.ofNat m else IntKind.i64.wrap (.ofNat m):=by
  intro m
  split
  ·rename_i h
   have h':m<=9223372036854775807:=Nat.le_of_ble_eq_true h;have:(m:Int)<=9223372036854775807:=by omega
   exact IntWalk.i64_in (Int.ofNat m) (by show(-9223372036854775808:Int)<=(m:Int)/\(m:Int)<=9223372036854775807;omega)
  ·rfl
 have neg:∀ (m:Nat),IntKind.i64.wrap (.negSucc m)=if Nat.ble m 9223372036854775807=true then Int.negSucc m else IntKind.i64.wrap (.negSucc m):=by
  intro m
  split
  ·rename_i h
   have h':m<=9223372036854775807:=Nat.le_of_ble_eq_true h;have e:Int.negSucc m = -((m:Int)+1):=by omega
   exact IntWalk.i64_in (Int.negSucc m) (by rw[e];omega)
  ·rfl
 have un:∀ (m b:Nat),((m:Int)%((2:Int) ^ b))=((m%2 ^ b:Nat):Int):=by
  intro m b;rw[Int.natCast_emod];simp
 have KM:∀ (k:IntKind) (m:Nat),k.signed=false->k.wrap (.ofNat m)=.ofNat (m%2 ^ k.bits):=by
  intro k m hk;unfold IntKind.wrap;simp only[hk,Bool.false_and,Bool.false_eq_true,if_false];exact un m _
 cases n with
 | ofNat m =>
  cases k with
  | i64 =>
   show @Bool.rec (λ_=>Int) (IntKind.i64.wrap (.ofNat m)) (.ofNat m) (Nat.ble m 9223372036854775807)=_;rw[gw];exact(pos m).symm
  | u64=>exact(KM .u64 m rfl).symm
  | u32=>exact(KM .u32 m rfl).symm
  | u8=>exact(KM .u8 m rfl).symm
  | i8=>rfl
  | i16=>rfl
  | i32=>rfl
  | u16=>rfl
 | negSucc m =>
  cases k with
  | i64 =>
   show @Bool.rec (λ_=>Int) (IntKind.i64.wrap (.negSucc m)) (.negSucc m) (Nat.ble m 9223372036854775807)=_;rw[gw];exact(neg m).symm
  | u64=>rfl
  | u32=>rfl
  | u8=>rfl
  | i8=>rfl
  | i16=>rfl
  | i32=>rfl
  | u16=>rfl
theorem oq(a b:Int):Aj a b=decide (a<=b):=by
 cases a<;>cases b<;>unfold Aj<;>rename_i a b
 ·rw[Bool.eq_iff_iff];simp
 ·symm;rw[decide_eq_false_iff_not];show ¬ ((a:Int)<=_);omega
 ·symm;rw[decide_eq_true_eq];show _<=(b:Int);omega
 ·rw[Bool.eq_iff_iff];simp;omega
theorem sC(a b:Int):BJ a b=(a==b):=by
 cases a<;>cases b<;>unfold BJ<;>rename_i a b<;>rw[Bool.eq_iff_iff]<;>simp<;>omega
theorem qN(a b:Int):(!decide (b<=a))=decide (a<b):=by
 rw[Bool.eq_iff_iff];simp
theorem sD{k k':IntKind}(h:Nat.beq (E3 k) (E3 k')=true):k=k':=by
 cases k<;>cases k'<;>first | rfl | (simp[E3]at h)
end Go.Ev
namespace Go.Ev
open Go.RowKit
variable[aL]
theorem cG{c:Bool}{r:Option (Next×St)}{x:Next×St}(h:wa c r=some x):c=true/\r=some x:=by
 cases c with
 | false=>cases h
 | true=>exact⟨rfl,h⟩
theorem dx{r f:Option (Next×St)}{x:Next×St}(h:Bb r f=some x):r=some x\/f=some x:=by
 cases r with
 | none=>exact .inr h
 | some y=>exact .inl h
theorem bO{α:Type}{c:Bool}{r:Option α}{x:α}(h:@Bool.rec (λ_=>Option α) none r c=some x):c=true/\r=some x:=by
 cases c with
 | false=>cases h
 | true=>exact⟨rfl,h⟩
theorem i5{B:Base}(hB:nY B){t:TypeId}{d:TypeDesc}(h:uQ B t=some d):B.P.underlying t=some d:=by
 unfold uQ at h
 split at h
 ·rename_i i hi
  have hi':=hB.T t i hi;unfold Program.underlying;rw[hi']
  split at h
  ·rename_i nm u hd
   split at h
   ·rename_i j hj
    cases h;have hj':=hB.T u j hj;obtain⟨_,_⟩:=i;simp only at hd;subst hd;simp only[hj',Option.map_some]
   ·cases h
  ·rename_i hd
   cases h
   split
   ·rename_i nm u heq
    cases heq;exact(hd _ _ rfl).elim
   ·rename_i heq
    cases heq;rfl
   ·rename_i heq;cases heq
 ·cases h
theorem bC{α β:Type}(P:Program)(m:Sem α)(f:α->Sem β)(s:St):aC P (m >>= f) s=(aC P m s).bind λ(a,s1)=>aC P (f a) s1:=j6 P m f s
theorem cM{P:Program}{t:TypeId}{d:TypeDesc}(h:P.underlying t=some d)(s:St):aC P (Go.underlying t) s=some (d,s):=by
 unfold Go.underlying;show aC P (match P.underlying t with | some d=>(Pure.pure d:Sem TypeDesc) | none=>Go.stuck "no such type") s=_;rw[h];rfl
theorem kJ{P:Program}{t:TypeId}{d:TypeInfo}(h:P.info? t=some d)(s:St):aC P (Go.typeInfo t) s=some (d,s):=by
 unfold Go.typeInfo;show aC P (match P.info? t with | some d=>(Pure.pure d:Sem TypeInfo) | none=>Go.stuck "no such type") s=_;rw[h];rfl
theorem jD{P:Program}{t:TypeId}{d:TypeInfo}(h:P.info? t=some d)(s:St):aC P (Go.sizeOf t) s=some (d.size,s):=by
 unfold Go.sizeOf;rw[bC,kJ h];rfl
theorem po{P:Program}{t:TypeId}{d:TypeInfo}{z:Value}(h:P.info? t=some d)(hz:d.zero=some z)(s:St):aC P (Go.zeroValue t) s=some (z,s):=by
 unfold Go.zeroValue;rw[bC,kJ h];show aC P (match d.zero with | some v=>(Pure.pure v:Sem Value) | none=>_) s=_;rw[hz];rfl
theorem yP(h:Tr)(nx:Nat)(lg:List Touch)(b:Nat):(⟨h,nx,lg⟩:St).look b=Tr.gt deep h b:=(Tr.BR _ _ _).symm
theorem wZ{B:Base}(hB:nY B){t:TypeId}(h:sn B t=true)(s:St):aC B.P (Go.isAgg t) s=some (false,s):=by
 unfold sn at h
 split at h
 ·cases h
 ·cases h
 ·rename_i d h1 h2 hd
  unfold Go.isAgg;rw[bC,cM (i5 hB hd)];show aC B.P (match d with | .struct _ | .array _ _=>(Pure.pure true:Sem Bool) | _=>Pure.pure false) s=_;cases d with
  | struct f=>exact(h1 _ rfl).elim
  | array n e=>exact(h2 _ _ rfl).elim
  | _=>rfl
 ·cases h
theorem BV{B:Base}(hB:nY B){ty:TypeId}{x:Value}{s:St}{r:Next×St}(h:BM B ty x s=some r):sv (aC B.P (Instr.loadAt ty x) s)=some r:=by
 unfold BM at h
 split at h
 ·rename_i b off hh nx lg
  obtain⟨h1,h2⟩:=bO h
  split at h2
  ·rename_i c e f hl
   split at h2
   ·rename_i v hv
    cases h2;have e1:aC B.P (Instr.loadAt ty (.pointer (some ⟨b,off,none⟩))) ⟨hh,nx,lg⟩=some (v,⟨hh,nx,⟨b,some off,false⟩::lg⟩):=by
     unfold Instr.loadAt;rw[bC];show aC B.P (loadVar ty ⟨b,off,none⟩) ⟨hh,nx,lg⟩=_;unfold loadVar;rw[bC,wZ hB h1];show aC B.P (Go.load ⟨b,off,none⟩) ⟨hh,nx,lg⟩=_;unfold Go.load;simp only[aC];rw[yP,hl];dsimp only;rw[yO]at hv;rw[← Array.getElem?_toList,hv];rfl
    rw[e1];rfl
   ·cases h2
  ·cases h2
 ·cases h
theorem Al{B:Base}(hB:nY B){ty:TypeId}{x v:Value}{s:St}{r:Next×St}(h:wU B ty x v s=some r):su (aC B.P (Instr.storeAt ty x v) s)=some r:=by
 unfold wU at h
 split at h
 ·rename_i b off hh nx lg
  obtain⟨h1,h2⟩:=bO h;rw[Bool.and_eq_true]at h1;obtain⟨h1a,h1b⟩:=h1
  split at h2
  ·rename_i c e hl
   obtain⟨h3,h4⟩:=bO h2;rw[BT,Tr.BS]at h4;cases h4;rw[Bool.and_eq_true]at h3;have hoff:off<c.size:=by have:=Nat.le_of_ble_eq_true h3.1;rw[Array.length_toList]at this;exact this
   have hb:b<lim:=Nat.le_of_ble_eq_true h3.2;have hcells:v.cells = #[v]:=by cases v<;>first | (cases h1a;done) | rfl
   unfold Je at h1b
   split at h1b
   ·rename_i i hi
    have hsz:i.size=1:=Nat.eq_of_beq_eq_true h1b;have e1:aC B.P (Instr.storeAt ty (.pointer (some ⟨b,off,none⟩)) v) ⟨hh,nx,lg⟩=some ((),⟨Tr.set deep hh b (some (.cells ⟨c.toList.set off v⟩ e (0,0))),nx,⟨b,some off,true⟩::lg⟩):=by
     unfold Instr.storeAt;rw[bC];show aC B.P (storeVar ty ⟨b,off,none⟩ v) ⟨hh,nx,lg⟩=_;unfold storeVar;rw[bC,jD (hB.T _ _ hi)];dsimp only[Option.bind];rw[hcells,hsz];simp only[ne_eq,List.size_toArray,List.length_cons,List.length_nil,Nat.zero_add,not_true_eq_false,if_false];show aC B.P (storeCells ⟨b,off,none⟩ [v] 0) ⟨hh,nx,lg⟩=_;have e2:aC B.P (Go.store ⟨b,off,none⟩ v) ⟨hh,nx,lg⟩=some ((),⟨Tr.set deep hh b (some (.cells ⟨c.toList.set off v⟩ e (0,0))),nx,⟨b,some off,true⟩::lg⟩):=by
      unfold Go.store;simp only[aC];rw[yP,hl,h1a];simp only[hoff,hb,and_self,if_true,Option.some.injEq,Prod.mk.injEq];have ec:c.setIfInBounds off v=⟨c.toList.set off v⟩:=Array.ext' (by simp);rw[ec];exact⟨trivial,rfl⟩
     show aC B.P (Go.store (Addr.add ⟨b,off,none⟩ 0) v >>= λ_=>storeCells ⟨b,off,none⟩ [] 1) ⟨hh,nx,lg⟩=_;rw[bC,show Addr.add ⟨b,off,none⟩ 0=⟨b,off,none⟩ from rfl,e2];rfl
    rw[e1];rfl
   ·cases h1b
  ·cases h2
 ·cases h
theorem yQ{B:Base}{c:Array Value}{t:TypeId}{v:Value}{s:St}{r:Next×St}(hv:v.cells=c)(h:E8 c t s=some r):sv (aC B.P (do pure (.pointer (some (← newVar t v))):Sem Value) s)=some r:=by
  obtain⟨hh,nx,lg⟩:=s;unfold E8 at h;dsimp only at h;obtain⟨h1,h2⟩:=bO h;rw[Tr.BS]at h2;cases h2;have hlim:4*nx<lim:=Nat.le_of_ble_eq_true h1;rw[bC];unfold newVar newRow newObj;rw[bC,hv];simp only[aC,hlim,if_true];rfl
theorem Am{B:Base}(hB:nY B){t:TypeId}{s:St}{r:Next×St}(h:wS B t s=some r):qa B.P t=true/\sv (aC B.P (Instr.alloc t true (.tuple #[])) s)=some r:=by
 unfold wS at h
 split at h
 ·rename_i c hc
  unfold GL at hc
  split at hc
  ·rename_i i hi
   split at hc
   ·rename_i z hz
    obtain⟨h1,h2⟩:=bO hc;cases h2;have hi':=hB.T _ _ hi;refine⟨by unfold qa;rw[hi'];dsimp only;rw[hz];exact h1,?_⟩;have:=yQ (B:=B) (v:=z) rfl h;unfold Instr.alloc;rw[bC,po hi' hz];exact this
   ·cases hc
  ·cases hc
 ·cases h
theorem Fd{B:Base}{t:TypeId}{v:Value}{s:St}{r:Next×St}(h:Jf t v s=some r):sv (aC B.P (Instr.box t v) s)=some r:=yQ rfl h
theorem An{B:Base}(hB:nY B){ty:TypeId}{x:Value}{f:Nat}{s:St}{r:Next×St}(h:wV B ty x f s=some r):qE B.P ty f=true/\sv (aC B.P (Instr.fieldAt ty x f) s)=some r:=by
  unfold wV at h
  split at h
  · rename_i b off
    split at h
    · rename_i d hd
      cases h;unfold Jd at hd
      split at hd
      · rename_i fields hu
        split at hd
        · rename_i fd MY
          split at hd
          · rename_i i hi
            have hi':=hB.T _ _ hi;have hz:i.size≠0/\d=fd.offset:=by
              rw[gw]at hd
              split at hd
              · cases hd
              · rename_i hn
                cases hd;exact⟨λe=>hn (by rw[e];rfl),rfl⟩
            obtain⟨hz,rfl⟩:=hz;have hu':=i5 hB hu;constructor
            · unfold qE
              rw[hu'];dsimp only;rw[MY];dsimp only;rw[hi'];simpa using hz
            · unfold Instr.fieldAt
              rw[bC,cM hu'];dsimp only[Option.bind];rw[MY];dsimp only;rw[bC];show sv (aC B.P (do let p ← fieldPlace ⟨b,off,none⟩ fd;pure (.pointer (some p)):Sem Value) s)=_;rw[bC];unfold fieldPlace;rw[bC,jD hi'];dsimp only[Option.bind];rw[if_neg hz,Addr.d_];rfl
          · cases hd
        · cases hd
      · cases hd
    · cases h
  · cases h
theorem Ao{B:Base}(hB:nY B){ty:TypeId}{x i:Value}{s:St}{r:Next×St}(h:wT B ty x i s=some r):sv (aC B.P (Instr.indexAt ty x i) s)=some r:=by
 unfold wT at h
 split at h
 ·rename_i b off n c k i
  split at h
  ·rename_i z hz
   obtain⟨h1,h2⟩:=bO h;cases h2;have hlt:i<n:=Nat.le_of_ble_eq_true h1;unfold GM at hz
   split at hz
   ·rename_i e hu
    split at hz
    ·rename_i ti hi
     cases hz;have hu':=i5 hB hu;unfold Instr.indexAt;rw[bC];show sv (aC B.P _ s)=_;rw[bC,cM hu'];dsimp only[Option.bind];rw[bC];show sv (aC B.P _ s)=_;rw[bC,cM hu'];dsimp only[Option.bind];have hc:(0:Int)<=Int.ofNat i/\Int.ofNat i<(n:Int):=⟨Int.natCast_nonneg i,Int.ofNat_lt.2 hlt⟩;rw[if_pos hc,bC,jD (hB.T _ _ hi)];dsimp only[Option.bind];rw[Addr.d_];rfl
    ·cases hz
   ·cases hz
  ·cases h
 ·cases h
theorem uX{P:Program}{x:Value}{i:Nat}{s:St}{r:Next×St}(h:pn x i s=some r):sv (aC P (Instr.extract x i) s)=some r:=by
 unfold pn at h
 split at h
 ·rename_i vs
  split at h
  ·rename_i v hv
   cases h;rw[yO,Array.getElem?_toList]at hv;unfold Instr.extract;dsimp only;rw[hv];rfl
  ·cases h
 ·cases h
theorem Fe{op:BinOp}{k:IntKind}{a b:Int}{v:Value}(h:fint op k a b=some v)(t:TypeId):binOp op t (.int k a) (.int k b)=pure v/\bz 5 v=true:=by
 have e1:(if k≠k then (Go.stuck "BinOp: operands of different kinds" : Sem Value) else pure v)=pure v:=if_neg (λhh=>hh rfl);have bc:∀ (c:Bool) (x y:Value) (w:Value),@Bool.rec (λ_=>Option Value) (some x) (some y) c=some w->w=if c then y else x:=by
  intro c x y w hh;cases c<;>(cases hh;rfl)
 have b1:∀ c:Bool,(if c=true then Value.bool true else Value.bool false)=.bool c:=by intro c;cases c<;>rfl
 have b2:∀ c:Bool,(if c=true then Value.bool false else Value.bool true)=.bool (!c):=by intro c;cases c<;>rfl
 cases op with
 | add=>have h':uP (nX k (Int.add a b)) (λn=>some (Value.int k n))=some v:=h;rw[oo]at h';cases h';refine⟨?_,rfl⟩;rw[l8];simp[binOp,Op.intArith]
 | sub=>have h':uP (nX k (Int.sub a b)) (λn=>some (Value.int k n))=some v:=h;rw[oo]at h';cases h';refine⟨?_,rfl⟩;rw[l8];simp[binOp,Op.intArith];rfl
 | mul=>have h':uP (nX k (Int.mul a b)) (λn=>some (Value.int k n))=some v:=h;rw[oo]at h';cases h';refine⟨?_,rfl⟩;rw[l8];simp[binOp,Op.intArith]
 | eql=>have h':=bc _ _ _ _ h;subst h';rw[b1,sC];exact⟨by simp[binOp,Op.intCmp],rfl⟩
 | neq=>have h':=bc _ _ _ _ h;subst h';rw[b2,sC];exact⟨by simp[binOp,Op.intCmp];rfl,rfl⟩
 | lss=>have h':=bc _ _ _ _ h;subst h';rw[b2,oq,qN];exact⟨by simp[binOp,Op.intCmp],rfl⟩
 | leq=>have h':=bc _ _ _ _ h;subst h';rw[b1,oq];exact⟨by simp[binOp,Op.intCmp],rfl⟩
 | gtr=>have h':=bc _ _ _ _ h;subst h';rw[b2,oq,qN];exact⟨by simp[binOp,Op.intCmp],rfl⟩
 | geq=>have h':=bc _ _ _ _ h;subst h';rw[b1,oq];exact⟨by simp[binOp,Op.intCmp],rfl⟩
 | _=>cases h
theorem Ff{op:BinOp}{x y v:Value}(h:E4 op x y=some v)(t:TypeId)(ox oy:Operand):(do eqGuard op t ox oy x y;binOp op t x y:Sem Value)=pure v/\bz 5 v=true/\bz 5 x=true/\bz 5 y=true:=by
  unfold E4 at h
  split at h
  · rename_i k a k' b
    obtain⟨h1,h2⟩:=bO h;have:=sD h1;subst this;obtain⟨h3,h4⟩:=Fe h2 t;refine⟨?_,h4,rfl,rfl⟩;rw[h3];unfold eqGuard
    split<;>rfl
  · cases h
theorem Ap{P:Program}{ρ:Operand->Value}{o:Oper}{op:BinOp}{t u:TypeId}{x y:Operand}{v:Value}{s:St}(ho:o.op=.binOp op t x y u)(hx:aW x=true)(hy:aW y=true)(h:E4 op (ρ x) (ρ y)=some v):dW P ρ o s=some (.value v,s):=by
  obtain⟨h1,h2,h3,h4⟩:=Ff h t x y;unfold dW;rw[ho];simp only[iQ,Op.operands,List.all_cons,List.all_nil,hx,hy,h3,h4,Bool.and_true,if_true];have:execOp ρ o=(do pure (.value (← (do eqGuard op t x y (ρ x) (ρ y);binOp op t (ρ x) (ρ y):Sem Value))):Sem Next):=by
    unfold execOp;rw[ho]
  rw[this,h1];show(if bz 5 v=true then some (Next.value v,s) else none)=_;rw[if_pos h2]
theorem yR{B:Base}(hB:nY B){t:TypeId}{k:IntKind}(h:E6 B t=some k):B.P.underlying t=some (.int k):=by
 unfold E6 at h
 split at h
 ·rename_i k' hu
  cases h;exact i5 hB hu
 ·cases h
theorem fm{α β:Type}(P:Program)(m:Sem α)(f:α->Sem β):gi P (m >>= f)=(gi P m).bind λa=>gi P (f a):=by
 show gi P (m.bind f)=_
 induction m with
 | pure a=>rfl
 | choose q k ih =>
  simp only[Sem.bind,gi]
  split
  ·exact ih 0
  ·rfl
 | program k ih=>exact ih P
 | mark m k ih=>exact ih
 | _=>rfl
theorem fJ{P:Program}{t:TypeId}{d:TypeDesc}(h:P.underlying t=some d):gi P (Go.underlying t)=some d:=by
 unfold Go.underlying;show gi P (match P.underlying t with | some d=>(Pure.pure d:Sem TypeDesc) | none=>Go.stuck "no such type")=_;rw[h];rfl
theorem BW{B:Base}(hB:nY B){ρ:Operand->Value}{o:Oper}{t u:TypeId}{x:Operand}{s:St}{r:Next×St}(ho:o.op=.convert t u x)(hx:aW x=true)(h:BK B t u (ρ x) s=some r):dW B.P ρ o s=some r:=by
  unfold BK at h
  split at h
  · rename_i k0 n hv
    split at h
    · rename_i k1 k ht hk
      rw[oo]at h;cases h;unfold dW;rw[ho];simp only[iQ,Op.operands,List.all_cons,List.all_nil,hx,hv,bz,Bool.and_true,if_true];have e:execOp ρ o=(do pure (.value (← convert t u (ρ x))):Sem Next):=by
        unfold execOp;rw[ho]
      have e2:gi B.P (convert t u (.int k0 n))=some (.int k (k.wrap n)):=by
        unfold convert;rw[fm,fJ (yR hB ht)];dsimp only[Option.bind];rw[fm,fJ (yR hB hk)];rfl
      rw[e,hv,fm,e2,l8];rfl
    · cases h
  · cases h
theorem Fh{P:Program}{ρ:Operand->Value}{o:Oper}{op:UnOp}{t:TypeId}{x:Operand}{s:St}{r:Next×St}(ho:o.op=.unOp op t x)(hx:aW x=true)(h:HA op (ρ x) s=some r):dW P ρ o s=some r:=by
  unfold HA at h
  split at h
  · rename_i b hv
    unfold dW;rw[ho];simp only[iQ,Op.operands,List.all_cons,List.all_nil,hx,hv,bz,Bool.and_true,if_true];have e:execOp ρ o=(do pure (.value (← Op.unary .not (ρ x))):Sem Next):=by
      unfold execOp;rw[ho]
    rw[e,hv];cases b<;>(cases h;rfl)
  · cases h
theorem yS{B:Base}(hB:nY B){t:TypeId}(h:E5 B t=true):∃ e,B.P.underlying t=some (.pointer e):=by
 unfold E5 at h
 split at h
 ·rename_i e hu
  exact⟨e,i5 hB hu⟩
 ·cases h
theorem Aq(a:Addr):bz 5 (.pointer (some a))=false:=rfl
def HG(op:BinOp)(s:St):Option (Next×St) :=
 match op with
 | .eql=>some (.value (.bool false),s)
 | .neq=>some (.value (.bool true),s)
 | _=>none
theorem qO{P:Program}{ρ:Operand->Value}{o:Oper}{op:BinOp}{t u:TypeId}{x y:Operand}{s:St}(ho:o.op=.binOp op t x y u) :
  dX P ρ o s=(match dW P ρ o s with | some r=>some r | none=>if a5 [x,y] then (if eu P t (ρ x) (ρ y) then HG op s else Bn op (ρ x) (ρ y) s) else none):=by
 obtain⟨dst,KN,ty,pos,after,guard⟩:=o;simp only at ho;subst ho;rfl
theorem BX{P:Program}{ρ:Operand->Value}{o:Oper}{op:UnOp}{t:TypeId}{x:Operand}{s:St}(ho:o.op=.unOp op t x) :
  dX P ρ o s=(match dW P ρ o s with | some r=>some r | none=>if aW x then Bo op (ρ x) s else none):=by
 obtain⟨dst,KN,ty,pos,after,guard⟩:=o;simp only at ho;subst ho;rfl
theorem w8{P:Program}{ρ:Operand->Value}{o:Oper}{t u:TypeId}{x:Operand}{s:St}(ho:o.op=.convert t u x) :
  dX P ρ o s=(match dW P ρ o s with | some r=>some r | none=>if aW x then wD P t u (ρ x) s else none):=by
 obtain⟨dst,KN,ty,pos,after,guard⟩:=o;simp only at ho;subst ho;rfl
theorem w9{P:Program}{ρ:Operand->Value}{o:Oper}{c:Call}{s:St}(ho:o.op=.call c) :
  dX P ρ o s=(match dW P ρ o s with | some r=>some r | none=>yF P ρ c o.type s):=by
 obtain⟨dst,KN,ty,pos,after,guard⟩:=o;simp only at ho;subst ho;rfl
theorem BY{B:Base}(hB:nY B){ρ:Operand->Value}{o:Oper}{op:BinOp}{t u:TypeId}{x y:Operand}{s:St}{r:Next×St}(ho:o.op=.binOp op t x y u)(hx:aW x=true)(hy:aW y=true)
    (h:BL B op t (ρ x) (ρ y) s=some r) :
    dX B.P ρ o s=some r:=by
  rw[qO ho];unfold BL at h
  split at h
  · rename_i a Jh Kb
    obtain⟨h1,h2⟩:=bO h;obtain⟨e,hu⟩:=yS hB h1;have hf:dW B.P ρ o s=none:=by
      unfold dW;rw[ho];simp only[iQ,Op.operands,List.all_cons,List.all_nil,Jh,Aq,Bool.and_false,Bool.false_and,Bool.and_true,Bool.false_eq_true,if_false]
    rw[hf];dsimp only;have hn:eu B.P t (ρ x) (ρ y)=true:=by
      unfold eu;rw[hu,Jh,Kb]
    have ha:a5 [x,y]=true:=by simp[a5,hx,hy]
    rw[ha,hn];simp only[if_true];exact h2
  · rename_i Jh Kb
    obtain⟨h1,h2⟩:=bO h;obtain⟨e,hu⟩:=yS hB h1;have heq:gi B.P (Op.equal t (.pointer none) (.pointer none))=some true:=by
      have hk:∀ n,gi B.P (Op.equalIn (n+1) t (.pointer none) (.pointer none))=some true:=by
        intro n;unfold Op.equalIn;rw[fm,fJ hu];rfl
      exact hk 9999
    have hg:∀ op,eqGuard op t x y (.pointer none) (.pointer none)=pure ():=by
      intro op;unfold eqGuard
      split<;>rfl
    have hf:dW B.P ρ o s=some r:=by
      unfold dW;rw[ho];simp only[iQ,Op.operands,List.all_cons,List.all_nil,hx,hy,Jh,Kb,bz,Bool.and_true,if_true];have ee:execOp ρ o=(do pure (.value (← (do eqGuard op t x y (ρ x) (ρ y);binOp op t (ρ x) (ρ y):Sem Value))):Sem Next):=by
        unfold execOp;rw[ho]
      rw[ee,Jh,Kb,fm,fm,hg];cases op with
      | eql =>
        cases h2;have eb:binOp .eql t (.pointer none) (.pointer none)=(do pure (.bool (← Op.equal t (.pointer none) (.pointer none))):Sem Value):=rfl;show(match (gi B.P (binOp .eql t (.pointer none) (.pointer none))).bind λa=>gi B.P (pure (Next.value a)) with | some (.value v)=>if bz 5 v=true then some (Next.value v,s) else none | _=>none)=_;rw[eb,fm,heq];rfl
      | neq =>
        cases h2;have eb:binOp .neq t (.pointer none) (.pointer none)=(do pure (.bool (!(← Op.equal t (.pointer none) (.pointer none)))):Sem Value):=rfl;show(match (gi B.P (binOp .neq t (.pointer none) (.pointer none))).bind λa=>gi B.P (pure (Next.value a)) with | some (.value v)=>if bz 5 v=true then some (Next.value v,s) else none | _=>none)=_;rw[eb,fm,heq];rfl
      | _=>cases h2
    rw[hf]
  · cases h
theorem Fj{B:Base}(hB:nY B){t ty:TypeId}{x:Value}{s:St}{r:Next×St}(h:Hz B t x s=some r):sv (aC B.P (Builtin.len_ #[t] ty #[x]) s)=some r:=by
 unfold Hz at h
 split at h
 ·rename_i a n c
  obtain⟨h1,h2⟩:=bO h;cases h2;unfold E7 at h1
  split at h1
  ·rename_i e hu
   unfold Builtin.len_;simp only[List.getElem?_toArray,List.getElem?_cons_zero];rw[bC,cM (i5 hB hu)];rfl
  ·cases h1
  ·cases h1
 ·rename_i b
  obtain⟨h1,h2⟩:=bO h;cases h2;unfold E7 at h1
  split at h1
  ·cases h1
  ·rename_i hu
   unfold Builtin.len_;simp only[List.getElem?_toArray,List.getElem?_cons_zero];rw[bC,cM (i5 hB hu)];rfl
  ·cases h1
 ·cases h
theorem BZ{B:Base}(hB:nY B){f:FuncId}(h:Ka B f=true):rL B.P f=true:=by
 unfold Ka at h
 split at h
 ·rename_i fn hf
  unfold rL;rw[hB.F _ _ hf];exact h
 ·cases h
theorem uY(t:TV):∀ xs:List Operand,qJ t xs=xs.map (cA t):=by
 intro xs
 induction xs with
 | nil=>rfl
 | cons x xs ih =>
  show cA t x::qJ t xs=_;rw[ih];rfl
theorem pq{P:Program}{ρ:Operand->Value}{o:Oper}{c:Call}{s:St}(ho:o.op=.call c)(hc:∀ b,c.callee=.builtin b->b≠.min/\b≠.max):dW P ρ o s=none:=by
 have:iQ o.op=false:=by
  rw[ho];obtain⟨callee,args,ts⟩:=c;cases callee with
  | builtin b =>
   have:=hc b rfl;cases b<;>first | rfl | (exact absurd rfl this.1) | (exact absurd rfl this.2)
  | _=>rfl
 unfold dW;rw[this];simp
theorem w_{B:Base}(hB:nY B){t:TV}{o:Oper}{c:Call}{s:St}{r:Next×St}(ho:o.op=.call c)(h:sw B t o c s=some r):dX B.P (cA t) o s=some r:=by
 have hr:=w9 (P:=B.P) (ρ:=cA t) (s:=s) ho;unfold sw at h
 split at h
 ·rename_i f hf
  split at h
  ·rename_i g first captured hv
   obtain⟨h1,h2⟩:=cG h;rw[Bool.and_eq_true]at h1;cases h2;rw[hr,pq ho (λb e=>by rw[hf]at e;cases e)];dsimp only;unfold yF;rw[h1.1,hf];simp only[if_true,hv,BZ hB h1.2]
   congr 3
   apply Array.ext';simp[uY]
  ·exact h
 ·rename_i b hb
  unfold uR at h
  split at h
  ·rename_i x ty ha ht
   obtain⟨h1,h2⟩:=cG h;rcases dx h2 with h3 | h3
   ·rw[hr,pq ho (λb e=>by rw[hb]at e;cases e;exact⟨by simp,by simp⟩)]
    dsimp only;unfold yF;rw[h1,hb];simp only[if_true,ha,ht];exact Fj hB h3
   ·exact h3
  ·exact h
 ·exact h
theorem KO{x y:Operand}(h:a5 [x,y]=true):aW x=true/\aW y=true:=by simpa[a5] using h
theorem B0{B:Base}(hB:nY B){t:TV}{o:Oper}{s:St}{r:Next×St}(h:yG B t o s=some r):dX B.P (cA t) o s=some r:=by
 unfold yG at h
 split at h
 ·rename_i x ho
  obtain⟨h1,h2⟩:=cG h;unfold dX;rw[ho];simp only[h1,if_true];exact h2
 ·rename_i x ho
  obtain⟨h1,h2⟩:=cG h;unfold dX;rw[ho];simp only[h1,if_true];exact h2
 ·rename_i c x y ho
  obtain⟨h1,h2⟩:=cG h;unfold dX;rw[ho];simp only[h1,if_true];unfold GN at h2
  split at h2
  ·rename_i b hb
   cases h2;cases b<;>rfl
  ·cases h2
 ·rename_i op ty x y u ho
  obtain⟨h1,h2⟩:=cG h;obtain⟨hx,hy⟩:=KO h1
  split at h2
  ·rename_i v hv
   cases h2;rw[qO ho,Ap ho hx hy hv]
  ·rcases dx h2 with h3 | h3
   ·exact BY hB ho hx hy h3
   ·exact h3
 ·rename_i op ty x ho
  obtain⟨h1,h2⟩:=cG h;rcases dx h2 with h3 | h3
  ·rw[BX ho,Fh ho h1 h3]
  ·exact h3
 ·rename_i a u x ho
  obtain⟨h1,h2⟩:=cG h;rcases dx h2 with h3 | h3
  ·rw[w8 ho,BW hB ho h1 h3]
  ·exact h3
 ·rename_i ty ho
  rcases dx h with h3 | h3
  ·obtain⟨h4,h5⟩:=Am hB h3
   unfold dX;rw[ho];simp only[h4,if_true];exact h5
  ·exact h3
 ·rename_i ty x ho
  obtain⟨h1,h2⟩:=cG h;rcases dx h2 with h3 | h3
  ·unfold dX
   rw[ho];simp only[h1,if_true];exact Fd h3
  ·exact h3
 ·rename_i ty x ho
  obtain⟨h1,h2⟩:=cG h;rcases dx h2 with h3 | h3
  ·unfold dX
   rw[ho];simp only[h1,if_true];exact BV hB h3
  ·exact h3
 ·rename_i ty x y ho
  obtain⟨h1,h2⟩:=cG h;rcases dx h2 with h3 | h3
  ·unfold dX
   rw[ho];simp only[h1,if_true];exact Al hB h3
  ·exact h3
 ·rename_i ty x f ho
  obtain⟨h1,h2⟩:=cG h;rcases dx h2 with h3 | h3
  ·obtain⟨h4,h5⟩:=An hB h3
   unfold dX;rw[ho];simp only[h1,h4,Bool.and_self,if_true];exact h5
  ·exact h3
 ·rename_i ty x i ho
  obtain⟨h1,h2⟩:=cG h;rcases dx h2 with h3 | h3
  ·unfold dX
   rw[ho];simp only[h1,if_true];exact Ao hB h3
  ·exact h3
 ·rename_i x ho
  obtain⟨h1,h2⟩:=cG h;unfold dX;rw[ho];simp only[h1,if_true];exact h2
 ·rename_i x i ho
  obtain⟨h1,h2⟩:=cG h;rcases dx h2 with h3 | h3
  ·unfold dX
   rw[ho];simp only[h1,if_true];exact uX h3
  ·exact h3
 ·rename_i c ho
  exact w_ hB ho h
 ·exact h
end Go.Ev
