/- Part of a proof: see the last text. -/
import Derived.Test.YtkmccgombmogmaaGreatZf8
set_option linter.unusedSectionVars false
set_option linter.unusedSimpArgs false
set_option linter.unusedVariables false
namespace Go.Ev
open Go.RowKit
variable[bB]
theorem jl{α:Sort _}(b:Bool)(x y:α):@Bool.rec (λ_=>α) x y b=if b=true then y else x:=by cases b<;>rfl
theorem ye(a b:Nat):(Nat.beq a b=true)=(a=b):=by
 simp
theorem TV.eM(v:Value)(l r:TV)(n:Nat):(TV.node v l r).get n=if n=0 then v else if n%2=1 then l.get (n / 2) else r.get (n / 2-1):=by
 show @Bool.rec (λ_=>Value) (@Bool.rec (λ_=>Value) (r.get (Nat.sub (Nat.div n 2) 1)) (l.get (Nat.div n 2)) (Nat.beq (Nat.mod n 2) 1)) v (Nat.beq n 0)=_;rw[jl,jl];simp only[ye];rfl
theorem TV.lL(n:Nat):TV.leaf.get n=undef:=rfl
def TV.val:TV->Value
 | .leaf=>undef
 | .node v _ _=>v
def TV.zG:TV->TV
 | .leaf=>.leaf
 | .node _ l _=>l
def TV.zH:TV->TV
 | .leaf=>.leaf
 | .node _ _ r=>r
def TV.set:Nat->TV->Nat->Value->TV
 | 0,t,_,_=>t
 | d+1,t,n,x=>if n=0 then .node x t.zG t.zH else if n%2=1 then .node t.val (t.zG.set d (n / 2) x) t.zH else .node t.val t.zG (t.zH.set d (n / 2-1) x)
theorem TV.BG{β:Type} : ∀ (d:Nat) (t:TV) (n:Nat) (x:Value) (k:TV->β),TV.lW d t n x k=k (TV.set d t n x):=by
 intro d
 induction d with
 | zero=>intro t n x k;rfl
 | succ d ih =>
  intro t n x k;cases t with
  | leaf =>
   show @Bool.rec (λ_=>β) (@Bool.rec (λ_=>β) (TV.lW d .leaf (Nat.sub (Nat.div n 2) 1) x (λr=>k (.node undef .leaf r))) (TV.lW d .leaf (Nat.div n 2) x (λl=>k (.node undef l .leaf))) (Nat.beq (Nat.mod n 2) 1)) (k (.node x .leaf .leaf)) (Nat.beq n 0)=_;rw[jl,jl];simp only[ye,ih]
   by_cases h0:n=0
   ·rw[if_pos h0];subst h0;rfl
   ·rw[if_neg h0]
    by_cases h1:n.mod 2=1
    ·have e:TV.set (d+1) .leaf n x=.node undef (TV.set d .leaf (n / 2) x) .leaf:=by
      show(if n=0 then _ else if n%2=1 then _ else _)=_;rw[if_neg h0,if_pos (show n%2=1 from h1)];rfl
     rw[if_pos h1,e];rfl
    ·have e:TV.set (d+1) .leaf n x=.node undef .leaf (TV.set d .leaf (n / 2-1) x):=by
      show(if n=0 then _ else if n%2=1 then _ else _)=_;rw[if_neg h0,if_neg (show ¬ n%2=1 from h1)];rfl
     rw[if_neg h1,e];rfl
  | node v l r =>
   show @Bool.rec (λ_=>β) (@Bool.rec (λ_=>β) (TV.lW d r (Nat.sub (Nat.div n 2) 1) x (λr'=>k (.node v l r'))) (TV.lW d l (Nat.div n 2) x (λl'=>k (.node v l' r))) (Nat.beq (Nat.mod n 2) 1)) (k (.node x l r)) (Nat.beq n 0)=_;rw[jl,jl];simp only[ye,ih]
   by_cases h0:n=0
   ·rw[if_pos h0];subst h0;rfl
   ·rw[if_neg h0]
    by_cases h1:n.mod 2=1
    ·have e:TV.set (d+1) (.node v l r) n x=.node v (TV.set d l (n / 2) x) r:=by
      show(if n=0 then _ else if n%2=1 then _ else _)=_;rw[if_neg h0,if_pos (show n%2=1 from h1)];rfl
     rw[if_pos h1,e];rfl
    ·have e:TV.set (d+1) (.node v l r) n x=.node v l (TV.set d r (n / 2-1) x):=by
      show(if n=0 then _ else if n%2=1 then _ else _)=_;rw[if_neg h0,if_neg (show ¬ n%2=1 from h1)];rfl
     rw[if_neg h1,e];rfl
theorem TV.get_eq(t:TV)(n:Nat):t.get n=if n=0 then t.val else if n%2=1 then t.zG.get (n / 2) else t.zH.get (n / 2-1):=by
 cases t with
 | leaf=>simp[TV.lL,TV.val,TV.zG,TV.zH]
 | node v l r=>exact TV.eM v l r n
theorem TV.fF(d:Nat):∀ (t:TV) (n m:Nat) (x:Value),n+1<2 ^ d->(t.set d n x).get m=if m=n then x else t.get m:=by
 induction d with
 | zero=>intro t n m x h;simp at h
 | succ d ih =>
  intro t n m x h;have hp:2 ^ (d+1)=2*2 ^ d:=by rw[Nat.pow_succ,Nat.mul_comm]
  unfold TV.set
  by_cases h0:n=0
  ·subst h0
   rw[if_pos rfl,TV.eM,TV.get_eq t]
   by_cases hm:m=0
   ·simp[hm]
   ·simp[hm]
  ·rw[if_neg h0]
   by_cases h1:n%2=1
   ·rw[if_pos h1,TV.eM,TV.get_eq t]
    by_cases hm:m=0
    ·subst hm
     rw[if_pos rfl,if_pos rfl,if_neg (λe=>h0 e.symm)]
    ·rw[if_neg hm,if_neg hm]
     by_cases hm1:m%2=1
     ·rw[if_pos hm1,if_pos hm1,ih _ _ _ _ (by omega)]
      by_cases e:m=n
      ·rw[if_pos e,if_pos (by omega)]
      ·rw[if_neg e,if_neg (by omega)]
     ·rw[if_neg hm1,if_neg hm1,if_neg (by omega)]
   ·rw[if_neg h1,TV.eM,TV.get_eq t]
    by_cases hm:m=0
    ·subst hm
     rw[if_pos rfl,if_pos rfl,if_neg (λe=>h0 e.symm)]
    ·rw[if_neg hm,if_neg hm]
     by_cases hm1:m%2=1
     ·rw[if_pos hm1,if_pos hm1,if_neg (by omega)]
     ·rw[if_neg hm1,if_neg hm1,ih _ _ _ _ (by omega)]
      by_cases e:m=n
      ·rw[if_pos e,if_pos (by omega)]
      ·rw[if_neg e,if_neg (by omega)]
theorem kO{β:Type}(n:Nat)(k:Nat->β):qA n k=k n:=by cases n<;>rfl
theorem qK{β:Type}(n:Int)(k:Int->β):x8 n k=k n:=by
 cases n with
 | ofNat n=>exact kO n (λn=>k (.ofNat n))
 | negSucc n=>exact kO n (λn=>k (.negSucc n))
theorem BH{β:Type}(a:Option Addr)(k:Option Addr->β):Jm a k=k a:=by
 cases a with
 | none=>rfl
 | some a =>
  obtain⟨b,off,sp⟩:=a;show qA b (λb=>qA off (λoff=>k (some ⟨b,off,sp⟩)))=_;rw[kO,kO]
theorem BI{β:Type}(v:Value)(k:Value->β):EK v k=k v:=by
 cases v with
 | pointer a=>exact BH a (λa=>k (.pointer a))
 | slice a n c =>
  show Jm a (λa=>qA n (λn=>qA c (λc=>k (.slice a n c))))=_;rw[BH,kO,kO]
 | _=>rfl
theorem BJ{α β:Type} : ∀ (l:List α) (k:List α->β),C5 l k=k l:=by
 intro l
 induction l with
 | nil=>intro k;rfl
 | cons v l ih =>
  intro k;show C5 l (λl=>k (v::l))=_;rw[ih]
theorem Tr.EU:∀ (d:Nat) (t:Tr) (n:Nat),Tr.gt d t n=Tr.get d t n:=by
 intro d
 induction d with
 | zero=>intro t n;rfl
 | succ d ih =>
  intro t n;cases t with
  | leaf=>rfl
  | node v l r =>
   show @Bool.rec (λ_=>Option Obj) (@Bool.rec (λ_=>Option Obj) (Tr.gt d r (Nat.div n 2)) (Tr.gt d l (Nat.div n 2)) (Nat.beq (Nat.mod n 2) 0)) v (Nat.beq n 0)=_;rw[jl,jl];simp only[ye,ih];rfl
theorem Tr.EV{β:Type} : ∀ (d:Nat) (t:Tr) (n:Nat) (x:Option Obj) (k:Tr->β),Tr.Ml d t n x k=k (Tr.set d t n x):=by
 intro d
 induction d with
 | zero=>intro t n x k;rfl
 | succ d ih =>
  intro t n x k;cases t with
  | leaf =>
   show @Bool.rec (λ_=>β) (@Bool.rec (λ_=>β) (Tr.Ml d .leaf (Nat.div n 2) x (λr=>k (.node none .leaf r))) (Tr.Ml d .leaf (Nat.div n 2) x (λl=>k (.node none l .leaf))) (Nat.beq (Nat.mod n 2) 0)) (k (.node x .leaf .leaf)) (Nat.beq n 0)=_;rw[jl,jl];simp only[ye,ih]
   by_cases h0:n=0
   ·rw[if_pos h0];subst h0;rfl
   ·rw[if_neg h0]
    by_cases h1:n.mod 2=0
    ·have e:Tr.set (d+1) .leaf n x=.node none (Tr.set d .leaf (n / 2) x) .leaf:=by
      show(if n=0 then _ else if n%2=0 then _ else _)=_;rw[if_neg h0,if_pos (show n%2=0 from h1)];rfl
     rw[if_pos h1,e];rfl
    ·have e:Tr.set (d+1) .leaf n x=.node none .leaf (Tr.set d .leaf (n / 2) x):=by
      show(if n=0 then _ else if n%2=0 then _ else _)=_;rw[if_neg h0,if_neg (show ¬ n%2=0 from h1)];rfl
     rw[if_neg h1,e];rfl
  | node v l r =>
   show @Bool.rec (λ_=>β) (@Bool.rec (λ_=>β) (Tr.Ml d r (Nat.div n 2) x (λr'=>k (.node v l r'))) (Tr.Ml d l (Nat.div n 2) x (λl'=>k (.node v l' r))) (Nat.beq (Nat.mod n 2) 0)) (k (.node x l r)) (Nat.beq n 0)=_;rw[jl,jl];simp only[ye,ih]
   by_cases h0:n=0
   ·rw[if_pos h0];subst h0;rfl
   ·rw[if_neg h0]
    by_cases h1:n.mod 2=0
    ·have e:Tr.set (d+1) (.node v l r) n x=.node v (Tr.set d l (n / 2) x) r:=by
      show(if n=0 then _ else if n%2=0 then _ else _)=_;rw[if_neg h0,if_pos (show n%2=0 from h1)];rfl
     rw[if_pos h1,e];rfl
    ·have e:Tr.set (d+1) (.node v l r) n x=.node v l (Tr.set d r (n / 2) x):=by
      show(if n=0 then _ else if n%2=0 then _ else _)=_;rw[if_neg h0,if_neg (show ¬ n%2=0 from h1)];rfl
     rw[if_neg h1,e];rfl
theorem BK:∀ (l:List Value) (n:Nat),Mm l n=l[n]?:=by
 intro l
 induction l with
 | nil=>intro n;rfl
 | cons v l ih =>
  intro n;cases n with
  | zero=>rfl
  | succ n=>exact ih n
theorem EW{β:Type}(x:Value):∀ (l:List Value) (n:Nat) (k:List Value->β),EL l x n k=k (l.set n x):=by
 intro l
 induction l with
 | nil=>intro n k;rfl
 | cons v l ih =>
  intro n k;cases n with
  | zero=>rfl
  | succ n =>
   show EL l x n (λl'=>k (v::l'))=_;rw[ih];rfl
theorem gV.eM{α:Type}(v:Option α)(l r:gV α)(n:Nat):(gV.node v l r).get n=if n=0 then v else if n%2=1 then l.get (n / 2) else r.get (n / 2-1):=by
 show @Bool.rec (λ_=>Option α) (@Bool.rec (λ_=>Option α) (r.get (Nat.sub (Nat.div n 2) 1)) (l.get (Nat.div n 2)) (Nat.beq (Nat.mod n 2) 1)) v (Nat.beq n 0)=_;rw[jl,jl];simp only[ye];rfl
theorem gV.Jv{α β:Type} : ∀ (d:Nat) (t:gV α) (n:Nat) (x:α) (k:gV α->β),∃ t',gV.lW d t n x k=k t'/\∀ m y,t'.get m=some y->(m=n/\y=x)\/t.get m=some y:=by
 intro d
 induction d with
 | zero=>intro t n x k;exact⟨t,rfl,λm y h=>.inr h⟩
 | succ d ih =>
  intro t n x k;have key:∀ (v:Option α) (l r:gV α),(∀ m,t.get m=(gV.node v l r).get m)->
    gV.lW (d+1) t n x k = @Bool.rec (λ_=>β) (@Bool.rec (λ_=>β) (gV.lW d r (Nat.sub (Nat.div n 2) 1) x (λr'=>k (.node v l r'))) (gV.lW d l (Nat.div n 2) x (λl'=>k (.node v l' r))) (Nat.beq (Nat.mod n 2) 1)) (k (.node (some x) l r)) (Nat.beq n 0)->
    ∃ t',gV.lW (d+1) t n x k=k t'/\∀ m y,t'.get m=some y->(m=n/\y=x)\/t.get m=some y:=by
   intro v l r hg he;rw[he,jl,jl];simp only[ye]
   by_cases h0:n=0
   ·rw[if_pos h0]
    refine⟨_,rfl,λm y hy=>?_⟩;rw[gV.eM]at hy
    by_cases hm:m=0
    ·rw[if_pos hm]at hy
     cases hy;exact .inl ⟨by omega,rfl⟩
    ·rw[if_neg hm]at hy
     refine .inr ?_;rw[hg,gV.eM,if_neg hm];exact hy
   ·rw[if_neg h0]
    by_cases h1:n.mod 2=1
    ·rw[if_pos h1]
     obtain⟨t',e,ht⟩:=ih l (n / 2) x (λl'=>k (.node v l' r));refine⟨_,e,λm y hy=>?_⟩;rw[gV.eM]at hy;rw[hg,gV.eM];have h1':n%2=1:=h1
     by_cases hm:m=0
     ·rw[if_pos hm]at hy ⊢
      exact .inr hy
     ·rw[if_neg hm]at hy ⊢
      by_cases hm1:m%2=1
      ·rw[if_pos hm1]at hy ⊢
       rcases ht _ _ hy with ⟨a,b⟩ | a
       ·exact .inl ⟨by omega,b⟩
       ·exact .inr a
      ·rw[if_neg hm1]at hy ⊢
       exact .inr hy
    ·rw[if_neg h1]
     obtain⟨t',e,ht⟩:=ih r (n / 2-1) x (λr'=>k (.node v l r'));refine⟨_,e,λm y hy=>?_⟩;rw[gV.eM]at hy;rw[hg,gV.eM];have h1':¬ n%2=1:=h1
     by_cases hm:m=0
     ·rw[if_pos hm]at hy ⊢
      exact .inr hy
     ·rw[if_neg hm]at hy ⊢
      by_cases hm1:m%2=1
      ·rw[if_pos hm1]at hy ⊢
       exact .inr hy
      ·rw[if_neg hm1]at hy ⊢
       rcases ht _ _ hy with ⟨a,b⟩ | a
       ·exact .inl ⟨by omega,b⟩
       ·exact .inr a
  cases t with
  | leaf =>
   refine key none .leaf .leaf (λm=>?_) rfl;rw[gV.eM]
   by_cases hm:m=0
   ·rw[if_pos hm];rfl
   ·rw[if_neg hm]
    split<;>rfl
  | node v l r=>exact key v l r (λm=>rfl) rfl
theorem gV.EX{α β:Type} : ∀ (l:List α) (i:Nat) (t:gV α) (k:gV α->β),∃ t',gV.Lh l i t k=k t'/\∀ m y,t'.get m=some y->(i<=m/\l[m-i]? = some y)\/t.get m=some y:=by
 intro l
 induction l with
 | nil=>intro i t k;exact⟨t,rfl,λm y h=>.inr h⟩
 | cons v l ih =>
  intro i t k;obtain⟨t1,e1,h1⟩:=gV.Jv 16 t i v (λt1=>gV.Lh l (i+1) t1 k);obtain⟨t2,e2,h2⟩:=ih (i+1) t1 k;refine⟨t2,?_,λm y hy=>?_⟩
  ·show gV.lW 16 t i v (λt1=>gV.Lh l (Nat.succ i) t1 k)=_
   rw[e1];exact e2
  ·rcases h2 m y hy with ⟨a,b⟩ | a
   ·refine .inl ⟨by omega,?_⟩
    rw[show m-i=(m-(i+1))+1 by omega];exact b
   ·rcases h1 m y a with ⟨b,c⟩ | b
    ·subst b c
     exact .inl ⟨Nat.le_refl _,by simp⟩
    ·exact .inr b
structure ql(B:Base):Prop where
 T:∀ t i,B.T.get t=some i->B.P.info? t=some i
 F:∀ f fn,B.F.get f=some fn->B.P.funcs[f]? = some fn
theorem tP{P:Program}{t:TypeId}{i:TypeInfo}(h:P.types[t]? = some i):P.info? t=some i:=by
 have hlt:t<P.types.size:=(Array.getElem?_eq_some_iff.1 h).1;show(if t<P.types.size then P.types[t]? else Made.infoAt P.toTables Made.depth t)=_;rw[if_pos hlt];exact h
theorem rG{β:Type}(P:Program)(k:Base->β):∃ B,ql B/\B.P=P/\dS P k=k B:=by
 obtain⟨⟨a1,a2,a3,a4,types,a6,a7,a8,a9,NF,Lp⟩,funcs⟩:=P;obtain⟨T,e1,h1⟩:=gV.EX types.toList 0 .leaf (λT=>gV.Lh funcs.toList 0 .leaf (λF=>k ⟨⟨⟨a1,a2,a3,a4,⟨types.toList⟩,a6,a7,a8,a9,NF,Lp⟩,⟨funcs.toList⟩⟩,T,F⟩));obtain⟨F,e2,h2⟩:=gV.EX funcs.toList 0 .leaf (λF=>k ⟨⟨⟨a1,a2,a3,a4,⟨types.toList⟩,a6,a7,a8,a9,NF,Lp⟩,⟨funcs.toList⟩⟩,T,F⟩);refine⟨⟨⟨⟨a1,a2,a3,a4,⟨types.toList⟩,a6,a7,a8,a9,NF,Lp⟩,⟨funcs.toList⟩⟩,T,F⟩,⟨λt i h=>?_,λf fn h=>?_⟩,rfl,?_⟩
 ·rcases h1 t i h with ⟨_,b⟩ | b
  ·exact tP (by simpa using b)
  ·cases b
 ·rcases h2 f fn h with ⟨_,b⟩ | b
  ·simpa using b
  ·cases b
 ·show C5 types.toList (λL=>C5 funcs.toList (λM=>gV.Lh L 0 .leaf (λT=>gV.Lh M 0 .leaf (λF=>k ⟨⟨⟨a1,a2,a3,a4,⟨L⟩,a6,a7,a8,a9,NF,Lp⟩,⟨M⟩⟩,T,F⟩))))=_
  rw[BJ,BJ,e1];exact e2
theorem oC(k:IntKind)(n:Int):qk k n=k.wrap n:=by
 have pos:∀ (m:Nat),IntKind.i64.wrap (.ofNat m)=if Nat.ble m 9223372036854775807=true then Int.ofNat m else IntKind.i64.wrap (.ofNat m):=by
  intro m
  split
  ·rename_i h
   have h':m<=9223372036854775807:=Nat.le_of_ble_eq_true h;have:(m:Int)<=9223372036854775807:=by omega
   exact IntWalk.i64_in (Int.ofNat m) (by show(-9223372036854775808:Int)<=(m:Int)/\(m:Int)<=9223372036854775807;omega)
  ·rfl
 have neg:∀ (m:Nat),IntKind.i64.wrap (.negSucc m)=if Nat.ble m 9223372036854775807=true then Int.negSucc m else IntKind.i64.wrap (.negSucc m):=by
  intro m
  split
  ·rename_i h
   have h':m<=9223372036854775807:=Nat.le_of_ble_eq_true h;have e:Int.negSucc m = -((m:Int)+1):=by omega
   exact IntWalk.i64_in (Int.negSucc m) (by rw[e];omega)
  ·rfl
 have un:∀ (m b:Nat),((m:Int)%((2:Int) ^ b))=((m%2 ^ b:Nat):Int):=by
  intro m b;rw[Int.natCast_emod];simp
 have Qv:∀ (k:IntKind) (m:Nat),k.signed=false->k.wrap (.ofNat m)=.ofNat (m%2 ^ k.bits):=by
  intro k m hk;unfold IntKind.wrap;simp only[hk,Bool.false_and,Bool.false_eq_true,if_false];exact un m _
 cases n with
 | ofNat m =>
  cases k with
  | i64 =>
   show @Bool.rec (λ_=>Int) (IntKind.i64.wrap (.ofNat m)) (.ofNat m) (Nat.ble m 9223372036854775807)=_;rw[jl];exact(pos m).symm
  | u64=>exact(Qv .u64 m rfl).symm
  | u32=>exact(Qv .u32 m rfl).symm
  | u8=>exact(Qv .u8 m rfl).symm
  | i8=>rfl
  | i16=>rfl
  | i32=>rfl
  | u16=>rfl
 | negSucc m =>
  cases k with
  | i64 =>
   show @Bool.rec (λ_=>Int) (IntKind.i64.wrap (.negSucc m)) (.negSucc m) (Nat.ble m 9223372036854775807)=_;rw[jl];exact(neg m).symm
  | u64=>rfl
  | u32=>rfl
  | u8=>rfl
  | i8=>rfl
  | i16=>rfl
  | i32=>rfl
  | u16=>rfl
theorem qL(a b:Int):C4 a b=decide (a<=b):=by
 cases a<;>cases b<;>unfold C4<;>rename_i a b
 ·rw[Bool.eq_iff_iff];simp
 ·symm;rw[decide_eq_false_iff_not];show ¬ ((a:Int)<=_);omega
 ·symm;rw[decide_eq_true_eq];show _<=(b:Int);omega
 ·rw[Bool.eq_iff_iff];simp;omega
theorem vT(a b:Int):EM a b=(a==b):=by
 cases a<;>cases b<;>unfold EM<;>rename_i a b<;>rw[Bool.eq_iff_iff]<;>simp<;>omega
theorem uf(a b:Int):(!decide (b<=a))=decide (a<b):=by
 rw[Bool.eq_iff_iff];simp
theorem vU{k k':IntKind}(h:Nat.beq (Jn k) (Jn k')=true):k=k':=by
 cases k<;>cases k'<;>first | rfl | (simp[Jn]at h)
end Go.Ev
namespace Go.Ev
open Go.RowKit
variable[bB]
theorem dN{c:Bool}{r:Option (Next×St)}{x:Next×St}(h:zA c r=some x):c=true/\r=some x:=by
 cases c with
 | false=>cases h
 | true=>exact⟨rfl,h⟩
theorem eZ{r f:Option (Next×St)}{x:Next×St}(h:Ed r f=some x):r=some x\/f=some x:=by
 cases r with
 | none=>exact .inr h
 | some y=>exact .inl h
theorem cR{α:Type}{c:Bool}{r:Option α}{x:α}(h:@Bool.rec (λ_=>Option α) none r c=some x):c=true/\r=some x:=by
 cases c with
 | false=>cases h
 | true=>exact⟨rfl,h⟩
theorem kP{B:Base}(hB:ql B){t:TypeId}{d:TypeDesc}(h:x9 B t=some d):B.P.underlying t=some d:=by
 unfold x9 at h
 split at h
 ·rename_i i hi
  have hi':=hB.T t i hi;unfold Program.underlying;rw[hi']
  split at h
  ·rename_i nm u hd
   split at h
   ·rename_i j hj
    cases h;have hj':=hB.T u j hj;obtain⟨_,_⟩:=i;simp only at hd;subst hd;simp only[hj',Option.map_some]
   ·cases h
  ·rename_i hd
   cases h
   split
   ·rename_i nm u heq
    cases heq;exact(hd _ _ rfl).elim
   ·rename_i heq
    cases heq;rfl
   ·rename_i heq;cases heq
 ·cases h
theorem cz{α β:Type}(P:Program)(m:Sem α)(f:α->Sem β)(s:St):ay P (m >>= f) s=(ay P m s).bind λ(a,s1)=>ay P (f a) s1:=mB P m f s
theorem dV{P:Program}{t:TypeId}{d:TypeDesc}(h:P.underlying t=some d)(s:St):ay P (Go.underlying t) s=some (d,s):=by
 unfold Go.underlying;show ay P (match P.underlying t with | some d=>(Pure.pure d:Sem TypeDesc) | none=>Go.stuck "no such type") s=_;rw[h];rfl
theorem m9{P:Program}{t:TypeId}{d:TypeInfo}(h:P.info? t=some d)(s:St):ay P (Go.typeInfo t) s=some (d,s):=by
 unfold Go.typeInfo;show ay P (match P.info? t with | some d=>(Pure.pure d:Sem TypeInfo) | none=>Go.stuck "no such type") s=_;rw[h];rfl
theorem lX{P:Program}{t:TypeId}{d:TypeInfo}(h:P.info? t=some d)(s:St):ay P (Go.sizeOf t) s=some (d.size,s):=by
 unfold Go.sizeOf;rw[cz,m9 h];rfl
theorem rH{P:Program}{t:TypeId}{d:TypeInfo}{z:Value}(h:P.info? t=some d)(hz:d.zero=some z)(s:St):ay P (Go.zeroValue t) s=some (z,s):=by
 unfold Go.zeroValue;rw[cz,m9 h];show ay P (match d.zero with | some v=>(Pure.pure v:Sem Value) | none=>_) s=_;rw[hz];rfl
theorem BL(h:Tr)(nx:Nat)(lg:List Touch)(b:Nat):(⟨h,nx,lg⟩:St).look b=Tr.gt deep h b:=(Tr.EU _ _ _).symm
theorem Ai{B:Base}(hB:ql B){t:TypeId}(h:vQ B t=true)(s:St):ay B.P (Go.isAgg t) s=some (false,s):=by
 unfold vQ at h
 split at h
 ·cases h
 ·cases h
 ·rename_i d h1 h2 hd
  unfold Go.isAgg;rw[cz,dV (kP hB hd)];show ay B.P (match d with | .struct _ | .array _ _=>(Pure.pure true:Sem Bool) | _=>Pure.pure false) s=_;cases d with
  | struct f=>exact(h1 _ rfl).elim
  | array n e=>exact(h2 _ _ rfl).elim
  | _=>rfl
 ·cases h
theorem EY{B:Base}(hB:ql B){ty:TypeId}{x:Value}{s:St}{r:Next×St}(h:EP B ty x s=some r):sv (ay B.P (Instr.loadAt ty x) s)=some r:=by
 unfold EP at h
 split at h
 ·rename_i b off hh nx lg
  obtain⟨h1,h2⟩:=cR h
  split at h2
  ·rename_i c e f hl
   split at h2
   ·rename_i v hv
    cases h2;have e1:ay B.P (Instr.loadAt ty (.pointer (some ⟨b,off,none⟩))) ⟨hh,nx,lg⟩=some (v,⟨hh,nx,⟨b,some off,false⟩::lg⟩):=by
     unfold Instr.loadAt;rw[cz];show ay B.P (loadVar ty ⟨b,off,none⟩) ⟨hh,nx,lg⟩=_;unfold loadVar;rw[cz,Ai hB h1];show ay B.P (Go.load ⟨b,off,none⟩) ⟨hh,nx,lg⟩=_;unfold Go.load;simp only[ay];rw[BL,hl];dsimp only;rw[BK]at hv;rw[← Array.getElem?_toList,hv];rfl
    rw[e1];rfl
   ·cases h2
  ·cases h2
 ·cases h
theorem C6{B:Base}(hB:ql B){ty:TypeId}{x v:Value}{s:St}{r:Next×St}(h:Aa B ty x v s=some r):su (ay B.P (Instr.storeAt ty x v) s)=some r:=by
 unfold Aa at h
 split at h
 ·rename_i b off hh nx lg
  obtain⟨h1,h2⟩:=cR h;rw[Bool.and_eq_true]at h1;obtain⟨h1a,h1b⟩:=h1
  split at h2
  ·rename_i c e hl
   obtain⟨h3,h4⟩:=cR h2;rw[EW,Tr.EV]at h4;cases h4;rw[Bool.and_eq_true]at h3;have hoff:off<c.size:=by have:=Nat.le_of_ble_eq_true h3.1;rw[Array.length_toList]at this;exact this
   have hb:b<lim:=Nat.le_of_ble_eq_true h3.2;have hcells:v.cells = #[v]:=by cases v<;>first | (cases h1a;done) | rfl
   unfold Oh at h1b
   split at h1b
   ·rename_i i hi
    have hsz:i.size=1:=Nat.eq_of_beq_eq_true h1b;have e1:ay B.P (Instr.storeAt ty (.pointer (some ⟨b,off,none⟩)) v) ⟨hh,nx,lg⟩=some ((),⟨Tr.set deep hh b (some (.cells ⟨c.toList.set off v⟩ e (0,0))),nx,⟨b,some off,true⟩::lg⟩):=by
     unfold Instr.storeAt;rw[cz];show ay B.P (storeVar ty ⟨b,off,none⟩ v) ⟨hh,nx,lg⟩=_;unfold storeVar;rw[cz,lX (hB.T _ _ hi)];dsimp only[Option.bind];rw[hcells,hsz];simp only[ne_eq,List.size_toArray,List.length_cons,List.length_nil,Nat.zero_add,not_true_eq_false,if_false];show ay B.P (storeCells ⟨b,off,none⟩ [v] 0) ⟨hh,nx,lg⟩=_;have e2:ay B.P (Go.store ⟨b,off,none⟩ v) ⟨hh,nx,lg⟩=some ((),⟨Tr.set deep hh b (some (.cells ⟨c.toList.set off v⟩ e (0,0))),nx,⟨b,some off,true⟩::lg⟩):=by
      unfold Go.store;simp only[ay];rw[BL,hl,h1a];simp only[hoff,hb,and_self,if_true,Option.some.injEq,Prod.mk.injEq];have ec:c.setIfInBounds off v=⟨c.toList.set off v⟩:=Array.ext' (by simp);rw[ec];exact⟨trivial,rfl⟩
     show ay B.P (Go.store (Addr.add ⟨b,off,none⟩ 0) v >>= λ_=>storeCells ⟨b,off,none⟩ [] 1) ⟨hh,nx,lg⟩=_;rw[cz,show Addr.add ⟨b,off,none⟩ 0=⟨b,off,none⟩ from rfl,e2];rfl
    rw[e1];rfl
   ·cases h1b
  ·cases h2
 ·cases h
theorem BM{B:Base}{c:Array Value}{t:TypeId}{v:Value}{s:St}{r:Next×St}(hv:v.cells=c)(h:Js c t s=some r):sv (ay B.P (do pure (.pointer (some (← newVar t v))):Sem Value) s)=some r:=by
  obtain⟨hh,nx,lg⟩:=s;unfold Js at h;dsimp only at h;obtain⟨h1,h2⟩:=cR h;rw[Tr.EV]at h2;cases h2;have hlim:4*nx<lim:=Nat.le_of_ble_eq_true h1;rw[cz];unfold newVar newRow newObj;rw[cz,hv];simp only[ay,hlim,if_true];rfl
theorem C7{B:Base}(hB:ql B){t:TypeId}{s:St}{r:Next×St}(h:z9 B t s=some r):tq B.P t=true/\sv (ay B.P (Instr.alloc t true (.tuple #[])) s)=some r:=by
 unfold z9 at h
 split at h
 ·rename_i c hc
  unfold Li at hc
  split at hc
  ·rename_i i hi
   split at hc
   ·rename_i z hz
    obtain⟨h1,h2⟩:=cR hc;cases h2;have hi':=hB.T _ _ hi;refine⟨by unfold tq;rw[hi'];dsimp only;rw[hz];exact h1,?_⟩;have:=BM (B:=B) (v:=z) rfl h;unfold Instr.alloc;rw[cz,rH hi' hz];exact this
   ·cases hc
  ·cases hc
 ·cases h
theorem Jw{B:Base}{t:TypeId}{v:Value}{s:St}{r:Next×St}(h:Oi t v s=some r):sv (ay B.P (Instr.box t v) s)=some r:=BM rfl h
theorem C8{B:Base}(hB:ql B){ty:TypeId}{x:Value}{f:Nat}{s:St}{r:Next×St}(h:Ab B ty x f s=some r):t7 B.P ty f=true/\sv (ay B.P (Instr.fieldAt ty x f) s)=some r:=by
  unfold Ab at h
  split at h
  · rename_i b off
    split at h
    · rename_i d hd
      cases h;unfold Og at hd
      split at hd
      · rename_i fields hu
        split at hd
        · rename_i fd RT
          split at hd
          · rename_i i hi
            have hi':=hB.T _ _ hi;have hz:i.size≠0/\d=fd.offset:=by
              rw[jl]at hd
              split at hd
              · cases hd
              · rename_i hn
                cases hd;exact⟨λe=>hn (by rw[e];rfl),rfl⟩
            obtain⟨hz,rfl⟩:=hz;have hu':=kP hB hu;constructor
            · unfold t7
              rw[hu'];dsimp only;rw[RT];dsimp only;rw[hi'];simpa using hz
            · unfold Instr.fieldAt
              rw[cz,dV hu'];dsimp only[Option.bind];rw[RT];dsimp only;rw[cz];show sv (ay B.P (do let p ← fieldPlace ⟨b,off,none⟩ fd;pure (.pointer (some p)):Sem Value) s)=_;rw[cz];unfold fieldPlace;rw[cz,lX hi'];dsimp only[Option.bind];rw[if_neg hz,Addr.fY];rfl
          · cases hd
        · cases hd
      · cases hd
    · cases h
  · cases h
theorem C9{B:Base}(hB:ql B){ty:TypeId}{x i:Value}{s:St}{r:Next×St}(h:z_ B ty x i s=some r):sv (ay B.P (Instr.indexAt ty x i) s)=some r:=by
 unfold z_ at h
 split at h
 ·rename_i b off n c k i
  split at h
  ·rename_i z hz
   obtain⟨h1,h2⟩:=cR h;cases h2;have hlt:i<n:=Nat.le_of_ble_eq_true h1;unfold Lj at hz
   split at hz
   ·rename_i e hu
    split at hz
    ·rename_i ti hi
     cases hz;have hu':=kP hB hu;unfold Instr.indexAt;rw[cz];show sv (ay B.P _ s)=_;rw[cz,dV hu'];dsimp only[Option.bind];rw[cz];show sv (ay B.P _ s)=_;rw[cz,dV hu'];dsimp only[Option.bind];have hc:(0:Int)<=Int.ofNat i/\Int.ofNat i<(n:Int):=⟨Int.natCast_nonneg i,Int.ofNat_lt.2 hlt⟩;rw[if_pos hc,cz,lX (hB.T _ _ hi)];dsimp only[Option.bind];rw[Addr.fY];rfl
    ·cases hz
   ·cases hz
  ·cases h
 ·cases h
theorem yf{P:Program}{x:Value}{i:Nat}{s:St}{r:Next×St}(h:rF x i s=some r):sv (ay P (Instr.extract x i) s)=some r:=by
 unfold rF at h
 split at h
 ·rename_i vs
  split at h
  ·rename_i v hv
   cases h;rw[BK,Array.getElem?_toList]at hv;unfold Instr.extract;dsimp only;rw[hv];rfl
  ·cases h
 ·cases h
theorem Jx{op:BinOp}{k:IntKind}{a b:Int}{v:Value}(h:fint op k a b=some v)(t:TypeId):binOp op t (.int k a) (.int k b)=pure v/\cu 5 v=true:=by
 have e1:(if k≠k then (Go.stuck "BinOp: operands of different kinds" : Sem Value) else pure v)=pure v:=if_neg (λhh=>hh rfl);have bc:∀ (c:Bool) (x y:Value) (w:Value),@Bool.rec (λ_=>Option Value) (some x) (some y) c=some w->w=if c then y else x:=by
  intro c x y w hh;cases c<;>(cases hh;rfl)
 have b1:∀ c:Bool,(if c=true then Value.bool true else Value.bool false)=.bool c:=by intro c;cases c<;>rfl
 have b2:∀ c:Bool,(if c=true then Value.bool false else Value.bool true)=.bool (!c):=by intro c;cases c<;>rfl
 cases op with
 | add=>have h':x8 (qk k (Int.add a b)) (λn=>some (Value.int k n))=some v:=h;rw[qK]at h';cases h';refine⟨?_,rfl⟩;rw[oC];simp[binOp,Op.intArith]
 | sub=>have h':x8 (qk k (Int.sub a b)) (λn=>some (Value.int k n))=some v:=h;rw[qK]at h';cases h';refine⟨?_,rfl⟩;rw[oC];simp[binOp,Op.intArith];rfl
 | mul=>have h':x8 (qk k (Int.mul a b)) (λn=>some (Value.int k n))=some v:=h;rw[qK]at h';cases h';refine⟨?_,rfl⟩;rw[oC];simp[binOp,Op.intArith]
 | eql=>have h':=bc _ _ _ _ h;subst h';rw[b1,vT];exact⟨by simp[binOp,Op.intCmp],rfl⟩
 | neq=>have h':=bc _ _ _ _ h;subst h';rw[b2,vT];exact⟨by simp[binOp,Op.intCmp];rfl,rfl⟩
 | lss=>have h':=bc _ _ _ _ h;subst h';rw[b2,qL,uf];exact⟨by simp[binOp,Op.intCmp],rfl⟩
 | leq=>have h':=bc _ _ _ _ h;subst h';rw[b1,qL];exact⟨by simp[binOp,Op.intCmp],rfl⟩
 | gtr=>have h':=bc _ _ _ _ h;subst h';rw[b2,qL,uf];exact⟨by simp[binOp,Op.intCmp],rfl⟩
 | geq=>have h':=bc _ _ _ _ h;subst h';rw[b1,qL];exact⟨by simp[binOp,Op.intCmp],rfl⟩
 | _=>cases h
theorem Jy{op:BinOp}{x y v:Value}(h:Jo op x y=some v)(t:TypeId)(ox oy:Operand):(do eqGuard op t ox oy x y;binOp op t x y:Sem Value)=pure v/\cu 5 v=true/\cu 5 x=true/\cu 5 y=true:=by
  unfold Jo at h
  split at h
  · rename_i k a k' b
    obtain⟨h1,h2⟩:=cR h;have:=vU h1;subst this;obtain⟨h3,h4⟩:=Jx h2 t;refine⟨?_,h4,rfl,rfl⟩;rw[h3];unfold eqGuard
    split<;>rfl
  · cases h
theorem C_{P:Program}{ρ:Operand->Value}{o:Oper}{op:BinOp}{t u:TypeId}{x y:Operand}{v:Value}{s:St}(ho:o.op=.binOp op t x y u)(hx:bN x=true)(hy:bN y=true)(h:Jo op (ρ x) (ρ y)=some v):fO P ρ o s=some (.value v,s):=by
  obtain⟨h1,h2,h3,h4⟩:=Jy h t x y;unfold fO;rw[ho];simp only[kG,Op.operands,List.all_cons,List.all_nil,hx,hy,h3,h4,Bool.and_true,if_true];have:execOp ρ o=(do pure (.value (← (do eqGuard op t x y (ρ x) (ρ y);binOp op t (ρ x) (ρ y):Sem Value))):Sem Next):=by
    unfold execOp;rw[ho]
  rw[this,h1];show(if cu 5 v=true then some (Next.value v,s) else none)=_;rw[if_pos h2]
theorem BN{B:Base}(hB:ql B){t:TypeId}{k:IntKind}(h:Jq B t=some k):B.P.underlying t=some (.int k):=by
 unfold Jq at h
 split at h
 ·rename_i k' hu
  cases h;exact kP hB hu
 ·cases h
theorem gW{α β:Type}(P:Program)(m:Sem α)(f:α->Sem β):jd P (m >>= f)=(jd P m).bind λa=>jd P (f a):=by
 show jd P (m.bind f)=_
 induction m with
 | pure a=>rfl
 | choose q k ih =>
  simp only[Sem.bind,jd]
  split
  ·exact ih 0
  ·rfl
 | program k ih=>exact ih P
 | mark m k ih=>exact ih
 | _=>rfl
theorem il{P:Program}{t:TypeId}{d:TypeDesc}(h:P.underlying t=some d):jd P (Go.underlying t)=some d:=by
 unfold Go.underlying;show jd P (match P.underlying t with | some d=>(Pure.pure d:Sem TypeDesc) | none=>Go.stuck "no such type")=_;rw[h];rfl
theorem EZ{B:Base}(hB:ql B){ρ:Operand->Value}{o:Oper}{t u:TypeId}{x:Operand}{s:St}{r:Next×St}(ho:o.op=.convert t u x)(hx:bN x=true)(h:EN B t u (ρ x) s=some r):fO B.P ρ o s=some r:=by
  unfold EN at h
  split at h
  · rename_i k0 n hv
    split at h
    · rename_i k1 k ht hk
      rw[qK]at h;cases h;unfold fO;rw[ho];simp only[kG,Op.operands,List.all_cons,List.all_nil,hx,hv,cu,Bool.and_true,if_true];have e:execOp ρ o=(do pure (.value (← convert t u (ρ x))):Sem Next):=by
        unfold execOp;rw[ho]
      have e2:jd B.P (convert t u (.int k0 n))=some (.int k (k.wrap n)):=by
        unfold convert;rw[gW,il (BN hB ht)];dsimp only[Option.bind];rw[gW,il (BN hB hk)];rfl
      rw[e,hv,gW,e2,oC];rfl
    · cases h
  · cases h
theorem Jz{P:Program}{ρ:Operand->Value}{o:Oper}{op:UnOp}{t:TypeId}{x:Operand}{s:St}{r:Next×St}(ho:o.op=.unOp op t x)(hx:bN x=true)(h:Mp op (ρ x) s=some r):fO P ρ o s=some r:=by
  unfold Mp at h
  split at h
  · rename_i b hv
    unfold fO;rw[ho];simp only[kG,Op.operands,List.all_cons,List.all_nil,hx,hv,cu,Bool.and_true,if_true];have e:execOp ρ o=(do pure (.value (← Op.unary .not (ρ x))):Sem Next):=by
      unfold execOp;rw[ho]
    rw[e,hv];cases b<;>(cases h;rfl)
  · cases h
theorem BO{B:Base}(hB:ql B){t:TypeId}(h:Jp B t=true):∃ e,B.P.underlying t=some (.pointer e):=by
 unfold Jp at h
 split at h
 ·rename_i e hu
  exact⟨e,kP hB hu⟩
 ·cases h
theorem C'(a:Addr):cu 5 (.pointer (some a))=false:=rfl
def Mu(op:BinOp)(s:St):Option (Next×St) :=
 match op with
 | .eql=>some (.value (.bool false),s)
 | .neq=>some (.value (.bool true),s)
 | _=>none
theorem ug{P:Program}{ρ:Operand->Value}{o:Oper}{op:BinOp}{t u:TypeId}{x y:Operand}{s:St}(ho:o.op=.binOp op t x y u) :
  fP P ρ o s=(match fO P ρ o s with | some r=>some r | none=>if bX [x,y] then (if f_ P t (ρ x) (ρ y) then Mu op s else Eq op (ρ x) (ρ y) s) else none):=by
 obtain⟨dst,Qw,ty,pos,after,guard⟩:=o;simp only at ho;subst ho;rfl
theorem E0{P:Program}{ρ:Operand->Value}{o:Oper}{op:UnOp}{t:TypeId}{x:Operand}{s:St}(ho:o.op=.unOp op t x) :
  fP P ρ o s=(match fO P ρ o s with | some r=>some r | none=>if bN x then Er op (ρ x) s else none):=by
 obtain⟨dst,Qw,ty,pos,after,guard⟩:=o;simp only at ho;subst ho;rfl
theorem Aj{P:Program}{ρ:Operand->Value}{o:Oper}{t u:TypeId}{x:Operand}{s:St}(ho:o.op=.convert t u x) :
  fP P ρ o s=(match fO P ρ o s with | some r=>some r | none=>if bN x then zP P t u (ρ x) s else none):=by
 obtain⟨dst,Qw,ty,pos,after,guard⟩:=o;simp only at ho;subst ho;rfl
theorem Ak{P:Program}{ρ:Operand->Value}{o:Oper}{c:Call}{s:St}(ho:o.op=.call c) :
  fP P ρ o s=(match fO P ρ o s with | some r=>some r | none=>BA P ρ c o.type s):=by
 obtain⟨dst,Qw,ty,pos,after,guard⟩:=o;simp only at ho;subst ho;rfl
theorem E1{B:Base}(hB:ql B){ρ:Operand->Value}{o:Oper}{op:BinOp}{t u:TypeId}{x y:Operand}{s:St}{r:Next×St}(ho:o.op=.binOp op t x y u)(hx:bN x=true)(hy:bN y=true)
    (h:EO B op t (ρ x) (ρ y) s=some r) :
    fP B.P ρ o s=some r:=by
  rw[ug ho];unfold EO at h
  split at h
  · rename_i a Ok PV
    obtain⟨h1,h2⟩:=cR h;obtain⟨e,hu⟩:=BO hB h1;have hf:fO B.P ρ o s=none:=by
      unfold fO;rw[ho];simp only[kG,Op.operands,List.all_cons,List.all_nil,Ok,C',Bool.and_false,Bool.false_and,Bool.and_true,Bool.false_eq_true,if_false]
    rw[hf];dsimp only;have hn:f_ B.P t (ρ x) (ρ y)=true:=by
      unfold f_;rw[hu,Ok,PV]
    have ha:bX [x,y]=true:=by simp[bX,hx,hy]
    rw[ha,hn];simp only[if_true];exact h2
  · rename_i Ok PV
    obtain⟨h1,h2⟩:=cR h;obtain⟨e,hu⟩:=BO hB h1;have heq:jd B.P (Op.equal t (.pointer none) (.pointer none))=some true:=by
      have hk:∀ n,jd B.P (Op.equalIn (n+1) t (.pointer none) (.pointer none))=some true:=by
        intro n;unfold Op.equalIn;rw[gW,il hu];rfl
      exact hk 9999
    have hg:∀ op,eqGuard op t x y (.pointer none) (.pointer none)=pure ():=by
      intro op;unfold eqGuard
      split<;>rfl
    have hf:fO B.P ρ o s=some r:=by
      unfold fO;rw[ho];simp only[kG,Op.operands,List.all_cons,List.all_nil,hx,hy,Ok,PV,cu,Bool.and_true,if_true];have ee:execOp ρ o=(do pure (.value (← (do eqGuard op t x y (ρ x) (ρ y);binOp op t (ρ x) (ρ y):Sem Value))):Sem Next):=by
        unfold execOp;rw[ho]
      rw[ee,Ok,PV,gW,gW,hg];cases op with
      | eql =>
        cases h2;have eb:binOp .eql t (.pointer none) (.pointer none)=(do pure (.bool (← Op.equal t (.pointer none) (.pointer none))):Sem Value):=rfl;show(match (jd B.P (binOp .eql t (.pointer none) (.pointer none))).bind λa=>jd B.P (pure (Next.value a)) with | some (.value v)=>if cu 5 v=true then some (Next.value v,s) else none | _=>none)=_;rw[eb,gW,heq];rfl
      | neq =>
        cases h2;have eb:binOp .neq t (.pointer none) (.pointer none)=(do pure (.bool (!(← Op.equal t (.pointer none) (.pointer none)))):Sem Value):=rfl;show(match (jd B.P (binOp .neq t (.pointer none) (.pointer none))).bind λa=>jd B.P (pure (Next.value a)) with | some (.value v)=>if cu 5 v=true then some (Next.value v,s) else none | _=>none)=_;rw[eb,gW,heq];rfl
      | _=>cases h2
    rw[hf]
  · cases h
theorem JA{B:Base}(hB:ql B){t ty:TypeId}{x:Value}{s:St}{r:Next×St}(h:Mn B t x s=some r):sv (ay B.P (Builtin.len_ #[t] ty #[x]) s)=some r:=by
 unfold Mn at h
 split at h
 ·rename_i a n c
  obtain⟨h1,h2⟩:=cR h;cases h2;unfold Jr at h1
  split at h1
  ·rename_i e hu
   unfold Builtin.len_;simp only[List.getElem?_toArray,List.getElem?_cons_zero];rw[cz,dV (kP hB hu)];rfl
  ·cases h1
  ·cases h1
 ·rename_i b
  obtain⟨h1,h2⟩:=cR h;cases h2;unfold Jr at h1
  split at h1
  ·cases h1
  ·rename_i hu
   unfold Builtin.len_;simp only[List.getElem?_toArray,List.getElem?_cons_zero];rw[cz,dV (kP hB hu)];rfl
  ·cases h1
 ·cases h
theorem E2{B:Base}(hB:ql B){f:FuncId}(h:PU B f=true):vl B.P f=true:=by
 unfold PU at h
 split at h
 ·rename_i fn hf
  unfold vl;rw[hB.F _ _ hf];exact h
 ·cases h
theorem yg(t:TV):∀ xs:List Operand,ub t xs=xs.map (dI t):=by
 intro xs
 induction xs with
 | nil=>rfl
 | cons x xs ih =>
  show dI t x::ub t xs=_;rw[ih];rfl
theorem rI{P:Program}{ρ:Operand->Value}{o:Oper}{c:Call}{s:St}(ho:o.op=.call c)(hc:∀ b,c.callee=.builtin b->b≠.min/\b≠.max):fO P ρ o s=none:=by
 have:kG o.op=false:=by
  rw[ho];obtain⟨callee,args,ts⟩:=c;cases callee with
  | builtin b =>
   have:=hc b rfl;cases b<;>first | rfl | (exact absurd rfl this.1) | (exact absurd rfl this.2)
  | _=>rfl
 unfold fO;rw[this];simp
theorem Al{B:Base}(hB:ql B){t:TV}{o:Oper}{c:Call}{s:St}{r:Next×St}(ho:o.op=.call c)(h:vR B t o c s=some r):fP B.P (dI t) o s=some r:=by
 have hr:=Ak (P:=B.P) (ρ:=dI t) (s:=s) ho;unfold vR at h
 split at h
 ·rename_i f hf
  split at h
  ·rename_i g first captured hv
   obtain⟨h1,h2⟩:=dN h;rw[Bool.and_eq_true]at h1;cases h2;rw[hr,rI ho (λb e=>by rw[hf]at e;cases e)];dsimp only;unfold BA;rw[h1.1,hf];simp only[if_true,hv,E2 hB h1.2]
   congr 3
   apply Array.ext';simp[yg]
  ·exact h
 ·rename_i b hb
  unfold ya at h
  split at h
  ·rename_i x ty ha ht
   obtain⟨h1,h2⟩:=dN h;rcases eZ h2 with h3 | h3
   ·rw[hr,rI ho (λb e=>by rw[hb]at e;cases e;exact⟨by simp,by simp⟩)]
    dsimp only;unfold BA;rw[h1,hb];simp only[if_true,ha,ht];exact JA hB h3
   ·exact h3
  ·exact h
 ·exact h
theorem Qx{x y:Operand}(h:bX [x,y]=true):bN x=true/\bN y=true:=by simpa[bX] using h
theorem E3{B:Base}(hB:ql B){t:TV}{o:Oper}{s:St}{r:Next×St}(h:BB B t o s=some r):fP B.P (dI t) o s=some r:=by
 unfold BB at h
 split at h
 ·rename_i x ho
  obtain⟨h1,h2⟩:=dN h;unfold fP;rw[ho];simp only[h1,if_true];exact h2
 ·rename_i x ho
  obtain⟨h1,h2⟩:=dN h;unfold fP;rw[ho];simp only[h1,if_true];exact h2
 ·rename_i c x y ho
  obtain⟨h1,h2⟩:=dN h;unfold fP;rw[ho];simp only[h1,if_true];unfold Lk at h2
  split at h2
  ·rename_i b hb
   cases h2;cases b<;>rfl
  ·cases h2
 ·rename_i op ty x y u ho
  obtain⟨h1,h2⟩:=dN h;obtain⟨hx,hy⟩:=Qx h1
  split at h2
  ·rename_i v hv
   cases h2;rw[ug ho,C_ ho hx hy hv]
  ·rcases eZ h2 with h3 | h3
   ·exact E1 hB ho hx hy h3
   ·exact h3
 ·rename_i op ty x ho
  obtain⟨h1,h2⟩:=dN h;rcases eZ h2 with h3 | h3
  ·rw[E0 ho,Jz ho h1 h3]
  ·exact h3
 ·rename_i a u x ho
  obtain⟨h1,h2⟩:=dN h;rcases eZ h2 with h3 | h3
  ·rw[Aj ho,EZ hB ho h1 h3]
  ·exact h3
 ·rename_i ty ho
  rcases eZ h with h3 | h3
  ·obtain⟨h4,h5⟩:=C7 hB h3
   unfold fP;rw[ho];simp only[h4,if_true];exact h5
  ·exact h3
 ·rename_i ty x ho
  obtain⟨h1,h2⟩:=dN h;rcases eZ h2 with h3 | h3
  ·unfold fP
   rw[ho];simp only[h1,if_true];exact Jw h3
  ·exact h3
 ·rename_i ty x ho
  obtain⟨h1,h2⟩:=dN h;rcases eZ h2 with h3 | h3
  ·unfold fP
   rw[ho];simp only[h1,if_true];exact EY hB h3
  ·exact h3
 ·rename_i ty x y ho
  obtain⟨h1,h2⟩:=dN h;rcases eZ h2 with h3 | h3
  ·unfold fP
   rw[ho];simp only[h1,if_true];exact C6 hB h3
  ·exact h3
 ·rename_i ty x f ho
  obtain⟨h1,h2⟩:=dN h;rcases eZ h2 with h3 | h3
  ·obtain⟨h4,h5⟩:=C8 hB h3
   unfold fP;rw[ho];simp only[h1,h4,Bool.and_self,if_true];exact h5
  ·exact h3
 ·rename_i ty x i ho
  obtain⟨h1,h2⟩:=dN h;rcases eZ h2 with h3 | h3
  ·unfold fP
   rw[ho];simp only[h1,if_true];exact C9 hB h3
  ·exact h3
 ·rename_i x ho
  obtain⟨h1,h2⟩:=dN h;unfold fP;rw[ho];simp only[h1,if_true];exact h2
 ·rename_i x i ho
  obtain⟨h1,h2⟩:=dN h;rcases eZ h2 with h3 | h3
  ·unfold fP
   rw[ho];simp only[h1,if_true];exact yf h3
  ·exact h3
 ·rename_i c ho
  exact Al hB ho h
 ·exact h
end Go.Ev
