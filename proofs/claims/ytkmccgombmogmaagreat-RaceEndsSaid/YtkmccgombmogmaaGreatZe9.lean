/- Part of a proof: see the last text. -/
import Derived.Test.YtkmccgombmogmaaGreatZe8
set_option linter.unusedSectionVars false
set_option linter.unusedSimpArgs false
set_option linter.unusedVariables false
namespace Go.Ev
open Go.RowKit
variable[bg]
theorem i6{α:Sort _}(b:Bool)(x y:α):@Bool.rec (λ_=>α) x y b=if b=true then y else x:=by cases b<;>rfl
theorem xH(a b:Nat):(Nat.beq a b=true)=(a=b):=by
 simp
theorem TV.ew(v:Value)(l r:TV)(n:Nat):(TV.node v l r).get n=if n=0 then v else if n%2=1 then l.get (n / 2) else r.get (n / 2-1):=by
 show @Bool.rec (λ_=>Value) (@Bool.rec (λ_=>Value) (r.get (Nat.sub (Nat.div n 2) 1)) (l.get (Nat.div n 2)) (Nat.beq (Nat.mod n 2) 1)) v (Nat.beq n 0)=_;rw[i6,i6];simp only[xH];rfl
theorem TV.lr(n:Nat):TV.leaf.get n=undef:=rfl
def TV.val:TV->Value
 | .leaf=>undef
 | .node v _ _=>v
def TV.zi:TV->TV
 | .leaf=>.leaf
 | .node _ l _=>l
def TV.zj:TV->TV
 | .leaf=>.leaf
 | .node _ _ r=>r
def TV.set:Nat->TV->Nat->Value->TV
 | 0,t,_,_=>t
 | d+1,t,n,x=>if n=0 then .node x t.zi t.zj else if n%2=1 then .node t.val (t.zi.set d (n / 2) x) t.zj else .node t.val t.zi (t.zj.set d (n / 2-1) x)
theorem TV.Be{β:Type} : ∀ (d:Nat) (t:TV) (n:Nat) (x:Value) (k:TV->β),TV.lI d t n x k=k (TV.set d t n x):=by
 intro d
 induction d with
 | zero=>intro t n x k;rfl
 | succ d ih =>
  intro t n x k;cases t with
  | leaf =>
   show @Bool.rec (λ_=>β) (@Bool.rec (λ_=>β) (TV.lI d .leaf (Nat.sub (Nat.div n 2) 1) x (λr=>k (.node undef .leaf r))) (TV.lI d .leaf (Nat.div n 2) x (λl=>k (.node undef l .leaf))) (Nat.beq (Nat.mod n 2) 1)) (k (.node x .leaf .leaf)) (Nat.beq n 0)=_;rw[i6,i6];simp only[xH,ih]
   by_cases h0:n=0
   ·rw[if_pos h0];subst h0;rfl
   ·rw[if_neg h0]
    by_cases h1:n.mod 2=1
    ·have e:TV.set (d+1) .leaf n x=.node undef (TV.set d .leaf (n / 2) x) .leaf:=by
      show(if n=0 then _ else if n%2=1 then _ else _)=_;rw[if_neg h0,if_pos (show n%2=1 from h1)];rfl
     rw[if_pos h1,e];rfl
    ·have e:TV.set (d+1) .leaf n x=.node undef .leaf (TV.set d .leaf (n / 2-1) x):=by
      show(if n=0 then _ else if n%2=1 then _ else _)=_;rw[if_neg h0,if_neg (show ¬ n%2=1 from h1)];rfl
     rw[if_neg h1,e];rfl
  | node v l r =>
   show @Bool.rec (λ_=>β) (@Bool.rec (λ_=>β) (TV.lI d r (Nat.sub (Nat.div n 2) 1) x (λr'=>k (.node v l r'))) (TV.lI d l (Nat.div n 2) x (λl'=>k (.node v l' r))) (Nat.beq (Nat.mod n 2) 1)) (k (.node x l r)) (Nat.beq n 0)=_;rw[i6,i6];simp only[xH,ih]
   by_cases h0:n=0
   ·rw[if_pos h0];subst h0;rfl
   ·rw[if_neg h0]
    by_cases h1:n.mod 2=1
    ·have e:TV.set (d+1) (.node v l r) n x=.node v (TV.set d l (n / 2) x) r:=by
      show(if n=0 then _ else if n%2=1 then _ else _)=_;rw[if_neg h0,if_pos (show n%2=1 from h1)];rfl
     rw[if_pos h1,e];rfl
    ·have e:TV.set (d+1) (.node v l r) n x=.node v l (TV.set d r (n / 2-1) x):=by
      show(if n=0 then _ else if n%2=1 then _ else _)=_;rw[if_neg h0,if_neg (show ¬ n%2=1 from h1)];rfl
     rw[if_neg h1,e];rfl
theorem TV.get_eq(t:TV)(n:Nat):t.get n=if n=0 then t.val else if n%2=1 then t.zi.get (n / 2) else t.zj.get (n / 2-1):=by
 cases t with
 | leaf=>simp[TV.lr,TV.val,TV.zi,TV.zj]
 | node v l r=>exact TV.ew v l r n
theorem TV.fk(d:Nat):∀ (t:TV) (n m:Nat) (x:Value),n+1<2 ^ d->(t.set d n x).get m=if m=n then x else t.get m:=by
 induction d with
 | zero=>intro t n m x h;simp at h
 | succ d ih =>
  intro t n m x h;have hp:2 ^ (d+1)=2*2 ^ d:=by rw[Nat.pow_succ,Nat.mul_comm]
  unfold TV.set
  by_cases h0:n=0
  ·subst h0
   rw[if_pos rfl,TV.ew,TV.get_eq t]
   by_cases hm:m=0
   ·simp[hm]
   ·simp[hm]
  ·rw[if_neg h0]
   by_cases h1:n%2=1
   ·rw[if_pos h1,TV.ew,TV.get_eq t]
    by_cases hm:m=0
    ·subst hm
     rw[if_pos rfl,if_pos rfl,if_neg (λe=>h0 e.symm)]
    ·rw[if_neg hm,if_neg hm]
     by_cases hm1:m%2=1
     ·rw[if_pos hm1,if_pos hm1,ih _ _ _ _ (by omega)]
      by_cases e:m=n
      ·rw[if_pos e,if_pos (by omega)]
      ·rw[if_neg e,if_neg (by omega)]
     ·rw[if_neg hm1,if_neg hm1,if_neg (by omega)]
   ·rw[if_neg h1,TV.ew,TV.get_eq t]
    by_cases hm:m=0
    ·subst hm
     rw[if_pos rfl,if_pos rfl,if_neg (λe=>h0 e.symm)]
    ·rw[if_neg hm,if_neg hm]
     by_cases hm1:m%2=1
     ·rw[if_pos hm1,if_pos hm1,if_neg (by omega)]
     ·rw[if_neg hm1,if_neg hm1,ih _ _ _ _ (by omega)]
      by_cases e:m=n
      ·rw[if_pos e,if_pos (by omega)]
      ·rw[if_neg e,if_neg (by omega)]
theorem kD{β:Type}(n:Nat)(k:Nat->β):qe n k=k n:=by cases n<;>rfl
theorem qn{β:Type}(n:Int)(k:Int->β):xB n k=k n:=by
 cases n with
 | ofNat n=>exact kD n (λn=>k (.ofNat n))
 | negSucc n=>exact kD n (λn=>k (.negSucc n))
theorem Bf{β:Type}(a:Option Addr)(k:Option Addr->β):Ih a k=k a:=by
 cases a with
 | none=>rfl
 | some a =>
  obtain⟨b,off,sp⟩:=a;show qe b (λb=>qe off (λoff=>k (some ⟨b,off,sp⟩)))=_;rw[kD,kD]
theorem Bg{β:Type}(v:Value)(k:Value->β):Ei v k=k v:=by
 cases v with
 | pointer a=>exact Bf a (λa=>k (.pointer a))
 | slice a n c =>
  show Ih a (λa=>qe n (λn=>qe c (λc=>k (.slice a n c))))=_;rw[Bf,kD,kD]
 | _=>rfl
theorem Bh{α β:Type} : ∀ (l:List α) (k:List α->β),Cz l k=k l:=by
 intro l
 induction l with
 | nil=>intro k;rfl
 | cons v l ih =>
  intro k;show Cz l (λl=>k (v::l))=_;rw[ih]
theorem Tr.Es:∀ (d:Nat) (t:Tr) (n:Nat),Tr.gt d t n=Tr.get d t n:=by
 intro d
 induction d with
 | zero=>intro t n;rfl
 | succ d ih =>
  intro t n;cases t with
  | leaf=>rfl
  | node v l r =>
   show @Bool.rec (λ_=>Option Obj) (@Bool.rec (λ_=>Option Obj) (Tr.gt d r (Nat.div n 2)) (Tr.gt d l (Nat.div n 2)) (Nat.beq (Nat.mod n 2) 0)) v (Nat.beq n 0)=_;rw[i6,i6];simp only[xH,ih];rfl
theorem Tr.Et{β:Type} : ∀ (d:Nat) (t:Tr) (n:Nat) (x:Option Obj) (k:Tr->β),Tr.La d t n x k=k (Tr.set d t n x):=by
 intro d
 induction d with
 | zero=>intro t n x k;rfl
 | succ d ih =>
  intro t n x k;cases t with
  | leaf =>
   show @Bool.rec (λ_=>β) (@Bool.rec (λ_=>β) (Tr.La d .leaf (Nat.div n 2) x (λr=>k (.node none .leaf r))) (Tr.La d .leaf (Nat.div n 2) x (λl=>k (.node none l .leaf))) (Nat.beq (Nat.mod n 2) 0)) (k (.node x .leaf .leaf)) (Nat.beq n 0)=_;rw[i6,i6];simp only[xH,ih]
   by_cases h0:n=0
   ·rw[if_pos h0];subst h0;rfl
   ·rw[if_neg h0]
    by_cases h1:n.mod 2=0
    ·have e:Tr.set (d+1) .leaf n x=.node none (Tr.set d .leaf (n / 2) x) .leaf:=by
      show(if n=0 then _ else if n%2=0 then _ else _)=_;rw[if_neg h0,if_pos (show n%2=0 from h1)];rfl
     rw[if_pos h1,e];rfl
    ·have e:Tr.set (d+1) .leaf n x=.node none .leaf (Tr.set d .leaf (n / 2) x):=by
      show(if n=0 then _ else if n%2=0 then _ else _)=_;rw[if_neg h0,if_neg (show ¬ n%2=0 from h1)];rfl
     rw[if_neg h1,e];rfl
  | node v l r =>
   show @Bool.rec (λ_=>β) (@Bool.rec (λ_=>β) (Tr.La d r (Nat.div n 2) x (λr'=>k (.node v l r'))) (Tr.La d l (Nat.div n 2) x (λl'=>k (.node v l' r))) (Nat.beq (Nat.mod n 2) 0)) (k (.node x l r)) (Nat.beq n 0)=_;rw[i6,i6];simp only[xH,ih]
   by_cases h0:n=0
   ·rw[if_pos h0];subst h0;rfl
   ·rw[if_neg h0]
    by_cases h1:n.mod 2=0
    ·have e:Tr.set (d+1) (.node v l r) n x=.node v (Tr.set d l (n / 2) x) r:=by
      show(if n=0 then _ else if n%2=0 then _ else _)=_;rw[if_neg h0,if_pos (show n%2=0 from h1)];rfl
     rw[if_pos h1,e];rfl
    ·have e:Tr.set (d+1) (.node v l r) n x=.node v l (Tr.set d r (n / 2) x):=by
      show(if n=0 then _ else if n%2=0 then _ else _)=_;rw[if_neg h0,if_neg (show ¬ n%2=0 from h1)];rfl
     rw[if_neg h1,e];rfl
theorem Bi:∀ (l:List Value) (n:Nat),Lb l n=l[n]?:=by
 intro l
 induction l with
 | nil=>intro n;rfl
 | cons v l ih =>
  intro n;cases n with
  | zero=>rfl
  | succ n=>exact ih n
theorem Eu{β:Type}(x:Value):∀ (l:List Value) (n:Nat) (k:List Value->β),Ej l x n k=k (l.set n x):=by
 intro l
 induction l with
 | nil=>intro n k;rfl
 | cons v l ih =>
  intro n k;cases n with
  | zero=>rfl
  | succ n =>
   show Ej l x n (λl'=>k (v::l'))=_;rw[ih];rfl
theorem gK.ew{α:Type}(v:Option α)(l r:gK α)(n:Nat):(gK.node v l r).get n=if n=0 then v else if n%2=1 then l.get (n / 2) else r.get (n / 2-1):=by
 show @Bool.rec (λ_=>Option α) (@Bool.rec (λ_=>Option α) (r.get (Nat.sub (Nat.div n 2) 1)) (l.get (Nat.div n 2)) (Nat.beq (Nat.mod n 2) 1)) v (Nat.beq n 0)=_;rw[i6,i6];simp only[xH];rfl
theorem gK.Iu{α β:Type} : ∀ (d:Nat) (t:gK α) (n:Nat) (x:α) (k:gK α->β),∃ t',gK.lI d t n x k=k t'/\∀ m y,t'.get m=some y->(m=n/\y=x)\/t.get m=some y:=by
 intro d
 induction d with
 | zero=>intro t n x k;exact⟨t,rfl,λm y h=>.inr h⟩
 | succ d ih =>
  intro t n x k;have key:∀ (v:Option α) (l r:gK α),(∀ m,t.get m=(gK.node v l r).get m)->
    gK.lI (d+1) t n x k = @Bool.rec (λ_=>β) (@Bool.rec (λ_=>β) (gK.lI d r (Nat.sub (Nat.div n 2) 1) x (λr'=>k (.node v l r'))) (gK.lI d l (Nat.div n 2) x (λl'=>k (.node v l' r))) (Nat.beq (Nat.mod n 2) 1)) (k (.node (some x) l r)) (Nat.beq n 0)->
    ∃ t',gK.lI (d+1) t n x k=k t'/\∀ m y,t'.get m=some y->(m=n/\y=x)\/t.get m=some y:=by
   intro v l r hg he;rw[he,i6,i6];simp only[xH]
   by_cases h0:n=0
   ·rw[if_pos h0]
    refine⟨_,rfl,λm y hy=>?_⟩;rw[gK.ew]at hy
    by_cases hm:m=0
    ·rw[if_pos hm]at hy
     cases hy;exact .inl ⟨by omega,rfl⟩
    ·rw[if_neg hm]at hy
     refine .inr ?_;rw[hg,gK.ew,if_neg hm];exact hy
   ·rw[if_neg h0]
    by_cases h1:n.mod 2=1
    ·rw[if_pos h1]
     obtain⟨t',e,ht⟩:=ih l (n / 2) x (λl'=>k (.node v l' r));refine⟨_,e,λm y hy=>?_⟩;rw[gK.ew]at hy;rw[hg,gK.ew];have h1':n%2=1:=h1
     by_cases hm:m=0
     ·rw[if_pos hm]at hy ⊢
      exact .inr hy
     ·rw[if_neg hm]at hy ⊢
      by_cases hm1:m%2=1
      ·rw[if_pos hm1]at hy ⊢
       rcases ht _ _ hy with ⟨a,b⟩ | a
       ·exact .inl ⟨by omega,b⟩
       ·exact .inr a
      ·rw[if_neg hm1]at hy ⊢
       exact .inr hy
    ·rw[if_neg h1]
     obtain⟨t',e,ht⟩:=ih r (n / 2-1) x (λr'=>k (.node v l r'));refine⟨_,e,λm y hy=>?_⟩;rw[gK.ew]at hy;rw[hg,gK.ew];have h1':¬ n%2=1:=h1
     by_cases hm:m=0
     ·rw[if_pos hm]at hy ⊢
      exact .inr hy
     ·rw[if_neg hm]at hy ⊢
      by_cases hm1:m%2=1
      ·rw[if_pos hm1]at hy ⊢
       exact .inr hy
      ·rw[if_neg hm1]at hy ⊢
       rcases ht _ _ hy with ⟨a,b⟩ | a
       ·exact .inl ⟨by omega,b⟩
       ·exact .inr a
  cases t with
  | leaf =>
   refine key none .leaf .leaf (λm=>?_) rfl;rw[gK.ew]
   by_cases hm:m=0
   ·rw[if_pos hm];rfl
   ·rw[if_neg hm]
    split<;>rfl
  | node v l r=>exact key v l r (λm=>rfl) rfl
theorem gK.Ew{α β:Type} : ∀ (l:List α) (i:Nat) (t:gK α) (k:gK α->β),∃ t',gK.J9 l i t k=k t'/\∀ m y,t'.get m=some y->(i<=m/\l[m-i]? = some y)\/t.get m=some y:=by
 intro l
 induction l with
 | nil=>intro i t k;exact⟨t,rfl,λm y h=>.inr h⟩
 | cons v l ih =>
  intro i t k;obtain⟨t1,e1,h1⟩:=gK.Iu 16 t i v (λt1=>gK.J9 l (i+1) t1 k);obtain⟨t2,e2,h2⟩:=ih (i+1) t1 k;refine⟨t2,?_,λm y hy=>?_⟩
  ·show gK.lI 16 t i v (λt1=>gK.J9 l (Nat.succ i) t1 k)=_
   rw[e1];exact e2
  ·rcases h2 m y hy with ⟨a,b⟩ | a
   ·refine .inl ⟨by omega,?_⟩
    rw[show m-i=(m-(i+1))+1 by omega];exact b
   ·rcases h1 m y a with ⟨b,c⟩ | b
    ·subst b c
     exact .inl ⟨Nat.le_refl _,by simp⟩
    ·exact .inr b
structure pV(B:Base):Prop where
 T:∀ t i,B.T.get t=some i->B.P.info? t=some i
 F:∀ f fn,B.F.get f=some fn->B.P.funcs[f]? = some fn
theorem tt{P:Program}{t:TypeId}{i:TypeInfo}(h:P.types[t]? = some i):P.info? t=some i:=by
 have hlt:t<P.types.size:=(Array.getElem?_eq_some_iff.1 h).1;show(if t<P.types.size then P.types[t]? else Made.infoAt P.toTables Made.depth t)=_;rw[if_pos hlt];exact h
theorem qY{β:Type}(P:Program)(k:Base->β):∃ B,pV B/\B.P=P/\d9 P k=k B:=by
 obtain⟨⟨a1,a2,a3,a4,types,a6,a7,a8,a9,Mz,MA⟩,funcs⟩:=P;obtain⟨T,e1,h1⟩:=gK.Ew types.toList 0 .leaf (λT=>gK.J9 funcs.toList 0 .leaf (λF=>k ⟨⟨⟨a1,a2,a3,a4,⟨types.toList⟩,a6,a7,a8,a9,Mz,MA⟩,⟨funcs.toList⟩⟩,T,F⟩));obtain⟨F,e2,h2⟩:=gK.Ew funcs.toList 0 .leaf (λF=>k ⟨⟨⟨a1,a2,a3,a4,⟨types.toList⟩,a6,a7,a8,a9,Mz,MA⟩,⟨funcs.toList⟩⟩,T,F⟩);refine⟨⟨⟨⟨a1,a2,a3,a4,⟨types.toList⟩,a6,a7,a8,a9,Mz,MA⟩,⟨funcs.toList⟩⟩,T,F⟩,⟨λt i h=>?_,λf fn h=>?_⟩,rfl,?_⟩
 ·rcases h1 t i h with ⟨_,b⟩ | b
  ·exact tt (by simpa using b)
  ·cases b
 ·rcases h2 f fn h with ⟨_,b⟩ | b
  ·simpa using b
  ·cases b
 ·show Cz types.toList (λL=>Cz funcs.toList (λM=>gK.J9 L 0 .leaf (λT=>gK.J9 M 0 .leaf (λF=>k ⟨⟨⟨a1,a2,a3,a4,⟨L⟩,a6,a7,a8,a9,Mz,MA⟩,⟨M⟩⟩,T,F⟩))))=_
  rw[Bh,Bh,e1];exact e2
theorem n8(k:IntKind)(n:Int):pU k n=k.wrap n:=by
 have pos:∀ (m:Nat),IntKind.i64.wrap (.ofNat m)=if Nat.ble m 9223372036854775807=true then Int.ofNat m else IntKind.i64.wrap (.ofNat m):=by
  intro m
  split
  ·rename_i h
   have h':m<=9223372036854775807:=Nat.le_of_ble_eq_true h;have:(m:Int)<=9223372036854775807:=by omega
   exact IntWalk.i64_in (Int.ofNat m) (by show(-9223372036854775808:Int)<=(m:Int)/\(m:Int)<=9223372036854775807;omega)
  ·rfl
 have neg:∀ (m:Nat),IntKind.i64.wrap (.negSucc m)=if Nat.ble m 9223372036854775807=true then Int.negSucc m else IntKind.i64.wrap (.negSucc m):=by
  intro m
  split
  ·rename_i h
   have h':m<=9223372036854775807:=Nat.le_of_ble_eq_true h;have e:Int.negSucc m = -((m:Int)+1):=by omega
   exact IntWalk.i64_in (Int.negSucc m) (by rw[e];omega)
  ·rfl
 have un:∀ (m b:Nat),((m:Int)%((2:Int) ^ b))=((m%2 ^ b:Nat):Int):=by
  intro m b;rw[Int.natCast_emod];simp
 have Pe:∀ (k:IntKind) (m:Nat),k.signed=false->k.wrap (.ofNat m)=.ofNat (m%2 ^ k.bits):=by
  intro k m hk;unfold IntKind.wrap;simp only[hk,Bool.false_and,Bool.false_eq_true,if_false];exact un m _
 cases n with
 | ofNat m =>
  cases k with
  | i64 =>
   show @Bool.rec (λ_=>Int) (IntKind.i64.wrap (.ofNat m)) (.ofNat m) (Nat.ble m 9223372036854775807)=_;rw[i6];exact(pos m).symm
  | u64=>exact(Pe .u64 m rfl).symm
  | u32=>exact(Pe .u32 m rfl).symm
  | u8=>exact(Pe .u8 m rfl).symm
  | i8=>rfl
  | i16=>rfl
  | i32=>rfl
  | u16=>rfl
 | negSucc m =>
  cases k with
  | i64 =>
   show @Bool.rec (λ_=>Int) (IntKind.i64.wrap (.negSucc m)) (.negSucc m) (Nat.ble m 9223372036854775807)=_;rw[i6];exact(neg m).symm
  | u64=>rfl
  | u32=>rfl
  | u8=>rfl
  | i8=>rfl
  | i16=>rfl
  | i32=>rfl
  | u16=>rfl
theorem qo(a b:Int):Cy a b=decide (a<=b):=by
 cases a<;>cases b<;>unfold Cy<;>rename_i a b
 ·rw[Bool.eq_iff_iff];simp
 ·symm;rw[decide_eq_false_iff_not];show ¬ ((a:Int)<=_);omega
 ·symm;rw[decide_eq_true_eq];show _<=(b:Int);omega
 ·rw[Bool.eq_iff_iff];simp;omega
theorem vt(a b:Int):Ek a b=(a==b):=by
 cases a<;>cases b<;>unfold Ek<;>rename_i a b<;>rw[Bool.eq_iff_iff]<;>simp<;>omega
theorem tN(a b:Int):(!decide (b<=a))=decide (a<b):=by
 rw[Bool.eq_iff_iff];simp
theorem vu{k k':IntKind}(h:Nat.beq (Ii k) (Ii k')=true):k=k':=by
 cases k<;>cases k'<;>first | rfl | (simp[Ii]at h)
end Go.Ev
namespace Go.Ev
open Go.RowKit
variable[bg]
theorem dC{c:Bool}{r:Option (Next×St)}{x:Next×St}(h:zd c r=some x):c=true/\r=some x:=by
 cases c with
 | false=>cases h
 | true=>exact⟨rfl,h⟩
theorem eN{r f:Option (Next×St)}{x:Next×St}(h:DM r f=some x):r=some x\/f=some x:=by
 cases r with
 | none=>exact .inr h
 | some y=>exact .inl h
theorem cH{α:Type}{c:Bool}{r:Option α}{x:α}(h:@Bool.rec (λ_=>Option α) none r c=some x):c=true/\r=some x:=by
 cases c with
 | false=>cases h
 | true=>exact⟨rfl,h⟩
theorem kE{B:Base}(hB:pV B){t:TypeId}{d:TypeDesc}(h:xC B t=some d):B.P.underlying t=some d:=by
 unfold xC at h
 split at h
 ·rename_i i hi
  have hi':=hB.T t i hi;unfold Program.underlying;rw[hi']
  split at h
  ·rename_i nm u hd
   split at h
   ·rename_i j hj
    cases h;have hj':=hB.T u j hj;obtain⟨_,_⟩:=i;simp only at hd;subst hd;simp only[hj',Option.map_some]
   ·cases h
  ·rename_i hd
   cases h
   split
   ·rename_i nm u heq
    cases heq;exact(hd _ _ rfl).elim
   ·rename_i heq
    cases heq;rfl
   ·rename_i heq;cases heq
 ·cases h
theorem b8{α β:Type}(P:Program)(m:Sem α)(f:α->Sem β)(s:St):aw P (m >>= f) s=(aw P m s).bind λ(a,s1)=>aw P (f a) s1:=l5 P m f s
theorem dJ{P:Program}{t:TypeId}{d:TypeDesc}(h:P.underlying t=some d)(s:St):aw P (Go.underlying t) s=some (d,s):=by
 unfold Go.underlying;show aw P (match P.underlying t with | some d=>(Pure.pure d:Sem TypeDesc) | none=>Go.stuck "no such type") s=_;rw[h];rfl
theorem mO{P:Program}{t:TypeId}{d:TypeInfo}(h:P.info? t=some d)(s:St):aw P (Go.typeInfo t) s=some (d,s):=by
 unfold Go.typeInfo;show aw P (match P.info? t with | some d=>(Pure.pure d:Sem TypeInfo) | none=>Go.stuck "no such type") s=_;rw[h];rfl
theorem lJ{P:Program}{t:TypeId}{d:TypeInfo}(h:P.info? t=some d)(s:St):aw P (Go.sizeOf t) s=some (d.size,s):=by
 unfold Go.sizeOf;rw[b8,mO h];rfl
theorem qZ{P:Program}{t:TypeId}{d:TypeInfo}{z:Value}(h:P.info? t=some d)(hz:d.zero=some z)(s:St):aw P (Go.zeroValue t) s=some (z,s):=by
 unfold Go.zeroValue;rw[b8,mO h];show aw P (match d.zero with | some v=>(Pure.pure v:Sem Value) | none=>_) s=_;rw[hz];rfl
theorem Bj(h:Tr)(nx:Nat)(lg:List Touch)(b:Nat):(⟨h,nx,lg⟩:St).look b=Tr.gt deep h b:=(Tr.Es _ _ _).symm
theorem zO{B:Base}(hB:pV B){t:TypeId}(h:vm B t=true)(s:St):aw B.P (Go.isAgg t) s=some (false,s):=by
 unfold vm at h
 split at h
 ·cases h
 ·cases h
 ·rename_i d h1 h2 hd
  unfold Go.isAgg;rw[b8,dJ (kE hB hd)];show aw B.P (match d with | .struct _ | .array _ _=>(Pure.pure true:Sem Bool) | _=>Pure.pure false) s=_;cases d with
  | struct f=>exact(h1 _ rfl).elim
  | array n e=>exact(h2 _ _ rfl).elim
  | _=>rfl
 ·cases h
theorem Ex{B:Base}(hB:pV B){ty:TypeId}{x:Value}{s:St}{r:Next×St}(h:En B ty x s=some r):sv (aw B.P (Instr.loadAt ty x) s)=some r:=by
 unfold En at h
 split at h
 ·rename_i b off hh nx lg
  obtain⟨h1,h2⟩:=cH h
  split at h2
  ·rename_i c e f hl
   split at h2
   ·rename_i v hv
    cases h2;have e1:aw B.P (Instr.loadAt ty (.pointer (some ⟨b,off,none⟩))) ⟨hh,nx,lg⟩=some (v,⟨hh,nx,⟨b,some off,false⟩::lg⟩):=by
     unfold Instr.loadAt;rw[b8];show aw B.P (loadVar ty ⟨b,off,none⟩) ⟨hh,nx,lg⟩=_;unfold loadVar;rw[b8,zO hB h1];show aw B.P (Go.load ⟨b,off,none⟩) ⟨hh,nx,lg⟩=_;unfold Go.load;simp only[aw];rw[Bj,hl];dsimp only;rw[Bi]at hv;rw[← Array.getElem?_toList,hv];rfl
    rw[e1];rfl
   ·cases h2
  ·cases h2
 ·cases h
theorem CA{B:Base}(hB:pV B){ty:TypeId}{x v:Value}{s:St}{r:Next×St}(h:zJ B ty x v s=some r):su (aw B.P (Instr.storeAt ty x v) s)=some r:=by
 unfold zJ at h
 split at h
 ·rename_i b off hh nx lg
  obtain⟨h1,h2⟩:=cH h;rw[Bool.and_eq_true]at h1;obtain⟨h1a,h1b⟩:=h1
  split at h2
  ·rename_i c e hl
   obtain⟨h3,h4⟩:=cH h2;rw[Eu,Tr.Et]at h4;cases h4;rw[Bool.and_eq_true]at h3;have hoff:off<c.size:=by have:=Nat.le_of_ble_eq_true h3.1;rw[Array.length_toList]at this;exact this
   have hb:b<lim:=Nat.le_of_ble_eq_true h3.2;have hcells:v.cells = #[v]:=by cases v<;>first | (cases h1a;done) | rfl
   unfold Nf at h1b
   split at h1b
   ·rename_i i hi
    have hsz:i.size=1:=Nat.eq_of_beq_eq_true h1b;have e1:aw B.P (Instr.storeAt ty (.pointer (some ⟨b,off,none⟩)) v) ⟨hh,nx,lg⟩=some ((),⟨Tr.set deep hh b (some (.cells ⟨c.toList.set off v⟩ e (0,0))),nx,⟨b,some off,true⟩::lg⟩):=by
     unfold Instr.storeAt;rw[b8];show aw B.P (storeVar ty ⟨b,off,none⟩ v) ⟨hh,nx,lg⟩=_;unfold storeVar;rw[b8,lJ (hB.T _ _ hi)];dsimp only[Option.bind];rw[hcells,hsz];simp only[ne_eq,List.size_toArray,List.length_cons,List.length_nil,Nat.zero_add,not_true_eq_false,if_false];show aw B.P (storeCells ⟨b,off,none⟩ [v] 0) ⟨hh,nx,lg⟩=_;have e2:aw B.P (Go.store ⟨b,off,none⟩ v) ⟨hh,nx,lg⟩=some ((),⟨Tr.set deep hh b (some (.cells ⟨c.toList.set off v⟩ e (0,0))),nx,⟨b,some off,true⟩::lg⟩):=by
      unfold Go.store;simp only[aw];rw[Bj,hl,h1a];simp only[hoff,hb,and_self,if_true,Option.some.injEq,Prod.mk.injEq];have ec:c.setIfInBounds off v=⟨c.toList.set off v⟩:=Array.ext' (by simp);rw[ec];exact⟨trivial,rfl⟩
     show aw B.P (Go.store (Addr.add ⟨b,off,none⟩ 0) v >>= λ_=>storeCells ⟨b,off,none⟩ [] 1) ⟨hh,nx,lg⟩=_;rw[b8,show Addr.add ⟨b,off,none⟩ 0=⟨b,off,none⟩ from rfl,e2];rfl
    rw[e1];rfl
   ·cases h1b
  ·cases h2
 ·cases h
theorem Bk{B:Base}{c:Array Value}{t:TypeId}{v:Value}{s:St}{r:Next×St}(hv:v.cells=c)(h:Ip c t s=some r):sv (aw B.P (do pure (.pointer (some (← newVar t v))):Sem Value) s)=some r:=by
  obtain⟨hh,nx,lg⟩:=s;unfold Ip at h;dsimp only at h;obtain⟨h1,h2⟩:=cH h;rw[Tr.Et]at h2;cases h2;have hlim:4*nx<lim:=Nat.le_of_ble_eq_true h1;rw[b8];unfold newVar newRow newObj;rw[b8,hv];simp only[aw,hlim,if_true];rfl
theorem CB{B:Base}(hB:pV B){t:TypeId}{s:St}{r:Next×St}(h:zH B t s=some r):sx B.P t=true/\sv (aw B.P (Instr.alloc t true (.tuple #[])) s)=some r:=by
 unfold zH at h
 split at h
 ·rename_i c hc
  unfold J_ at hc
  split at hc
  ·rename_i i hi
   split at hc
   ·rename_i z hz
    obtain⟨h1,h2⟩:=cH hc;cases h2;have hi':=hB.T _ _ hi;refine⟨by unfold sx;rw[hi'];dsimp only;rw[hz];exact h1,?_⟩;have:=Bk (B:=B) (v:=z) rfl h;unfold Instr.alloc;rw[b8,qZ hi' hz];exact this
   ·cases hc
  ·cases hc
 ·cases h
theorem Iv{B:Base}{t:TypeId}{v:Value}{s:St}{r:Next×St}(h:Ng t v s=some r):sv (aw B.P (Instr.box t v) s)=some r:=Bk rfl h
theorem CD{B:Base}(hB:pV B){ty:TypeId}{x:Value}{f:Nat}{s:St}{r:Next×St}(h:zK B ty x f s=some r):tE B.P ty f=true/\sv (aw B.P (Instr.fieldAt ty x f) s)=some r:=by
  unfold zK at h
  split at h
  · rename_i b off
    split at h
    · rename_i d hd
      cases h;unfold Nd at hd
      split at hd
      · rename_i fields hu
        split at hd
        · rename_i fd Qy
          split at hd
          · rename_i i hi
            have hi':=hB.T _ _ hi;have hz:i.size≠0/\d=fd.offset:=by
              rw[i6]at hd
              split at hd
              · cases hd
              · rename_i hn
                cases hd;exact⟨λe=>hn (by rw[e];rfl),rfl⟩
            obtain⟨hz,rfl⟩:=hz;have hu':=kE hB hu;constructor
            · unfold tE
              rw[hu'];dsimp only;rw[Qy];dsimp only;rw[hi'];simpa using hz
            · unfold Instr.fieldAt
              rw[b8,dJ hu'];dsimp only[Option.bind];rw[Qy];dsimp only;rw[b8];show sv (aw B.P (do let p ← fieldPlace ⟨b,off,none⟩ fd;pure (.pointer (some p)):Sem Value) s)=_;rw[b8];unfold fieldPlace;rw[b8,lJ hi'];dsimp only[Option.bind];rw[if_neg hz,Addr.fL];rfl
          · cases hd
        · cases hd
      · cases hd
    · cases h
  · cases h
theorem CF{B:Base}(hB:pV B){ty:TypeId}{x i:Value}{s:St}{r:Next×St}(h:zI B ty x i s=some r):sv (aw B.P (Instr.indexAt ty x i) s)=some r:=by
 unfold zI at h
 split at h
 ·rename_i b off n c k i
  split at h
  ·rename_i z hz
   obtain⟨h1,h2⟩:=cH h;cases h2;have hlt:i<n:=Nat.le_of_ble_eq_true h1;unfold J' at hz
   split at hz
   ·rename_i e hu
    split at hz
    ·rename_i ti hi
     cases hz;have hu':=kE hB hu;unfold Instr.indexAt;rw[b8];show sv (aw B.P _ s)=_;rw[b8,dJ hu'];dsimp only[Option.bind];rw[b8];show sv (aw B.P _ s)=_;rw[b8,dJ hu'];dsimp only[Option.bind];have hc:(0:Int)<=Int.ofNat i/\Int.ofNat i<(n:Int):=⟨Int.natCast_nonneg i,Int.ofNat_lt.2 hlt⟩;rw[if_pos hc,b8,lJ (hB.T _ _ hi)];dsimp only[Option.bind];rw[Addr.fL];rfl
    ·cases hz
   ·cases hz
  ·cases h
 ·cases h
theorem xI{P:Program}{x:Value}{i:Nat}{s:St}{r:Next×St}(h:qX x i s=some r):sv (aw P (Instr.extract x i) s)=some r:=by
 unfold qX at h
 split at h
 ·rename_i vs
  split at h
  ·rename_i v hv
   cases h;rw[Bi,Array.getElem?_toList]at hv;unfold Instr.extract;dsimp only;rw[hv];rfl
  ·cases h
 ·cases h
theorem Iw{op:BinOp}{k:IntKind}{a b:Int}{v:Value}(h:fint op k a b=some v)(t:TypeId):binOp op t (.int k a) (.int k b)=pure v/\bW 5 v=true:=by
 have e1:(if k≠k then (Go.stuck "BinOp: operands of different kinds" : Sem Value) else pure v)=pure v:=if_neg (λhh=>hh rfl);have bc:∀ (c:Bool) (x y:Value) (w:Value),@Bool.rec (λ_=>Option Value) (some x) (some y) c=some w->w=if c then y else x:=by
  intro c x y w hh;cases c<;>(cases hh;rfl)
 have b1:∀ c:Bool,(if c=true then Value.bool true else Value.bool false)=.bool c:=by intro c;cases c<;>rfl
 have b2:∀ c:Bool,(if c=true then Value.bool false else Value.bool true)=.bool (!c):=by intro c;cases c<;>rfl
 cases op with
 | add=>have h':xB (pU k (Int.add a b)) (λn=>some (Value.int k n))=some v:=h;rw[qn]at h';cases h';refine⟨?_,rfl⟩;rw[n8];simp[binOp,Op.intArith]
 | sub=>have h':xB (pU k (Int.sub a b)) (λn=>some (Value.int k n))=some v:=h;rw[qn]at h';cases h';refine⟨?_,rfl⟩;rw[n8];simp[binOp,Op.intArith];rfl
 | mul=>have h':xB (pU k (Int.mul a b)) (λn=>some (Value.int k n))=some v:=h;rw[qn]at h';cases h';refine⟨?_,rfl⟩;rw[n8];simp[binOp,Op.intArith]
 | eql=>have h':=bc _ _ _ _ h;subst h';rw[b1,vt];exact⟨by simp[binOp,Op.intCmp],rfl⟩
 | neq=>have h':=bc _ _ _ _ h;subst h';rw[b2,vt];exact⟨by simp[binOp,Op.intCmp];rfl,rfl⟩
 | lss=>have h':=bc _ _ _ _ h;subst h';rw[b2,qo,tN];exact⟨by simp[binOp,Op.intCmp],rfl⟩
 | leq=>have h':=bc _ _ _ _ h;subst h';rw[b1,qo];exact⟨by simp[binOp,Op.intCmp],rfl⟩
 | gtr=>have h':=bc _ _ _ _ h;subst h';rw[b2,qo,tN];exact⟨by simp[binOp,Op.intCmp],rfl⟩
 | geq=>have h':=bc _ _ _ _ h;subst h';rw[b1,qo];exact⟨by simp[binOp,Op.intCmp],rfl⟩
 | _=>cases h
theorem Ix{op:BinOp}{x y v:Value}(h:Ij op x y=some v)(t:TypeId)(ox oy:Operand):(do eqGuard op t ox oy x y;binOp op t x y:Sem Value)=pure v/\bW 5 v=true/\bW 5 x=true/\bW 5 y=true:=by
  unfold Ij at h
  split at h
  · rename_i k a k' b
    obtain⟨h1,h2⟩:=cH h;have:=vu h1;subst this;obtain⟨h3,h4⟩:=Iw h2 t;refine⟨?_,h4,rfl,rfl⟩;rw[h3];unfold eqGuard
    split<;>rfl
  · cases h
theorem CG{P:Program}{ρ:Operand->Value}{o:Oper}{op:BinOp}{t u:TypeId}{x y:Operand}{v:Value}{s:St}(ho:o.op=.binOp op t x y u)(hx:bH x=true)(hy:bH y=true)(h:Ij op (ρ x) (ρ y)=some v):fv P ρ o s=some (.value v,s):=by
  obtain⟨h1,h2,h3,h4⟩:=Ix h t x y;unfold fv;rw[ho];simp only[kp,Op.operands,List.all_cons,List.all_nil,hx,hy,h3,h4,Bool.and_true,if_true];have:execOp ρ o=(do pure (.value (← (do eqGuard op t x y (ρ x) (ρ y);binOp op t (ρ x) (ρ y):Sem Value))):Sem Next):=by
    unfold execOp;rw[ho]
  rw[this,h1];show(if bW 5 v=true then some (Next.value v,s) else none)=_;rw[if_pos h2]
theorem Bl{B:Base}(hB:pV B){t:TypeId}{k:IntKind}(h:Il B t=some k):B.P.underlying t=some (.int k):=by
 unfold Il at h
 split at h
 ·rename_i k' hu
  cases h;exact kE hB hu
 ·cases h
theorem gL{α β:Type}(P:Program)(m:Sem α)(f:α->Sem β):iT P (m >>= f)=(iT P m).bind λa=>iT P (f a):=by
 show iT P (m.bind f)=_
 induction m with
 | pure a=>rfl
 | choose q k ih =>
  simp only[Sem.bind,iT]
  split
  ·exact ih 0
  ·rfl
 | program k ih=>exact ih P
 | mark m k ih=>exact ih
 | _=>rfl
theorem g_{P:Program}{t:TypeId}{d:TypeDesc}(h:P.underlying t=some d):iT P (Go.underlying t)=some d:=by
 unfold Go.underlying;show iT P (match P.underlying t with | some d=>(Pure.pure d:Sem TypeDesc) | none=>Go.stuck "no such type")=_;rw[h];rfl
theorem Ey{B:Base}(hB:pV B){ρ:Operand->Value}{o:Oper}{t u:TypeId}{x:Operand}{s:St}{r:Next×St}(ho:o.op=.convert t u x)(hx:bH x=true)(h:El B t u (ρ x) s=some r):fv B.P ρ o s=some r:=by
  unfold El at h
  split at h
  · rename_i k0 n hv
    split at h
    · rename_i k1 k ht hk
      rw[qn]at h;cases h;unfold fv;rw[ho];simp only[kp,Op.operands,List.all_cons,List.all_nil,hx,hv,bW,Bool.and_true,if_true];have e:execOp ρ o=(do pure (.value (← convert t u (ρ x))):Sem Next):=by
        unfold execOp;rw[ho]
      have e2:iT B.P (convert t u (.int k0 n))=some (.int k (k.wrap n)):=by
        unfold convert;rw[gL,g_ (Bl hB ht)];dsimp only[Option.bind];rw[gL,g_ (Bl hB hk)];rfl
      rw[e,hv,gL,e2,n8];rfl
    · cases h
  · cases h
theorem Iy{P:Program}{ρ:Operand->Value}{o:Oper}{op:UnOp}{t:TypeId}{x:Operand}{s:St}{r:Next×St}(ho:o.op=.unOp op t x)(hx:bH x=true)(h:Ld op (ρ x) s=some r):fv P ρ o s=some r:=by
  unfold Ld at h
  split at h
  · rename_i b hv
    unfold fv;rw[ho];simp only[kp,Op.operands,List.all_cons,List.all_nil,hx,hv,bW,Bool.and_true,if_true];have e:execOp ρ o=(do pure (.value (← Op.unary .not (ρ x))):Sem Next):=by
      unfold execOp;rw[ho]
    rw[e,hv];cases b<;>(cases h;rfl)
  · cases h
theorem Bm{B:Base}(hB:pV B){t:TypeId}(h:Ik B t=true):∃ e,B.P.underlying t=some (.pointer e):=by
 unfold Ik at h
 split at h
 ·rename_i e hu
  exact⟨e,kE hB hu⟩
 ·cases h
theorem CH(a:Addr):bW 5 (.pointer (some a))=false:=rfl
def Lj(op:BinOp)(s:St):Option (Next×St) :=
 match op with
 | .eql=>some (.value (.bool false),s)
 | .neq=>some (.value (.bool true),s)
 | _=>none
theorem tO{P:Program}{ρ:Operand->Value}{o:Oper}{op:BinOp}{t u:TypeId}{x y:Operand}{s:St}(ho:o.op=.binOp op t x y u) :
  fA P ρ o s=(match fv P ρ o s with | some r=>some r | none=>if bM [x,y] then (if fP P t (ρ x) (ρ y) then Lj op s else D0 op (ρ x) (ρ y) s) else none):=by
 obtain⟨dst,Pf,ty,pos,after,guard⟩:=o;simp only at ho;subst ho;rfl
theorem Ez{P:Program}{ρ:Operand->Value}{o:Oper}{op:UnOp}{t:TypeId}{x:Operand}{s:St}(ho:o.op=.unOp op t x) :
  fA P ρ o s=(match fv P ρ o s with | some r=>some r | none=>if bH x then D1 op (ρ x) s else none):=by
 obtain⟨dst,Pf,ty,pos,after,guard⟩:=o;simp only at ho;subst ho;rfl
theorem zP{P:Program}{ρ:Operand->Value}{o:Oper}{t u:TypeId}{x:Operand}{s:St}(ho:o.op=.convert t u x) :
  fA P ρ o s=(match fv P ρ o s with | some r=>some r | none=>if bH x then zt P t u (ρ x) s else none):=by
 obtain⟨dst,Pf,ty,pos,after,guard⟩:=o;simp only at ho;subst ho;rfl
theorem zQ{P:Program}{ρ:Operand->Value}{o:Oper}{c:Call}{s:St}(ho:o.op=.call c) :
  fA P ρ o s=(match fv P ρ o s with | some r=>some r | none=>A_ P ρ c o.type s):=by
 obtain⟨dst,Pf,ty,pos,after,guard⟩:=o;simp only at ho;subst ho;rfl
theorem EA{B:Base}(hB:pV B){ρ:Operand->Value}{o:Oper}{op:BinOp}{t u:TypeId}{x y:Operand}{s:St}{r:Next×St}(ho:o.op=.binOp op t x y u)(hx:bH x=true)(hy:bH y=true)
    (h:Em B op t (ρ x) (ρ y) s=some r) :
    fA B.P ρ o s=some r:=by
  rw[tO ho];unfold Em at h
  split at h
  · rename_i a Ni Ox
    obtain⟨h1,h2⟩:=cH h;obtain⟨e,hu⟩:=Bm hB h1;have hf:fv B.P ρ o s=none:=by
      unfold fv;rw[ho];simp only[kp,Op.operands,List.all_cons,List.all_nil,Ni,CH,Bool.and_false,Bool.false_and,Bool.and_true,Bool.false_eq_true,if_false]
    rw[hf];dsimp only;have hn:fP B.P t (ρ x) (ρ y)=true:=by
      unfold fP;rw[hu,Ni,Ox]
    have ha:bM [x,y]=true:=by simp[bM,hx,hy]
    rw[ha,hn];simp only[if_true];exact h2
  · rename_i Ni Ox
    obtain⟨h1,h2⟩:=cH h;obtain⟨e,hu⟩:=Bm hB h1;have heq:iT B.P (Op.equal t (.pointer none) (.pointer none))=some true:=by
      have hk:∀ n,iT B.P (Op.equalIn (n+1) t (.pointer none) (.pointer none))=some true:=by
        intro n;unfold Op.equalIn;rw[gL,g_ hu];rfl
      exact hk 9999
    have hg:∀ op,eqGuard op t x y (.pointer none) (.pointer none)=pure ():=by
      intro op;unfold eqGuard
      split<;>rfl
    have hf:fv B.P ρ o s=some r:=by
      unfold fv;rw[ho];simp only[kp,Op.operands,List.all_cons,List.all_nil,hx,hy,Ni,Ox,bW,Bool.and_true,if_true];have ee:execOp ρ o=(do pure (.value (← (do eqGuard op t x y (ρ x) (ρ y);binOp op t (ρ x) (ρ y):Sem Value))):Sem Next):=by
        unfold execOp;rw[ho]
      rw[ee,Ni,Ox,gL,gL,hg];cases op with
      | eql =>
        cases h2;have eb:binOp .eql t (.pointer none) (.pointer none)=(do pure (.bool (← Op.equal t (.pointer none) (.pointer none))):Sem Value):=rfl;show(match (iT B.P (binOp .eql t (.pointer none) (.pointer none))).bind λa=>iT B.P (pure (Next.value a)) with | some (.value v)=>if bW 5 v=true then some (Next.value v,s) else none | _=>none)=_;rw[eb,gL,heq];rfl
      | neq =>
        cases h2;have eb:binOp .neq t (.pointer none) (.pointer none)=(do pure (.bool (!(← Op.equal t (.pointer none) (.pointer none)))):Sem Value):=rfl;show(match (iT B.P (binOp .neq t (.pointer none) (.pointer none))).bind λa=>iT B.P (pure (Next.value a)) with | some (.value v)=>if bW 5 v=true then some (Next.value v,s) else none | _=>none)=_;rw[eb,gL,heq];rfl
      | _=>cases h2
    rw[hf]
  · cases h
theorem Iz{B:Base}(hB:pV B){t ty:TypeId}{x:Value}{s:St}{r:Next×St}(h:Lc B t x s=some r):sv (aw B.P (Builtin.len_ #[t] ty #[x]) s)=some r:=by
 unfold Lc at h
 split at h
 ·rename_i a n c
  obtain⟨h1,h2⟩:=cH h;cases h2;unfold Io at h1
  split at h1
  ·rename_i e hu
   unfold Builtin.len_;simp only[List.getElem?_toArray,List.getElem?_cons_zero];rw[b8,dJ (kE hB hu)];rfl
  ·cases h1
  ·cases h1
 ·rename_i b
  obtain⟨h1,h2⟩:=cH h;cases h2;unfold Io at h1
  split at h1
  ·cases h1
  ·rename_i hu
   unfold Builtin.len_;simp only[List.getElem?_toArray,List.getElem?_cons_zero];rw[b8,dJ (kE hB hu)];rfl
  ·cases h1
 ·cases h
theorem EB{B:Base}(hB:pV B){f:FuncId}(h:Ow B f=true):uM B.P f=true:=by
 unfold Ow at h
 split at h
 ·rename_i fn hf
  unfold uM;rw[hB.F _ _ hf];exact h
 ·cases h
theorem xJ(t:TV):∀ xs:List Operand,tJ t xs=xs.map (du t):=by
 intro xs
 induction xs with
 | nil=>rfl
 | cons x xs ih =>
  show du t x::tJ t xs=_;rw[ih];rfl
theorem q_{P:Program}{ρ:Operand->Value}{o:Oper}{c:Call}{s:St}(ho:o.op=.call c)(hc:∀ b,c.callee=.builtin b->b≠.min/\b≠.max):fv P ρ o s=none:=by
 have:kp o.op=false:=by
  rw[ho];obtain⟨callee,args,ts⟩:=c;cases callee with
  | builtin b =>
   have:=hc b rfl;cases b<;>first | rfl | (exact absurd rfl this.1) | (exact absurd rfl this.2)
  | _=>rfl
 unfold fv;rw[this];simp
theorem zR{B:Base}(hB:pV B){t:TV}{o:Oper}{c:Call}{s:St}{r:Next×St}(ho:o.op=.call c)(h:vn B t o c s=some r):fA B.P (du t) o s=some r:=by
 have hr:=zQ (P:=B.P) (ρ:=du t) (s:=s) ho;unfold vn at h
 split at h
 ·rename_i f hf
  split at h
  ·rename_i g first captured hv
   obtain⟨h1,h2⟩:=dC h;rw[Bool.and_eq_true]at h1;cases h2;rw[hr,q_ ho (λb e=>by rw[hf]at e;cases e)];dsimp only;unfold A_;rw[h1.1,hf];simp only[if_true,hv,EB hB h1.2]
   congr 3
   apply Array.ext';simp[xJ]
  ·exact h
 ·rename_i b hb
  unfold xD at h
  split at h
  ·rename_i x ty ha ht
   obtain⟨h1,h2⟩:=dC h;rcases eN h2 with h3 | h3
   ·rw[hr,q_ ho (λb e=>by rw[hb]at e;cases e;exact⟨by simp,by simp⟩)]
    dsimp only;unfold A_;rw[h1,hb];simp only[if_true,ha,ht];exact Iz hB h3
   ·exact h3
  ·exact h
 ·exact h
theorem Pg{x y:Operand}(h:bM [x,y]=true):bH x=true/\bH y=true:=by simpa[bM] using h
theorem EC{B:Base}(hB:pV B){t:TV}{o:Oper}{s:St}{r:Next×St}(h:Ba B t o s=some r):fA B.P (du t) o s=some r:=by
 unfold Ba at h
 split at h
 ·rename_i x ho
  obtain⟨h1,h2⟩:=dC h;unfold fA;rw[ho];simp only[h1,if_true];exact h2
 ·rename_i x ho
  obtain⟨h1,h2⟩:=dC h;unfold fA;rw[ho];simp only[h1,if_true];exact h2
 ·rename_i c x y ho
  obtain⟨h1,h2⟩:=dC h;unfold fA;rw[ho];simp only[h1,if_true];unfold Ka at h2
  split at h2
  ·rename_i b hb
   cases h2;cases b<;>rfl
  ·cases h2
 ·rename_i op ty x y u ho
  obtain⟨h1,h2⟩:=dC h;obtain⟨hx,hy⟩:=Pg h1
  split at h2
  ·rename_i v hv
   cases h2;rw[tO ho,CG ho hx hy hv]
  ·rcases eN h2 with h3 | h3
   ·exact EA hB ho hx hy h3
   ·exact h3
 ·rename_i op ty x ho
  obtain⟨h1,h2⟩:=dC h;rcases eN h2 with h3 | h3
  ·rw[Ez ho,Iy ho h1 h3]
  ·exact h3
 ·rename_i a u x ho
  obtain⟨h1,h2⟩:=dC h;rcases eN h2 with h3 | h3
  ·rw[zP ho,Ey hB ho h1 h3]
  ·exact h3
 ·rename_i ty ho
  rcases eN h with h3 | h3
  ·obtain⟨h4,h5⟩:=CB hB h3
   unfold fA;rw[ho];simp only[h4,if_true];exact h5
  ·exact h3
 ·rename_i ty x ho
  obtain⟨h1,h2⟩:=dC h;rcases eN h2 with h3 | h3
  ·unfold fA
   rw[ho];simp only[h1,if_true];exact Iv h3
  ·exact h3
 ·rename_i ty x ho
  obtain⟨h1,h2⟩:=dC h;rcases eN h2 with h3 | h3
  ·unfold fA
   rw[ho];simp only[h1,if_true];exact Ex hB h3
  ·exact h3
 ·rename_i ty x y ho
  obtain⟨h1,h2⟩:=dC h;rcases eN h2 with h3 | h3
  ·unfold fA
   rw[ho];simp only[h1,if_true];exact CA hB h3
  ·exact h3
 ·rename_i ty x f ho
  obtain⟨h1,h2⟩:=dC h;rcases eN h2 with h3 | h3
  ·obtain⟨h4,h5⟩:=CD hB h3
   unfold fA;rw[ho];simp only[h1,h4,Bool.and_self,if_true];exact h5
  ·exact h3
 ·rename_i ty x i ho
  obtain⟨h1,h2⟩:=dC h;rcases eN h2 with h3 | h3
  ·unfold fA
   rw[ho];simp only[h1,if_true];exact CF hB h3
  ·exact h3
 ·rename_i x ho
  obtain⟨h1,h2⟩:=dC h;unfold fA;rw[ho];simp only[h1,if_true];exact h2
 ·rename_i x i ho
  obtain⟨h1,h2⟩:=dC h;rcases eN h2 with h3 | h3
  ·unfold fA
   rw[ho];simp only[h1,if_true];exact xI h3
  ·exact h3
 ·rename_i c ho
  exact zR hB ho h
 ·exact h
end Go.Ev
