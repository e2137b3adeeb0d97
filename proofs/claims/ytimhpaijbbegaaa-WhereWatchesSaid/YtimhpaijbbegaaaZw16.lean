/- Part of a proof: see the last text. -/
import Derived.Test.YtimhpaijbbegaaaZw15
namespace Go.Ev
open Go.RowKit
set_option linter.unusedVariables false
set_option linter.unusedSimpArgs false
set_option linter.unusedSectionVars false
variable [Sig]
theorem brec {α:Sort _} (b:Bool) (x y:α) : @Bool.rec (fun _=>α) x y b=if b=true then y else x:=by cases b <;> rfl
theorem nbeq (a b:Nat) : (Nat.beq a b=true)=(a=b):=by
 simp
theorem TV.get_node (v:Value) (l r:TV) (n:Nat) : (TV.node v l r).get n=if n=0 then v else if n % 2=1 then l.get (n / 2) else r.get (n / 2 - 1):=by
 show @Bool.rec (fun _=>Value) (@Bool.rec (fun _=>Value) (r.get (Nat.sub (Nat.div n 2) 1)) (l.get (Nat.div n 2)) (Nat.beq (Nat.mod n 2) 1)) v (Nat.beq n 0)=_
 rw [brec,brec]
 simp only [nbeq]
 rfl
theorem TV.get_leaf (n:Nat) : TV.leaf.get n=undef:=rfl
def TV.val:TV→Value
 | .leaf=>undef
 | .node v _ _=>v
def TV.lef:TV→TV
 | .leaf=>.leaf
 | .node _ l _=>l
def TV.rig:TV→TV
 | .leaf=>.leaf
 | .node _ _ r=>r
def TV.set:Nat→TV→Nat→Value→TV
 | 0,t,_,_=>t
 | d+1,t,n,x=>if n=0 then .node x t.lef t.rig else if n % 2=1 then .node t.val (t.lef.set d (n / 2) x) t.rig else .node t.val t.lef (t.rig.set d (n / 2 - 1) x)
theorem TV.setK_eq {β:Type} : ∀ (d:Nat) (t:TV) (n:Nat) (x:Value) (k:TV→β),TV.setK d t n x k=k (TV.set d t n x):=by
 intro d
 induction d with
 | zero=>intro t n x k; rfl
 | succ d ih =>
  intro t n x k
  cases t with
  | leaf =>
   show @Bool.rec (fun _=>β) (@Bool.rec (fun _=>β) (TV.setK d .leaf (Nat.sub (Nat.div n 2) 1) x (fun r=>k (.node undef .leaf r))) (TV.setK d .leaf (Nat.div n 2) x (fun l=>k (.node undef l .leaf))) (Nat.beq (Nat.mod n 2) 1)) (k (.node x .leaf .leaf)) (Nat.beq n 0)=_
   rw [brec,brec]
   simp only [nbeq,ih]
   by_cases h0:n=0
   ·rw [if_pos h0]; subst h0; rfl
   ·rw [if_neg h0]
    by_cases h1:n.mod 2=1
    ·have e:TV.set (d+1) .leaf n x=.node undef (TV.set d .leaf (n / 2) x) .leaf:=by
      show (if n=0 then _ else if n % 2=1 then _ else _)=_
      rw [if_neg h0,if_pos (show n % 2=1 from h1)]
      rfl
     rw [if_pos h1,e]; rfl
    ·have e:TV.set (d+1) .leaf n x=.node undef .leaf (TV.set d .leaf (n / 2 - 1) x):=by
      show (if n=0 then _ else if n % 2=1 then _ else _)=_
      rw [if_neg h0,if_neg (show ¬ n % 2=1 from h1)]
      rfl
     rw [if_neg h1,e]; rfl
  | node v l r =>
   show @Bool.rec (fun _=>β) (@Bool.rec (fun _=>β) (TV.setK d r (Nat.sub (Nat.div n 2) 1) x (fun r'=>k (.node v l r'))) (TV.setK d l (Nat.div n 2) x (fun l'=>k (.node v l' r))) (Nat.beq (Nat.mod n 2) 1)) (k (.node x l r)) (Nat.beq n 0)=_
   rw [brec,brec]
   simp only [nbeq,ih]
   by_cases h0:n=0
   ·rw [if_pos h0]; subst h0; rfl
   ·rw [if_neg h0]
    by_cases h1:n.mod 2=1
    ·have e:TV.set (d+1) (.node v l r) n x=.node v (TV.set d l (n / 2) x) r:=by
      show (if n=0 then _ else if n % 2=1 then _ else _)=_
      rw [if_neg h0,if_pos (show n % 2=1 from h1)]
      rfl
     rw [if_pos h1,e]; rfl
    ·have e:TV.set (d+1) (.node v l r) n x=.node v l (TV.set d r (n / 2 - 1) x):=by
      show (if n=0 then _ else if n % 2=1 then _ else _)=_
      rw [if_neg h0,if_neg (show ¬ n % 2=1 from h1)]
      rfl
     rw [if_neg h1,e]; rfl
theorem TV.get_eq (t:TV) (n:Nat) : t.get n=if n=0 then t.val else if n % 2=1 then t.lef.get (n / 2) else t.rig.get (n / 2 - 1):=by
 cases t with
 | leaf=>simp [TV.get_leaf,TV.val,TV.lef,TV.rig]
 | node v l r=>exact TV.get_node v l r n
theorem TV.get_set (d:Nat) : ∀ (t:TV) (n m:Nat) (x:Value),n+1 < 2 ^ d→(t.set d n x).get m=if m=n then x else t.get m:=by
 induction d with
 | zero=>intro t n m x h; simp at h
 | succ d ih =>
  intro t n m x h
  have hp:2 ^ (d+1)=2 * 2 ^ d:=by rw [Nat.pow_succ,Nat.mul_comm]
  unfold TV.set
  by_cases h0:n=0
  ·subst h0
   rw [if_pos rfl,TV.get_node,TV.get_eq t]
   by_cases hm:m=0
   ·simp [hm]
   ·simp [hm]
  ·rw [if_neg h0]
   by_cases h1:n % 2=1
   ·rw [if_pos h1,TV.get_node,TV.get_eq t]
    by_cases hm:m=0
    ·subst hm
     rw [if_pos rfl,if_pos rfl,if_neg (fun e=>h0 e.symm)]
    ·rw [if_neg hm,if_neg hm]
     by_cases hm1:m % 2=1
     ·rw [if_pos hm1,if_pos hm1,ih _ _ _ _ (by omega)]
      by_cases e:m=n
      ·rw [if_pos e,if_pos (by omega)]
      ·rw [if_neg e,if_neg (by omega)]
     ·rw [if_neg hm1,if_neg hm1,if_neg (by omega)]
   ·rw [if_neg h1,TV.get_node,TV.get_eq t]
    by_cases hm:m=0
    ·subst hm
     rw [if_pos rfl,if_pos rfl,if_neg (fun e=>h0 e.symm)]
    ·rw [if_neg hm,if_neg hm]
     by_cases hm1:m % 2=1
     ·rw [if_pos hm1,if_pos hm1,if_neg (by omega)]
     ·rw [if_neg hm1,if_neg hm1,ih _ _ _ _ (by omega)]
      by_cases e:m=n
      ·rw [if_pos e,if_pos (by omega)]
      ·rw [if_neg e,if_neg (by omega)]
theorem frcN_eq {β:Type} (n:Nat) (k:Nat→β) : frcN n k=k n:=by cases n <;> rfl
theorem frcI_eq {β:Type} (n:Int) (k:Int→β) : frcI n k=k n:=by
 cases n with
 | ofNat n=>exact frcN_eq n (fun n=>k (.ofNat n))
 | negSucc n=>exact frcN_eq n (fun n=>k (.negSucc n))
theorem frcA_eq {β:Type} (a:Option Addr) (k:Option Addr→β) : frcA a k=k a:=by
 cases a with
 | none=>rfl
 | some a =>
  obtain ⟨b,off,sp⟩:=a
  show frcN b (fun b=>frcN off (fun off=>k (some ⟨b,off,sp⟩)))=_
  rw [frcN_eq,frcN_eq]
theorem frcV_eq {β:Type} (v:Value) (k:Value→β) : frcV v k=k v:=by
 cases v with
 | pointer a=>exact frcA_eq a (fun a=>k (.pointer a))
 | slice a n c =>
  show frcA a (fun a=>frcN n (fun n=>frcN c (fun c=>k (.slice a n c))))=_
  rw [frcA_eq,frcN_eq,frcN_eq]
 | _=>rfl
theorem frcL_eq {α β:Type} : ∀ (l:List α) (k:List α→β),frcL l k=k l:=by
 intro l
 induction l with
 | nil=>intro k; rfl
 | cons v l ih =>
  intro k
  show frcL l (fun l=>k (v::l))=_
  rw [ih]
theorem Tr.gt_eq:∀ (d:Nat) (t:Tr) (n:Nat),Tr.gt d t n=Tr.get d t n:=by
 intro d
 induction d with
 | zero=>intro t n; rfl
 | succ d ih =>
  intro t n
  cases t with
  | leaf=>rfl
  | node v l r =>
   show @Bool.rec (fun _=>Option Obj) (@Bool.rec (fun _=>Option Obj) (Tr.gt d r (Nat.div n 2)) (Tr.gt d l (Nat.div n 2)) (Nat.beq (Nat.mod n 2) 0)) v (Nat.beq n 0)=_
   rw [brec,brec]
   simp only [nbeq,ih]
   rfl
theorem Tr.stK_eq {β:Type} : ∀ (d:Nat) (t:Tr) (n:Nat) (x:Option Obj) (k:Tr→β),Tr.stK d t n x k=k (Tr.set d t n x):=by
 intro d
 induction d with
 | zero=>intro t n x k; rfl
 | succ d ih =>
  intro t n x k
  cases t with
  | leaf =>
   show @Bool.rec (fun _=>β) (@Bool.rec (fun _=>β) (Tr.stK d .leaf (Nat.div n 2) x (fun r=>k (.node none .leaf r))) (Tr.stK d .leaf (Nat.div n 2) x (fun l=>k (.node none l .leaf))) (Nat.beq (Nat.mod n 2) 0)) (k (.node x .leaf .leaf)) (Nat.beq n 0)=_
   rw [brec,brec]
   simp only [nbeq,ih]
   by_cases h0:n=0
   ·rw [if_pos h0]; subst h0; rfl
   ·rw [if_neg h0]
    by_cases h1:n.mod 2=0
    ·have e:Tr.set (d+1) .leaf n x=.node none (Tr.set d .leaf (n / 2) x) .leaf:=by
      show (if n=0 then _ else if n % 2=0 then _ else _)=_
      rw [if_neg h0,if_pos (show n % 2=0 from h1)]
      rfl
     rw [if_pos h1,e]; rfl
    ·have e:Tr.set (d+1) .leaf n x=.node none .leaf (Tr.set d .leaf (n / 2) x):=by
      show (if n=0 then _ else if n % 2=0 then _ else _)=_
      rw [if_neg h0,if_neg (show ¬ n % 2=0 from h1)]
      rfl
     rw [if_neg h1,e]; rfl
  | node v l r =>
   show @Bool.rec (fun _=>β) (@Bool.rec (fun _=>β) (Tr.stK d r (Nat.div n 2) x (fun r'=>k (.node v l r'))) (Tr.stK d l (Nat.div n 2) x (fun l'=>k (.node v l' r))) (Nat.beq (Nat.mod n 2) 0)) (k (.node x l r)) (Nat.beq n 0)=_
   rw [brec,brec]
   simp only [nbeq,ih]
   by_cases h0:n=0
   ·rw [if_pos h0]; subst h0; rfl
   ·rw [if_neg h0]
    by_cases h1:n.mod 2=0
    ·have e:Tr.set (d+1) (.node v l r) n x=.node v (Tr.set d l (n / 2) x) r:=by
      show (if n=0 then _ else if n % 2=0 then _ else _)=_
      rw [if_neg h0,if_pos (show n % 2=0 from h1)]
      rfl
     rw [if_pos h1,e]; rfl
    ·have e:Tr.set (d+1) (.node v l r) n x=.node v l (Tr.set d r (n / 2) x):=by
      show (if n=0 then _ else if n % 2=0 then _ else _)=_
      rw [if_neg h0,if_neg (show ¬ n % 2=0 from h1)]
      rfl
     rw [if_neg h1,e]; rfl
theorem lget_eq:∀ (l:List Value) (n:Nat),lget l n=l[n]?:=by
 intro l
 induction l with
 | nil=>intro n; rfl
 | cons v l ih =>
  intro n
  cases n with
  | zero=>rfl
  | succ n=>exact ih n
theorem lsetK_eq {β:Type} (x:Value) : ∀ (l:List Value) (n:Nat) (k:List Value→β),lsetK l x n k=k (l.set n x):=by
 intro l
 induction l with
 | nil=>intro n k; rfl
 | cons v l ih =>
  intro n k
  cases n with
  | zero=>rfl
  | succ n =>
   show lsetK l x n (fun l'=>k (v::l'))=_
   rw [ih]
   rfl
theorem Tri.get_node {α:Type} (v:Option α) (l r:Tri α) (n:Nat) : (Tri.node v l r).get n=if n=0 then v else if n % 2=1 then l.get (n / 2) else r.get (n / 2 - 1):=by
 show @Bool.rec (fun _=>Option α) (@Bool.rec (fun _=>Option α) (r.get (Nat.sub (Nat.div n 2) 1)) (l.get (Nat.div n 2)) (Nat.beq (Nat.mod n 2) 1)) v (Nat.beq n 0)=_
 rw [brec,brec]
 simp only [nbeq]
 rfl
theorem Tri.setK_ok {α β:Type} : ∀ (d:Nat) (t:Tri α) (n:Nat) (x:α) (k:Tri α→β),∃ t',Tri.setK d t n x k=k t'∧∀ m y,t'.get m=some y→(m=n∧y=x)∨t.get m=some y:=by
 intro d
 induction d with
 | zero=>intro t n x k; exact ⟨t,rfl,fun m y h=>.inr h⟩
 | succ d ih =>
  intro t n x k
  have key:∀ (v:Option α) (l r:Tri α),(∀ m,t.get m=(Tri.node v l r).get m) →
    Tri.setK (d+1) t n x k = @Bool.rec (fun _=>β) (@Bool.rec (fun _=>β) (Tri.setK d r (Nat.sub (Nat.div n 2) 1) x (fun r'=>k (.node v l r'))) (Tri.setK d l (Nat.div n 2) x (fun l'=>k (.node v l' r))) (Nat.beq (Nat.mod n 2) 1)) (k (.node (some x) l r)) (Nat.beq n 0) →
    ∃ t',Tri.setK (d+1) t n x k=k t'∧∀ m y,t'.get m=some y→(m=n∧y=x)∨t.get m=some y:=by
   intro v l r hg he
   rw [he,brec,brec]
   simp only [nbeq]
   by_cases h0:n=0
   ·rw [if_pos h0]
    refine ⟨_,rfl,fun m y hy=>?_⟩
    rw [Tri.get_node] at hy
    by_cases hm:m=0
    ·rw [if_pos hm] at hy
     cases hy
     exact .inl ⟨by omega,rfl⟩
    ·rw [if_neg hm] at hy
     refine .inr ?_
     rw [hg,Tri.get_node,if_neg hm]
     exact hy
   ·rw [if_neg h0]
    by_cases h1:n.mod 2=1
    ·rw [if_pos h1]
     obtain ⟨t',e,ht⟩:=ih l (n / 2) x (fun l'=>k (.node v l' r))
     refine ⟨_,e,fun m y hy=>?_⟩
     rw [Tri.get_node] at hy
     rw [hg,Tri.get_node]
     have h1':n % 2=1:=h1
     by_cases hm:m=0
     ·rw [if_pos hm] at hy ⊢
      exact .inr hy
     ·rw [if_neg hm] at hy ⊢
      by_cases hm1:m % 2=1
      ·rw [if_pos hm1] at hy ⊢
       rcases ht _ _ hy with ⟨a,b⟩ | a
       ·exact .inl ⟨by omega,b⟩
       ·exact .inr a
      ·rw [if_neg hm1] at hy ⊢
       exact .inr hy
    ·rw [if_neg h1]
     obtain ⟨t',e,ht⟩:=ih r (n / 2 - 1) x (fun r'=>k (.node v l r'))
     refine ⟨_,e,fun m y hy=>?_⟩
     rw [Tri.get_node] at hy
     rw [hg,Tri.get_node]
     have h1':¬ n % 2=1:=h1
     by_cases hm:m=0
     ·rw [if_pos hm] at hy ⊢
      exact .inr hy
     ·rw [if_neg hm] at hy ⊢
      by_cases hm1:m % 2=1
      ·rw [if_pos hm1] at hy ⊢
       exact .inr hy
      ·rw [if_neg hm1] at hy ⊢
       rcases ht _ _ hy with ⟨a,b⟩ | a
       ·exact .inl ⟨by omega,b⟩
       ·exact .inr a
  cases t with
  | leaf =>
   refine key none .leaf .leaf (fun m=>?_) rfl
   rw [Tri.get_node]
   by_cases hm:m=0
   ·rw [if_pos hm]; rfl
   ·rw [if_neg hm]
    split <;> rfl
  | node v l r=>exact key v l r (fun m=>rfl) rfl
theorem Tri.ofK_ok {α β:Type} : ∀ (l:List α) (i:Nat) (t:Tri α) (k:Tri α→β),∃ t',Tri.ofK l i t k=k t'∧∀ m y,t'.get m=some y→(i≤m∧l[m - i]? = some y)∨t.get m=some y:=by
 intro l
 induction l with
 | nil=>intro i t k; exact ⟨t,rfl,fun m y h=>.inr h⟩
 | cons v l ih =>
  intro i t k
  obtain ⟨t1,e1,h1⟩:=Tri.setK_ok 16 t i v (fun t1=>Tri.ofK l (i+1) t1 k)
  obtain ⟨t2,e2,h2⟩:=ih (i+1) t1 k
  refine ⟨t2,?_,fun m y hy=>?_⟩
  ·show Tri.setK 16 t i v (fun t1=>Tri.ofK l (Nat.succ i) t1 k)=_
   rw [e1]
   exact e2
  ·rcases h2 m y hy with ⟨a,b⟩ | a
   ·refine .inl ⟨by omega,?_⟩
    rw [show m - i=(m - (i+1))+1 by omega]
    exact b
   ·rcases h1 m y a with ⟨b,c⟩ | b
    ·subst b c
     exact .inl ⟨Nat.le_refl _,by simp⟩
    ·exact .inr b
structure BOK (B:Base) : Prop where
 T:∀ t i,B.T.get t=some i→B.P.info? t=some i
 F:∀ f fn,B.F.get f=some fn→B.P.funcs[f]? = some fn
theorem info_of_types {P:Program} {t:TypeId} {i:TypeInfo} (h:P.types[t]? = some i) : P.info? t=some i:=by
 have hlt:t < P.types.size:=(Array.getElem?_eq_some_iff.1 h).1
 show (if t < P.types.size then P.types[t]? else Made.infoAt P.toTables Made.depth t)=_
 rw [if_pos hlt]
 exact h
theorem withB_ok {β:Type} (P:Program) (k:Base→β) : ∃ B,BOK B∧B.P=P∧withB P k=k B:=by
 obtain ⟨⟨a1,a2,a3,a4,types,a6,a7,a8,a9,a10,a11⟩,funcs⟩:=P
 obtain ⟨T,e1,h1⟩:=Tri.ofK_ok types.toList 0 .leaf (fun T=>Tri.ofK funcs.toList 0 .leaf (fun F=>k ⟨⟨⟨a1,a2,a3,a4,⟨types.toList⟩,a6,a7,a8,a9,a10,a11⟩,⟨funcs.toList⟩⟩,T,F⟩))
 obtain ⟨F,e2,h2⟩:=Tri.ofK_ok funcs.toList 0 .leaf (fun F=>k ⟨⟨⟨a1,a2,a3,a4,⟨types.toList⟩,a6,a7,a8,a9,a10,a11⟩,⟨funcs.toList⟩⟩,T,F⟩)
 refine ⟨⟨⟨⟨a1,a2,a3,a4,⟨types.toList⟩,a6,a7,a8,a9,a10,a11⟩,⟨funcs.toList⟩⟩,T,F⟩,⟨fun t i h=>?_,fun f fn h=>?_⟩,rfl,?_⟩
 ·rcases h1 t i h with ⟨_,b⟩ | b
  ·exact info_of_types (by simpa using b)
  ·cases b
 ·rcases h2 f fn h with ⟨_,b⟩ | b
  ·simpa using b
  ·cases b
 ·show frcL types.toList (fun L=>frcL funcs.toList (fun M=>Tri.ofK L 0 .leaf (fun T=>Tri.ofK M 0 .leaf (fun F=>k ⟨⟨⟨a1,a2,a3,a4,⟨L⟩,a6,a7,a8,a9,a10,a11⟩,⟨M⟩⟩,T,F⟩))))=_
  rw [frcL_eq,frcL_eq,e1]
  exact e2
theorem fwrap_eq (k:IntKind) (n:Int) : fwrap k n=k.wrap n:=by
 have pos:∀ (m:Nat),IntKind.i64.wrap (.ofNat m)=if Nat.ble m 9223372036854775807=true then Int.ofNat m else IntKind.i64.wrap (.ofNat m):=by
  intro m
  split
  ·rename_i h
   have h':m≤9223372036854775807:=Nat.le_of_ble_eq_true h
   have:(m:Int)≤9223372036854775807:=by omega
   exact IntWalk.i64_in (Int.ofNat m) (by show (-9223372036854775808:Int)≤(m:Int)∧(m:Int)≤9223372036854775807; omega)
  ·rfl
 have neg:∀ (m:Nat),IntKind.i64.wrap (.negSucc m)=if Nat.ble m 9223372036854775807=true then Int.negSucc m else IntKind.i64.wrap (.negSucc m):=by
  intro m
  split
  ·rename_i h
   have h':m≤9223372036854775807:=Nat.le_of_ble_eq_true h
   have e:Int.negSucc m = -((m:Int)+1):=by omega
   exact IntWalk.i64_in (Int.negSucc m) (by rw [e]; omega)
  ·rfl
 have un:∀ (m b:Nat),((m:Int) % ((2:Int) ^ b))=((m % 2 ^ b:Nat) : Int):=by
  intro m b
  rw [Int.natCast_emod]
  simp
 have uns:∀ (k:IntKind) (m:Nat),k.signed=false→k.wrap (.ofNat m)=.ofNat (m % 2 ^ k.bits):=by
  intro k m hk
  unfold IntKind.wrap
  simp only [hk,Bool.false_and,Bool.false_eq_true,if_false]
  exact un m _
 cases n with
 | ofNat m =>
  cases k with
  | i64 =>
   show @Bool.rec (fun _=>Int) (IntKind.i64.wrap (.ofNat m)) (.ofNat m) (Nat.ble m 9223372036854775807)=_
   rw [brec]
   exact (pos m).symm
  | u64=>exact (uns .u64 m rfl).symm
  | u32=>exact (uns .u32 m rfl).symm
  | u8=>exact (uns .u8 m rfl).symm
  | i8=>rfl
  | i16=>rfl
  | i32=>rfl
  | u16=>rfl
 | negSucc m =>
  cases k with
  | i64 =>
   show @Bool.rec (fun _=>Int) (IntKind.i64.wrap (.negSucc m)) (.negSucc m) (Nat.ble m 9223372036854775807)=_
   rw [brec]
   exact (neg m).symm
  | u64=>rfl
  | u32=>rfl
  | u8=>rfl
  | i8=>rfl
  | i16=>rfl
  | i32=>rfl
  | u16=>rfl
theorem ible_eq (a b:Int) : ible a b=decide (a≤b):=by
 cases a <;> cases b <;> unfold ible <;> rename_i a b
 ·rw [Bool.eq_iff_iff]; simp
 ·symm; rw [decide_eq_false_iff_not]; show ¬ ((a:Int)≤_); omega
 ·symm; rw [decide_eq_true_eq]; show _≤(b:Int); omega
 ·rw [Bool.eq_iff_iff]; simp; omega
theorem ibeq_eq (a b:Int) : ibeq a b=(a == b):=by
 cases a <;> cases b <;> unfold ibeq <;> rename_i a b <;> rw [Bool.eq_iff_iff] <;> simp <;> omega
theorem not_le_lt (a b:Int) : (!decide (b≤a))=decide (a < b):=by
 rw [Bool.eq_iff_iff]; simp
theorem ikn_eq {k k':IntKind} (h:Nat.beq (ikn k) (ikn k')=true) : k=k':=by
 cases k <;> cases k' <;> first | rfl | (simp [ikn] at h)
end Go.Ev
namespace Go.Ev
open Go.RowKit
set_option linter.unusedVariables false
set_option linter.unusedSimpArgs false
set_option linter.unusedSectionVars false
variable [Sig]
theorem ifF_some {c:Bool} {r:Option (Next×St)} {x:Next×St} (h:ifF c r=some x) : c=true∧r=some x:=by
 cases c with
 | false=>cases h
 | true=>exact ⟨rfl,h⟩
theorem orF_some {r f:Option (Next×St)} {x:Next×St} (h:orF r f=some x) : r=some x∨f=some x:=by
 cases r with
 | none=>exact .inr h
 | some y=>exact .inl h
theorem brec_some {α:Type} {c:Bool} {r:Option α} {x:α} (h:@Bool.rec (fun _=>Option α) none r c=some x) : c=true∧r=some x:=by
 cases c with
 | false=>cases h
 | true=>exact ⟨rfl,h⟩
theorem tund_ok {B:Base} (hB:BOK B) {t:TypeId} {d:TypeDesc} (h:tund B t=some d) : B.P.underlying t=some d:=by
 unfold tund at h
 split at h
 ·rename_i i hi
  have hi':=hB.T t i hi
  unfold Program.underlying
  rw [hi']
  split at h
  ·rename_i nm u hd
   split at h
   ·rename_i j hj
    cases h
    have hj':=hB.T u j hj
    obtain ⟨_,_⟩:=i
    simp only at hd
    subst hd
    simp only [hj',Option.map_some]
   ·cases h
  ·rename_i hd
   cases h
   split
   ·rename_i nm u heq
    cases heq
    exact (hd _ _ rfl).elim
   ·rename_i heq
    cases heq
    rfl
   ·rename_i heq; cases heq
 ·cases h
theorem arun_bnd {α β:Type} (P:Program) (m:Sem α) (f:α→Sem β) (s:St) : arun P (m >>= f) s=(arun P m s).bind fun (a,s1)=>arun P (f a) s1:=arun_bind P m f s
theorem arun_underlying {P:Program} {t:TypeId} {d:TypeDesc} (h:P.underlying t=some d) (s:St) : arun P (Go.underlying t) s=some (d,s):=by
 unfold Go.underlying
 show arun P (match P.underlying t with | some d=>(Pure.pure d:Sem TypeDesc) | none=>Go.stuck "no such type") s=_
 rw [h]
 rfl
theorem arun_typeInfo {P:Program} {t:TypeId} {d:TypeInfo} (h:P.info? t=some d) (s:St) : arun P (Go.typeInfo t) s=some (d,s):=by
 unfold Go.typeInfo
 show arun P (match P.info? t with | some d=>(Pure.pure d:Sem TypeInfo) | none=>Go.stuck "no such type") s=_
 rw [h]
 rfl
theorem arun_sizeOf {P:Program} {t:TypeId} {d:TypeInfo} (h:P.info? t=some d) (s:St) : arun P (Go.sizeOf t) s=some (d.size,s):=by
 unfold Go.sizeOf
 rw [arun_bnd,arun_typeInfo h]
 rfl
theorem arun_zeroValue {P:Program} {t:TypeId} {d:TypeInfo} {z:Value} (h:P.info? t=some d) (hz:d.zero=some z) (s:St) : arun P (Go.zeroValue t) s=some (z,s):=by
 unfold Go.zeroValue
 rw [arun_bnd,arun_typeInfo h]
 show arun P (match d.zero with | some v=>(Pure.pure v:Sem Value) | none=>_) s=_
 rw [hz]
 rfl
theorem look_gt (h:Tr) (nx:Nat) (lg:List Touch) (b:Nat) : (⟨h,nx,lg⟩ : St).look b=Tr.gt deep h b:=(Tr.gt_eq _ _ _).symm
theorem scalarT_ok {B:Base} (hB:BOK B) {t:TypeId} (h:scalarT B t=true) (s:St) : arun B.P (Go.isAgg t) s=some (false,s):=by
 unfold scalarT at h
 split at h
 ·cases h
 ·cases h
 ·rename_i d h1 h2 hd
  unfold Go.isAgg
  rw [arun_bnd,arun_underlying (tund_ok hB hd)]
  show arun B.P (match d with | .struct _ | .array _ _=>(Pure.pure true:Sem Bool) | _=>Pure.pure false) s=_
  cases d with
  | struct f=>exact (h1 _ rfl).elim
  | array n e=>exact (h2 _ _ rfl).elim
  | _=>rfl
 ·cases h
theorem fload_ok {B:Base} (hB:BOK B) {ty:TypeId} {x:Value} {s:St} {r:Next×St} (h:fload B ty x s=some r) : sv (arun B.P (Instr.loadAt ty x) s)=some r:=by
 unfold fload at h
 split at h
 ·rename_i b off hh nx lg
  obtain ⟨h1,h2⟩:=brec_some h
  split at h2
  ·rename_i c e f hl
   split at h2
   ·rename_i v hv
    cases h2
    have e1:arun B.P (Instr.loadAt ty (.pointer (some ⟨b,off,none⟩))) ⟨hh,nx,lg⟩=some (v,⟨hh,nx,⟨b,some off,false⟩::lg⟩):=by
     unfold Instr.loadAt
     rw [arun_bnd]
     show arun B.P (loadVar ty ⟨b,off,none⟩) ⟨hh,nx,lg⟩=_
     unfold loadVar
     rw [arun_bnd,scalarT_ok hB h1]
     show arun B.P (Go.load ⟨b,off,none⟩) ⟨hh,nx,lg⟩=_
     unfold Go.load
     simp only [arun]
     rw [look_gt,hl]
     dsimp only
     rw [lget_eq] at hv
     rw [← Array.getElem?_toList,hv]
     rfl
    rw [e1]
    rfl
   ·cases h2
  ·cases h2
 ·cases h
theorem fstore_ok {B:Base} (hB:BOK B) {ty:TypeId} {x v:Value} {s:St} {r:Next×St} (h:fstore B ty x v s=some r) : su (arun B.P (Instr.storeAt ty x v) s)=some r:=by
 unfold fstore at h
 split at h
 ·rename_i b off hh nx lg
  obtain ⟨h1,h2⟩:=brec_some h
  rw [Bool.and_eq_true] at h1
  obtain ⟨h1a,h1b⟩:=h1
  split at h2
  ·rename_i c e hl
   obtain ⟨h3,h4⟩:=brec_some h2
   rw [lsetK_eq,Tr.stK_eq] at h4
   cases h4
   rw [Bool.and_eq_true] at h3
   have hoff:off < c.size:=by have:=Nat.le_of_ble_eq_true h3.1; rw [Array.length_toList] at this; exact this
   have hb:b < lim:=Nat.le_of_ble_eq_true h3.2
   have hcells:v.cells = #[v]:=by cases v <;> first | (cases h1a; done) | rfl
   unfold oneT at h1b
   split at h1b
   ·rename_i i hi
    have hsz:i.size=1:=Nat.eq_of_beq_eq_true h1b
    have e1:arun B.P (Instr.storeAt ty (.pointer (some ⟨b,off,none⟩)) v) ⟨hh,nx,lg⟩=some ((),⟨Tr.set deep hh b (some (.cells ⟨c.toList.set off v⟩ e (0,0))),nx,⟨b,some off,true⟩::lg⟩):=by
     unfold Instr.storeAt
     rw [arun_bnd]
     show arun B.P (storeVar ty ⟨b,off,none⟩ v) ⟨hh,nx,lg⟩=_
     unfold storeVar
     rw [arun_bnd,arun_sizeOf (hB.T _ _ hi)]
     dsimp only [Option.bind]
     rw [hcells,hsz]
     simp only [ne_eq,List.size_toArray,List.length_cons,List.length_nil,Nat.zero_add,not_true_eq_false,if_false]
     show arun B.P (storeCells ⟨b,off,none⟩ [v] 0) ⟨hh,nx,lg⟩=_
     have e2:arun B.P (Go.store ⟨b,off,none⟩ v) ⟨hh,nx,lg⟩=some ((),⟨Tr.set deep hh b (some (.cells ⟨c.toList.set off v⟩ e (0,0))),nx,⟨b,some off,true⟩::lg⟩):=by
      unfold Go.store
      simp only [arun]
      rw [look_gt,hl,h1a]
      simp only [hoff,hb,and_self,if_true,Option.some.injEq,Prod.mk.injEq]
      have ec:c.setIfInBounds off v=⟨c.toList.set off v⟩:=Array.ext' (by simp)
      rw [ec]
      exact ⟨trivial,rfl⟩
     show arun B.P (Go.store (Addr.add ⟨b,off,none⟩ 0) v >>= fun _=>storeCells ⟨b,off,none⟩ [] 1) ⟨hh,nx,lg⟩=_
     rw [arun_bnd,show Addr.add ⟨b,off,none⟩ 0=⟨b,off,none⟩ from rfl,e2]
     rfl
    rw [e1]
    rfl
   ·cases h1b
  ·cases h2
 ·cases h
theorem fnew_ok {B:Base} {c:Array Value} {t:TypeId} {v:Value} {s:St} {r:Next×St} (hv:v.cells=c) (h:fnew c t s=some r) : sv (arun B.P (do pure (.pointer (some (← newVar t v))) : Sem Value) s)=some r:=by
  obtain ⟨hh,nx,lg⟩:=s
  unfold fnew at h
  dsimp only at h
  obtain ⟨h1,h2⟩:=brec_some h
  rw [Tr.stK_eq] at h2
  cases h2
  have hlim:4 * nx < lim:=Nat.le_of_ble_eq_true h1
  rw [arun_bnd]
  unfold newVar newRow newObj
  rw [arun_bnd,hv]
  simp only [arun,hlim,if_true]
  rfl
theorem falloc_ok {B:Base} (hB:BOK B) {t:TypeId} {s:St} {r:Next×St} (h:falloc B t s=some r) : zOk B.P t=true∧sv (arun B.P (Instr.alloc t true (.tuple #[])) s)=some r:=by
 unfold falloc at h
 split at h
 ·rename_i c hc
  unfold zeroT at hc
  split at hc
  ·rename_i i hi
   split at hc
   ·rename_i z hz
    obtain ⟨h1,h2⟩:=brec_some hc
    cases h2
    have hi':=hB.T _ _ hi
    refine ⟨by unfold zOk; rw [hi']; dsimp only; rw [hz]; exact h1,?_⟩
    have:=fnew_ok (B:=B) (v:=z) rfl h
    unfold Instr.alloc
    rw [arun_bnd,arun_zeroValue hi' hz]
    exact this
   ·cases hc
  ·cases hc
 ·cases h
theorem fbox_ok {B:Base} {t:TypeId} {v:Value} {s:St} {r:Next×St} (h:fbox t v s=some r) : sv (arun B.P (Instr.box t v) s)=some r:=fnew_ok rfl h
theorem ffield_ok {B:Base} (hB:BOK B) {ty:TypeId} {x:Value} {f:Nat} {s:St} {r:Next×St} (h:ffield B ty x f s=some r) : fldOk B.P ty f=true∧sv (arun B.P (Instr.fieldAt ty x f) s)=some r:=by
  unfold ffield at h
  split at h
  · rename_i b off
    split at h
    · rename_i d hd
      cases h
      unfold foff at hd
      split at hd
      · rename_i fields hu
        split at hd
        · rename_i fd hfd
          split at hd
          · rename_i i hi
            have hi':=hB.T _ _ hi
            have hz:i.size ≠ 0∧d=fd.offset:=by
              rw [brec] at hd
              split at hd
              · cases hd
              · rename_i hn
                cases hd
                exact ⟨fun e=>hn (by rw [e]; rfl),rfl⟩
            obtain ⟨hz,rfl⟩:=hz
            have hu':=tund_ok hB hu
            constructor
            · unfold fldOk
              rw [hu']
              dsimp only
              rw [hfd]
              dsimp only
              rw [hi']
              simpa using hz
            · unfold Instr.fieldAt
              rw [arun_bnd,arun_underlying hu']
              dsimp only [Option.bind]
              rw [hfd]
              dsimp only
              rw [arun_bnd]
              show sv (arun B.P (do let p ← fieldPlace ⟨b,off,none⟩ fd; pure (.pointer (some p)) : Sem Value) s)=_
              rw [arun_bnd]
              unfold fieldPlace
              rw [arun_bnd,arun_sizeOf hi']
              dsimp only [Option.bind]
              rw [if_neg hz,Addr.add_mk]
              rfl
          · cases hd
        · cases hd
      · cases hd
    · cases h
  · cases h
theorem findex_ok {B:Base} (hB:BOK B) {ty:TypeId} {x i:Value} {s:St} {r:Next×St} (h:findex B ty x i s=some r) : sv (arun B.P (Instr.indexAt ty x i) s)=some r:=by
 unfold findex at h
 split at h
 ·rename_i b off n c k i
  split at h
  ·rename_i z hz
   obtain ⟨h1,h2⟩:=brec_some h
   cases h2
   have hlt:i < n:=Nat.le_of_ble_eq_true h1
   unfold elemZ at hz
   split at hz
   ·rename_i e hu
    split at hz
    ·rename_i ti hi
     cases hz
     have hu':=tund_ok hB hu
     unfold Instr.indexAt
     rw [arun_bnd]
     show sv (arun B.P _ s)=_
     rw [arun_bnd,arun_underlying hu']
     dsimp only [Option.bind]
     rw [arun_bnd]
     show sv (arun B.P _ s)=_
     rw [arun_bnd,arun_underlying hu']
     dsimp only [Option.bind]
     have hc:(0:Int)≤Int.ofNat i∧Int.ofNat i < (n:Int):=⟨Int.natCast_nonneg i,Int.ofNat_lt.2 hlt⟩
     rw [if_pos hc,arun_bnd,arun_sizeOf (hB.T _ _ hi)]
     dsimp only [Option.bind]
     rw [Addr.add_mk]
     rfl
    ·cases hz
   ·cases hz
  ·cases h
 ·cases h
theorem fextract_ok {P:Program} {x:Value} {i:Nat} {s:St} {r:Next×St} (h:fextract x i s=some r) : sv (arun P (Instr.extract x i) s)=some r:=by
 unfold fextract at h
 split at h
 ·rename_i vs
  split at h
  ·rename_i v hv
   cases h
   rw [lget_eq,Array.getElem?_toList] at hv
   unfold Instr.extract
   dsimp only
   rw [hv]
   rfl
  ·cases h
 ·cases h
theorem fint_ok {op:BinOp} {k:IntKind} {a b:Int} {v:Value} (h:fint op k a b=some v) (t:TypeId) : binOp op t (.int k a) (.int k b)=pure v∧flatN 5 v=true:=by
 have e1:(if k ≠ k then (Go.stuck "BinOp: operands of different kinds" : Sem Value) else pure v)=pure v:=if_neg (fun hh=>hh rfl)
 have bc:∀ (c:Bool) (x y:Value) (w:Value),@Bool.rec (fun _=>Option Value) (some x) (some y) c=some w→w=if c then y else x:=by
  intro c x y w hh
  cases c <;> (cases hh; rfl)
 have b1:∀ c:Bool,(if c=true then Value.bool true else Value.bool false)=.bool c:=by intro c; cases c <;> rfl
 have b2:∀ c:Bool,(if c=true then Value.bool false else Value.bool true)=.bool (!c):=by intro c; cases c <;> rfl
 cases op with
 | add=>have h':frcI (fwrap k (Int.add a b)) (fun n=>some (Value.int k n))=some v:=h; rw [frcI_eq] at h'; cases h'; refine ⟨?_,rfl⟩; rw [fwrap_eq]; simp [binOp,Op.intArith]
 | sub=>have h':frcI (fwrap k (Int.sub a b)) (fun n=>some (Value.int k n))=some v:=h; rw [frcI_eq] at h'; cases h'; refine ⟨?_,rfl⟩; rw [fwrap_eq]; simp [binOp,Op.intArith]; rfl
 | mul=>have h':frcI (fwrap k (Int.mul a b)) (fun n=>some (Value.int k n))=some v:=h; rw [frcI_eq] at h'; cases h'; refine ⟨?_,rfl⟩; rw [fwrap_eq]; simp [binOp,Op.intArith]
 | eql=>have h':=bc _ _ _ _ h; subst h'; rw [b1,ibeq_eq]; exact ⟨by simp [binOp,Op.intCmp],rfl⟩
 | neq=>have h':=bc _ _ _ _ h; subst h'; rw [b2,ibeq_eq]; exact ⟨by simp [binOp,Op.intCmp]; rfl,rfl⟩
 | lss=>have h':=bc _ _ _ _ h; subst h'; rw [b2,ible_eq,not_le_lt]; exact ⟨by simp [binOp,Op.intCmp],rfl⟩
 | leq=>have h':=bc _ _ _ _ h; subst h'; rw [b1,ible_eq]; exact ⟨by simp [binOp,Op.intCmp],rfl⟩
 | gtr=>have h':=bc _ _ _ _ h; subst h'; rw [b2,ible_eq,not_le_lt]; exact ⟨by simp [binOp,Op.intCmp],rfl⟩
 | geq=>have h':=bc _ _ _ _ h; subst h'; rw [b1,ible_eq]; exact ⟨by simp [binOp,Op.intCmp],rfl⟩
 | _=>cases h
theorem fbin_ok {op:BinOp} {x y v:Value} (h:fbin op x y=some v) (t:TypeId) (ox oy:Operand) : (do eqGuard op t ox oy x y; binOp op t x y:Sem Value)=pure v∧flatN 5 v=true∧flatN 5 x=true∧flatN 5 y=true:=by
  unfold fbin at h
  split at h
  · rename_i k a k' b
    obtain ⟨h1,h2⟩:=brec_some h
    have:=ikn_eq h1
    subst this
    obtain ⟨h3,h4⟩:=fint_ok h2 t
    refine ⟨?_,h4,rfl,rfl⟩
    rw [h3]
    unfold eqGuard
    split <;> rfl
  · cases h
theorem rFlat_bin {P:Program} {ρ:Operand→Value} {o:Oper} {op:BinOp} {t u:TypeId} {x y:Operand} {v:Value} {s:St} (ho:o.op=.binOp op t x y u) (hx:opdOk x=true) (hy:opdOk y=true) (h:fbin op (ρ x) (ρ y)=some v) : rFlat P ρ o s=some (.value v,s):=by
  obtain ⟨h1,h2,h3,h4⟩:=fbin_ok h t x y
  unfold rFlat
  rw [ho]
  simp only [flatOp,Op.operands,List.all_cons,List.all_nil,hx,hy,h3,h4,Bool.and_true,if_true]
  have:execOp ρ o=(do pure (.value (← (do eqGuard op t x y (ρ x) (ρ y); binOp op t (ρ x) (ρ y) : Sem Value))) : Sem Next):=by
    unfold execOp
    rw [ho]
  rw [this,h1]
  show (if flatN 5 v=true then some (Next.value v,s) else none)=_
  rw [if_pos h2]
theorem intT_ok {B:Base} (hB:BOK B) {t:TypeId} {k:IntKind} (h:intT B t=some k) : B.P.underlying t=some (.int k):=by
 unfold intT at h
 split at h
 ·rename_i k' hu
  cases h
  exact tund_ok hB hu
 ·cases h
theorem qrun_bnd {α β:Type} (P:Program) (m:Sem α) (f:α→Sem β) : qrun P (m >>= f)=(qrun P m).bind fun a=>qrun P (f a):=by
 show qrun P (m.bind f)=_
 induction m with
 | pure a=>rfl
 | choose q k ih =>
  simp only [Sem.bind,qrun]
  split
  ·exact ih 0
  ·rfl
 | program k ih=>exact ih P
 | mark m k ih=>exact ih
 | _=>rfl
theorem qrun_underlying {P:Program} {t:TypeId} {d:TypeDesc} (h:P.underlying t=some d) : qrun P (Go.underlying t)=some d:=by
 unfold Go.underlying
 show qrun P (match P.underlying t with | some d=>(Pure.pure d:Sem TypeDesc) | none=>Go.stuck "no such type")=_
 rw [h]
 rfl
theorem fconv_ok {B:Base} (hB:BOK B) {ρ:Operand→Value} {o:Oper} {t u:TypeId} {x:Operand} {s:St} {r:Next×St} (ho:o.op=.convert t u x) (hx:opdOk x=true) (h:fconv B t u (ρ x) s=some r) : rFlat B.P ρ o s=some r:=by
  unfold fconv at h
  split at h
  · rename_i k0 n hv
    split at h
    · rename_i k1 k ht hk
      rw [frcI_eq] at h
      cases h
      unfold rFlat
      rw [ho]
      simp only [flatOp,Op.operands,List.all_cons,List.all_nil,hx,hv,flatN,Bool.and_true,if_true]
      have e:execOp ρ o=(do pure (.value (← convert t u (ρ x))) : Sem Next):=by
        unfold execOp
        rw [ho]
      have e2:qrun B.P (convert t u (.int k0 n))=some (.int k (k.wrap n)):=by
        unfold convert
        rw [qrun_bnd,qrun_underlying (intT_ok hB ht)]
        dsimp only [Option.bind]
        rw [qrun_bnd,qrun_underlying (intT_ok hB hk)]
        rfl
      rw [e,hv,qrun_bnd,e2,fwrap_eq]
      rfl
    · cases h
  · cases h
theorem fnot_ok {P:Program} {ρ:Operand→Value} {o:Oper} {op:UnOp} {t:TypeId} {x:Operand} {s:St} {r:Next×St} (ho:o.op=.unOp op t x) (hx:opdOk x=true) (h:fnot op (ρ x) s=some r) : rFlat P ρ o s=some r:=by
  unfold fnot at h
  split at h
  · rename_i b hv
    unfold rFlat
    rw [ho]
    simp only [flatOp,Op.operands,List.all_cons,List.all_nil,hx,hv,flatN,Bool.and_true,if_true]
    have e:execOp ρ o=(do pure (.value (← Op.unary .not (ρ x))) : Sem Next):=by
      unfold execOp
      rw [ho]
    rw [e,hv]
    cases b <;> (cases h; rfl)
  · cases h
theorem ptrT_ok {B:Base} (hB:BOK B) {t:TypeId} (h:ptrT B t=true) : ∃ e,B.P.underlying t=some (.pointer e):=by
 unfold ptrT at h
 split at h
 ·rename_i e hu
  exact ⟨e,tund_ok hB hu⟩
 ·cases h
theorem flat_some (a:Addr) : flatN 5 (.pointer (some a))=false:=rfl
def binAns (op:BinOp) (s:St) : Option (Next×St) :=
 match op with
 | .eql=>some (.value (.bool false),s)
 | .neq=>some (.value (.bool true),s)
 | _=>none
theorem rexec_bin {P:Program} {ρ:Operand→Value} {o:Oper} {op:BinOp} {t u:TypeId} {x y:Operand} {s:St} (ho:o.op=.binOp op t x y u) :
  rexec P ρ o s=(match rFlat P ρ o s with | some r=>some r | none=>if allOk [x,y] then (if aNilEq P t (ρ x) (ρ y) then binAns op s else sBin op (ρ x) (ρ y) s) else none):=by
 obtain ⟨dst,op0,ty,pos,after,guard⟩:=o
 simp only at ho
 subst ho
 rfl
theorem rexec_un {P:Program} {ρ:Operand→Value} {o:Oper} {op:UnOp} {t:TypeId} {x:Operand} {s:St} (ho:o.op=.unOp op t x) :
  rexec P ρ o s=(match rFlat P ρ o s with | some r=>some r | none=>if opdOk x then sUna op (ρ x) s else none):=by
 obtain ⟨dst,op0,ty,pos,after,guard⟩:=o
 simp only at ho
 subst ho
 rfl
theorem rexec_conv {P:Program} {ρ:Operand→Value} {o:Oper} {t u:TypeId} {x:Operand} {s:St} (ho:o.op=.convert t u x) :
  rexec P ρ o s=(match rFlat P ρ o s with | some r=>some r | none=>if opdOk x then sCnv P t u (ρ x) s else none):=by
 obtain ⟨dst,op0,ty,pos,after,guard⟩:=o
 simp only at ho
 subst ho
 rfl
theorem rexec_call {P:Program} {ρ:Operand→Value} {o:Oper} {c:Call} {s:St} (ho:o.op=.call c) :
  rexec P ρ o s=(match rFlat P ρ o s with | some r=>some r | none=>rCall P ρ c o.type s):=by
 obtain ⟨dst,op0,ty,pos,after,guard⟩:=o
 simp only at ho
 subst ho
 rfl
theorem fnilq_ok {B:Base} (hB:BOK B) {ρ:Operand→Value} {o:Oper} {op:BinOp} {t u:TypeId} {x y:Operand} {s:St} {r:Next×St} (ho:o.op=.binOp op t x y u) (hx:opdOk x=true) (hy:opdOk y=true)
    (h:fnilq B op t (ρ x) (ρ y) s=some r) :
    rexec B.P ρ o s=some r:=by
  rw [rexec_bin ho]
  unfold fnilq at h
  split at h
  · rename_i a hvx hvy
    obtain ⟨h1,h2⟩:=brec_some h
    obtain ⟨e,hu⟩:=ptrT_ok hB h1
    have hf:rFlat B.P ρ o s=none:=by
      unfold rFlat
      rw [ho]
      simp only [flatOp,Op.operands,List.all_cons,List.all_nil,hvx,flat_some,Bool.and_false,Bool.false_and,Bool.and_true,Bool.false_eq_true,if_false]
    rw [hf]
    dsimp only
    have hn:aNilEq B.P t (ρ x) (ρ y)=true:=by
      unfold aNilEq
      rw [hu,hvx,hvy]
    have ha:allOk [x,y]=true:=by simp [allOk,hx,hy]
    rw [ha,hn]
    simp only [if_true]
    exact h2
  · rename_i hvx hvy
    obtain ⟨h1,h2⟩:=brec_some h
    obtain ⟨e,hu⟩:=ptrT_ok hB h1
    have heq:qrun B.P (Op.equal t (.pointer none) (.pointer none))=some true:=by
      have hk:∀ n,qrun B.P (Op.equalIn (n+1) t (.pointer none) (.pointer none))=some true:=by
        intro n
        unfold Op.equalIn
        rw [qrun_bnd,qrun_underlying hu]
        rfl
      exact hk 9999
    have hg:∀ op,eqGuard op t x y (.pointer none) (.pointer none)=pure ():=by
      intro op
      unfold eqGuard
      split <;> rfl
    have hf:rFlat B.P ρ o s=some r:=by
      unfold rFlat
      rw [ho]
      simp only [flatOp,Op.operands,List.all_cons,List.all_nil,hx,hy,hvx,hvy,flatN,Bool.and_true,if_true]
      have ee:execOp ρ o=(do pure (.value (← (do eqGuard op t x y (ρ x) (ρ y); binOp op t (ρ x) (ρ y) : Sem Value))) : Sem Next):=by
        unfold execOp
        rw [ho]
      rw [ee,hvx,hvy,qrun_bnd,qrun_bnd,hg]
      cases op with
      | eql =>
        cases h2
        have eb:binOp .eql t (.pointer none) (.pointer none)=(do pure (.bool (← Op.equal t (.pointer none) (.pointer none))) : Sem Value):=rfl
        show (match (qrun B.P (binOp .eql t (.pointer none) (.pointer none))).bind fun a=>qrun B.P (pure (Next.value a)) with | some (.value v)=>if flatN 5 v=true then some (Next.value v,s) else none | _=>none)=_
        rw [eb,qrun_bnd,heq]
        rfl
      | neq =>
        cases h2
        have eb:binOp .neq t (.pointer none) (.pointer none)=(do pure (.bool (!(← Op.equal t (.pointer none) (.pointer none)))) : Sem Value):=rfl
        show (match (qrun B.P (binOp .neq t (.pointer none) (.pointer none))).bind fun a=>qrun B.P (pure (Next.value a)) with | some (.value v)=>if flatN 5 v=true then some (Next.value v,s) else none | _=>none)=_
        rw [eb,qrun_bnd,heq]
        rfl
      | _=>cases h2
    rw [hf]
  · cases h
theorem flen_ok {B:Base} (hB:BOK B) {t ty:TypeId} {x:Value} {s:St} {r:Next×St} (h:flen B t x s=some r) : sv (arun B.P (Builtin.len_ #[t] ty #[x]) s)=some r:=by
 unfold flen at h
 split at h
 ·rename_i a n c
  obtain ⟨h1,h2⟩:=brec_some h
  cases h2
  unfold lenT at h1
  split at h1
  ·rename_i e hu
   unfold Builtin.len_
   simp only [List.getElem?_toArray,List.getElem?_cons_zero]
   rw [arun_bnd,arun_underlying (tund_ok hB hu)]
   rfl
  ·cases h1
  ·cases h1
 ·rename_i b
  obtain ⟨h1,h2⟩:=brec_some h
  cases h2
  unfold lenT at h1
  split at h1
  ·cases h1
  ·rename_i hu
   unfold Builtin.len_
   simp only [List.getElem?_toArray,List.getElem?_cons_zero]
   rw [arun_bnd,arun_underlying (tund_ok hB hu)]
   rfl
  ·cases h1
 ·cases h
theorem fnF_ok {B:Base} (hB:BOK B) {f:FuncId} (h:fnF B f=true) : fnOk B.P f=true:=by
 unfold fnF at h
 split at h
 ·rename_i fn hf
  unfold fnOk
  rw [hB.F _ _ hf]
  exact h
 ·cases h
theorem fargs_eq (t:TV) : ∀ xs:List Operand,fargs t xs=xs.map (feval t):=by
 intro xs
 induction xs with
 | nil=>rfl
 | cons x xs ih =>
  show feval t x::fargs t xs=_
  rw [ih]
  rfl
theorem rFlat_call {P:Program} {ρ:Operand→Value} {o:Oper} {c:Call} {s:St} (ho:o.op=.call c) (hc:∀ b,c.callee=.builtin b→b ≠ .min∧b ≠ .max) : rFlat P ρ o s=none:=by
 have:flatOp o.op=false:=by
  rw [ho]
  obtain ⟨callee,args,ts⟩:=c
  cases callee with
  | builtin b =>
   have:=hc b rfl
   cases b <;> first | rfl | (exact absurd rfl this.1) | (exact absurd rfl this.2)
  | _=>rfl
 unfold rFlat
 rw [this]
 simp
theorem fcallee_ok {B:Base} (hB:BOK B) {t:TV} {o:Oper} {c:Call} {s:St} {r:Next×St} (ho:o.op=.call c) (h:fcallee B t o c s=some r) : rexec B.P (feval t) o s=some r:=by
 have hr:=rexec_call (P:=B.P) (ρ:=feval t) (s:=s) ho
 unfold fcallee at h
 split at h
 ·rename_i f hf
  split at h
  ·rename_i g first captured hv
   obtain ⟨h1,h2⟩:=ifF_some h
   rw [Bool.and_eq_true] at h1
   cases h2
   rw [hr,rFlat_call ho (fun b e=>by rw [hf] at e; cases e)]
   dsimp only
   unfold rCall
   rw [h1.1,hf]
   simp only [if_true,hv,fnF_ok hB h1.2]
   congr 3
   apply Array.ext'
   simp [fargs_eq]
  ·exact h
 ·rename_i b hb
  unfold fbuiltin at h
  split at h
  ·rename_i x ty ha ht
   obtain ⟨h1,h2⟩:=ifF_some h
   rcases orF_some h2 with h3 | h3
   ·rw [hr,rFlat_call ho (fun b e=>by rw [hb] at e; cases e; exact ⟨by simp,by simp⟩)]
    dsimp only
    unfold rCall
    rw [h1,hb]
    simp only [if_true,ha,ht]
    exact flen_ok hB h3
   ·exact h3
  ·exact h
 ·exact h
theorem ok2b {x y:Operand} (h:allOk [x,y]=true) : opdOk x=true∧opdOk y=true:=by simpa [allOk] using h
theorem fexec_ok {B:Base} (hB:BOK B) {t:TV} {o:Oper} {s:St} {r:Next×St} (h:fexec B t o s=some r) : rexec B.P (feval t) o s=some r:=by
 unfold fexec at h
 split at h
 ·rename_i x ho
  obtain ⟨h1,h2⟩:=ifF_some h
  unfold rexec
  rw [ho]
  simp only [h1,if_true]
  exact h2
 ·rename_i x ho
  obtain ⟨h1,h2⟩:=ifF_some h
  unfold rexec
  rw [ho]
  simp only [h1,if_true]
  exact h2
 ·rename_i c x y ho
  obtain ⟨h1,h2⟩:=ifF_some h
  unfold rexec
  rw [ho]
  simp only [h1,if_true]
  unfold fpick at h2
  split at h2
  ·rename_i b hb
   cases h2
   cases b <;> rfl
  ·cases h2
 ·rename_i op ty x y u ho
  obtain ⟨h1,h2⟩:=ifF_some h
  obtain ⟨hx,hy⟩:=ok2b h1
  split at h2
  ·rename_i v hv
   cases h2
   rw [rexec_bin ho,rFlat_bin ho hx hy hv]
  ·rcases orF_some h2 with h3 | h3
   ·exact fnilq_ok hB ho hx hy h3
   ·exact h3
 ·rename_i op ty x ho
  obtain ⟨h1,h2⟩:=ifF_some h
  rcases orF_some h2 with h3 | h3
  ·rw [rexec_un ho,fnot_ok ho h1 h3]
  ·exact h3
 ·rename_i a u x ho
  obtain ⟨h1,h2⟩:=ifF_some h
  rcases orF_some h2 with h3 | h3
  ·rw [rexec_conv ho,fconv_ok hB ho h1 h3]
  ·exact h3
 ·rename_i ty ho
  rcases orF_some h with h3 | h3
  ·obtain ⟨h4,h5⟩:=falloc_ok hB h3
   unfold rexec
   rw [ho]
   simp only [h4,if_true]
   exact h5
  ·exact h3
 ·rename_i ty x ho
  obtain ⟨h1,h2⟩:=ifF_some h
  rcases orF_some h2 with h3 | h3
  ·unfold rexec
   rw [ho]
   simp only [h1,if_true]
   exact fbox_ok h3
  ·exact h3
 ·rename_i ty x ho
  obtain ⟨h1,h2⟩:=ifF_some h
  rcases orF_some h2 with h3 | h3
  ·unfold rexec
   rw [ho]
   simp only [h1,if_true]
   exact fload_ok hB h3
  ·exact h3
 ·rename_i ty x y ho
  obtain ⟨h1,h2⟩:=ifF_some h
  rcases orF_some h2 with h3 | h3
  ·unfold rexec
   rw [ho]
   simp only [h1,if_true]
   exact fstore_ok hB h3
  ·exact h3
 ·rename_i ty x f ho
  obtain ⟨h1,h2⟩:=ifF_some h
  rcases orF_some h2 with h3 | h3
  ·obtain ⟨h4,h5⟩:=ffield_ok hB h3
   unfold rexec
   rw [ho]
   simp only [h1,h4,Bool.and_self,if_true]
   exact h5
  ·exact h3
 ·rename_i ty x i ho
  obtain ⟨h1,h2⟩:=ifF_some h
  rcases orF_some h2 with h3 | h3
  ·unfold rexec
   rw [ho]
   simp only [h1,if_true]
   exact findex_ok hB h3
  ·exact h3
 ·rename_i x ho
  obtain ⟨h1,h2⟩:=ifF_some h
  unfold rexec
  rw [ho]
  simp only [h1,if_true]
  exact h2
 ·rename_i x i ho
  obtain ⟨h1,h2⟩:=ifF_some h
  rcases orF_some h2 with h3 | h3
  ·unfold rexec
   rw [ho]
   simp only [h1,if_true]
   exact fextract_ok h3
  ·exact h3
 ·rename_i c ho
  exact fcallee_ok hB ho h
 ·exact h
end Go.Ev
