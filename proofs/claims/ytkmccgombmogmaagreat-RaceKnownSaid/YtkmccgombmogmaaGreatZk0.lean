/- Part of a proof: see the last text. -/
import Derived.WalkKit
import Derived.Deep.AppendSrc
import Derived.Deep.Upon
import Derived.Orders
import Derived.LoopN
import Derived.Scope
import Derived.RangeFuncLeaves
import Derived.RangeFuncCalls
import Derived.OrdersIn
import Derived.TacticsIn
import Derived.LoopNIn
import GoSem.Core.CheckCode
import Derived.Maps.Range
import Derived.Maps.Views
import Derived.OwnWalk
import Derived.KernelRfl
import Derived.Test.YtkmccgombmogmaaGreatRows
namespace Go.Ev
open Go.RowKit
set_option linter.unusedVariables false
set_option linter.unusedSimpArgs false
set_option linter.unusedSectionVars false
abbrev Ren:=Nat→Option Nat
def RLe (ι κ:Ren) : Prop:=∀ id b,ι id=some b→κ id=some b
def unpF:Nat→Nat→Nat×Nat
 | 0,n=>(0,n)
 | f+1,n=>if n % 2=1 then (0,n / 2) else ((unpF f (n / 2)).1+1,(unpF f (n / 2)).2)
def unp (n:Nat) : Nat×Nat:=unpF n n
def prn (x y:Nat) : Nat:=2 ^ x * (2 * y+1)
theorem unpF_prn (x:Nat) : ∀ y f,x < f→unpF f (prn x y)=(x,y):=by
 induction x with
 | zero =>
  intro y f hf
  match f,hf with
  | f+1,_ =>
   unfold unpF prn
   rw [if_pos (by omega)]
   congr 1
   omega
 | succ x ih =>
  intro y f hf
  match f,hf with
  | f+1,hf =>
   have e:prn (x+1) y=2 * prn x y:=by unfold prn; rw [Nat.pow_succ,Nat.mul_comm (2 ^ x) 2,Nat.mul_assoc]
   unfold unpF
   rw [e,if_neg (by omega),show 2 * prn x y / 2=prn x y by omega,ih y f (by omega)]
theorem unp_prn (x y:Nat) : unp (prn x y)=(x,y):=by
 refine unpF_prn x y _ ?_
 have h1:x < 2 ^ x:=Nat.lt_two_pow_self
 have h2:2 ^ x * 1≤2 ^ x * (2 * y+1):=Nat.mul_le_mul_left _ (by omega)
 unfold prn
 omega
def dec (c:Nat) : Value :=
 match (unp c).1 with
 | 0=>.slice (some ⟨(unp (unp c).2).1,(unp (unp (unp c).2).2).1,none⟩) (unp (unp (unp (unp c).2).2).2).1 (unp (unp (unp (unp c).2).2).2).2
 | 1=>.pointer (some ⟨(unp (unp c).2).1,(unp (unp c).2).2,none⟩)
 | 2=>.map (some (unp c).2)
 | 3=>.slice none 0 0
 | 4=>.pointer none
 | 5=>.map none
 | 6=>.int .i64 (if (unp c).2 % 2=0 then (((unp c).2 / 2:Nat) : Int) else - (((unp c).2 / 2:Nat) : Int) - 1)
 | _=>.int .u64 ((unp c).2:Nat)
theorem dec_slice (b off n c:Nat) : dec (prn 0 (prn b (prn off (prn n c))))=.slice (some ⟨b,off,none⟩) n c:=by simp only [dec,unp_prn]
theorem dec_slice0:dec (prn 3 0)=.slice none 0 0:=by simp only [dec,unp_prn]
def leafV:Value→Bool
 | .bool _ | .agg _ | .tuple _ | .complex _ _ _=>false
 | _=>true
def cvV (val:Nat→Value) : Value→Value
 | .complex .f64 n _=>val n
 | v=>v
def symV:Value→Bool
 | .bool _ | .int _ _ | .float _ _ | .string _ | .complex .f64 _ _=>true
 | .pointer none | .slice none 0 0 | .map none | .nilFunc | .nilIface=>true
 | _=>false
abbrev GQ:=Nat→Nat→Option (Value×Option Nat)
inductive GReq where
 | now (q:GQ)
 | src (sz j:Nat) (q:List Value→GQ)
 | stay (r:Value)
class Sig where
  val:Nat→Value
  leaf:∀ n,leafV (val n)=true
  bin:BinOp→Value→Value→Option Value
  bin_ok:∀ op x y r,bin op x y=some r→symV x=true∧symV y=true∧symV r=true∧∀ t ox oy,(do eqGuard op t ox oy (cvV val x) (cvV val y); binOp op t (cvV val x) (cvV val y) : Sem Value)=pure (cvV val r)
  una:UnOp→Value→Option Value
  una_ok:∀ op x r,una op x=some r→symV x=true∧symV r=true∧Op.unary op (cvV val x)=pure (cvV val r)
  cnv:IntKind→Value→Option Value
  cnv_ok:∀ k x r,cnv k x=some r→symV x=true∧symV r=true∧∃ k0 n,cvV val x=.int k0 n∧cvV val r=.int k (k.wrap n)
  cal:FuncId→List Value→Option Value
  cal_sym:∀ f l r,cal f l=some r→symV r=true
  GR:Nat→Ren→(Nat→Prop)→World→Prop
  GR_keep:∀ g ι F w w',(∀ j,F j→w'.heap[j]? = w.heap[j]?)→GR g ι F w→GR g ι F w'
  GR_mono:∀ g ι κ F w,RLe ι κ→GR g ι F w→GR g κ F w
  gop:Op→List Value→Option GReq
  gcal:FuncId→List Value→Option GQ
variable [Sig]
structure Out (K:Nat→Prop) (w w':World) : Prop where
 os:w'.os=w.os
 tape:w'.tape=w.tape
 output:w'.output=w.output
 size:w.heap.size≤w'.heap.size
 block:∀ k,K k→w'.heap[k]? = w.heap[k]?
theorem Out.refl (K:Nat→Prop) (w:World) : Out K w w:=⟨rfl,rfl,rfl,Nat.le_refl _,fun _ _=>rfl⟩
theorem Out.trans {K:Nat→Prop} {a b c:World} (h:Out K a b) (k:Out K b c) : Out K a c :=
 ⟨k.os.trans h.os,k.tape.trans h.tape,k.output.trans h.output,Nat.le_trans h.size k.size,fun i hi=>(k.block i hi).trans (h.block i hi)⟩
theorem Out.setCell {K:Nat→Prop} {a w:World} (h:Out K a w) {p:Addr} (hp:¬ K p.block) (u:Value) : Out K a (w.setCell p u) :=
 h.trans ⟨rfl,rfl,rfl,by simp [World.setCell],fun k hk=>Below.heap_setCell _ _ _ _ (fun e=>hp (e ▸ hk))⟩
theorem heap_setCell_same {w:World} {b off:Nat} {v:Value} {c:Array Value} {e:TypeId} (h:w.heap[b]? = some (.cells c e (0,0))) : (w.setCell ⟨b,off,none⟩ v).heap[b]? = some (.cells (c.setIfInBounds off v) e (0,0)):=by
 simp [World.setCell,Array.getElem?_modify,h]
end Go.Ev
namespace Go.Ev
open Go.RowKit
set_option linter.unusedVariables false
set_option linter.unusedSimpArgs false
set_option linter.unusedSectionVars false
variable [Sig]
theorem Addr.add_mk (b off n:Nat) : (⟨b,off,none⟩ : Addr).add n=⟨b,off+n,none⟩:=by
 unfold Addr.add
 split
 ·subst_vars; rfl
 ·rfl
end Go.Ev
namespace Go.Ev
open Go.RowKit
set_option linter.unusedVariables false
set_option linter.unusedSimpArgs false
set_option linter.unusedSectionVars false
variable [Sig]
end Go.Ev
namespace Go.Ev
open Go.RowKit
set_option linter.unusedVariables false
set_option linter.unusedSimpArgs false
set_option linter.unusedSectionVars false
variable [Sig]
end Go.Ev
namespace Go.Ev
open Go.RowKit
set_option linter.unusedVariables false
set_option linter.unusedSimpArgs false
set_option linter.unusedSectionVars false
variable [Sig]
end Go.Ev
namespace Go.Ev
open Go.RowKit
set_option linter.unusedVariables false
set_option linter.unusedSimpArgs false
set_option linter.unusedSectionVars false
variable [Sig]
end Go.Ev
namespace Go.Ev
open Go.RowKit
set_option linter.unusedVariables false
set_option linter.unusedSimpArgs false
set_option linter.unusedSectionVars false
variable [Sig]
theorem heap_setCells {e:TypeId} {b:Nat} : ∀ (vs:List Value) (o:Nat) (w:World) (cur:Array Value),w.heap[b]? = some (.cells cur e (0,0)) →
  ∃ cur',(w.setCells b o vs).heap[b]? = some (.cells cur' e (0,0))∧cur'.size=cur.size∧(∀ k,(k < o∨o+vs.length≤k)→cur'[k]? = cur[k]?)∧(∀ j v,vs[j]? = some v→o+j < cur.size→cur'[o+j]? = some v):=by
 intro vs
 induction vs with
 | nil=>intro o w cur h; exact ⟨cur,h,rfl,fun k _=>rfl,fun j v h=>by simp at h⟩
 | cons x r ih =>
  intro o w cur h
  obtain ⟨cur',h1,h2,h3,h4⟩:=ih (o+1) (w.setCell ⟨b,o,none⟩ x) (cur.setIfInBounds o x) (heap_setCell_same h)
  refine ⟨cur',h1,by simpa using h2,?_,?_⟩
  ·intro k hk
   rw [h3 k (by simp at hk; omega),Array.getElem?_setIfInBounds,if_neg (by simp at hk; omega)]
  ·intro j v hj hlt
   match j with
   | 0 =>
    simp at hj
    subst hj
    rw [Nat.add_zero,h3 o (by omega),Array.getElem?_setIfInBounds,if_pos rfl,if_pos (by simpa using hlt)]
   | j+1 =>
    have:=h4 j v (by simpa using hj) (by simp; omega)
    rw [show o+(j+1)=o+1+j by omega]
    exact this
theorem setCells_size {b:Nat} : ∀ (vs:List Value) (o:Nat) (w:World),(w.setCells b o vs).heap.size=w.heap.size:=by
 intro vs
 induction vs with
 | nil=>intro o w; rfl
 | cons x r ih=>intro o w; rw [show (w.setCells b o (x::r))=((w.setCell ⟨b,o,none⟩ x).setCells b (o+1) r) from rfl,ih]; simp [World.setCell]
theorem setCells_other {b:Nat} : ∀ (vs:List Value) (o:Nat) (w:World) (j:Nat),j ≠ b→(w.setCells b o vs).heap[j]? = w.heap[j]?:=by
 intro vs
 induction vs with
 | nil=>intro o w j hj; rfl
 | cons x r ih =>
  intro o w j hj
  rw [show (w.setCells b o (x::r))=((w.setCell ⟨b,o,none⟩ x).setCells b (o+1) r) from rfl,ih _ _ _ hj]
  exact Below.heap_setCell _ _ _ _ hj
theorem setCells_below {base:Nat→Prop} {b:Nat} (hb:¬ base b) : ∀ (vs:List Value) (o:Nat) (w:World),Out base w (w.setCells b o vs):=by
 intro vs
 induction vs with
 | nil=>intro o w; exact Out.refl _ _
 | cons x r ih=>intro o w; exact ((Out.refl base w).setCell (p:=⟨b,o,none⟩) hb x).trans (ih (o+1) _)
end Go.Ev
namespace Go.Ev
open Go.RowKit
set_option linter.unusedVariables false
set_option linter.unusedSimpArgs false
set_option linter.unusedSectionVars false
variable [Sig]
end Go.Ev
namespace Go.Ev
open Go.RowKit
set_option linter.unusedVariables false
set_option linter.unusedSimpArgs false
set_option linter.unusedSectionVars false
variable [Sig]
end Go.Ev
namespace Go.Ev
open Go.RowKit
set_option linter.unusedVariables false
set_option linter.unusedSimpArgs false
set_option linter.unusedSectionVars false
variable [Sig]
end Go.Ev
namespace Go.Ev
open Go.RowKit
set_option linter.unusedVariables false
set_option linter.unusedSimpArgs false
set_option linter.unusedSectionVars false
variable [Sig]
end Go.Ev
namespace Go.Ev
open Go.RowKit
set_option linter.unusedVariables false
set_option linter.unusedSimpArgs false
set_option linter.unusedSectionVars false
variable [Sig]
end Go.Ev
namespace Go.Ev
open Go.RowKit
set_option linter.unusedVariables false
set_option linter.unusedSimpArgs false
set_option linter.unusedSectionVars false
variable [Sig]
end Go.Ev
namespace Go.Ev
open Go.RowKit
set_option linter.unusedVariables false
set_option linter.unusedSimpArgs false
set_option linter.unusedSectionVars false
variable [Sig]
end Go.Ev
namespace Go.Ev
open Go.RowKit
set_option linter.unusedVariables false
set_option linter.unusedSimpArgs false
set_option linter.unusedSectionVars false
variable [Sig]
end Go.Ev
namespace Go.Ev
open Go.RowKit
set_option linter.unusedVariables false
set_option linter.unusedSimpArgs false
set_option linter.unusedSectionVars false
variable [Sig]
end Go.Ev
namespace Go.Ev
open Go.RowKit
set_option linter.unusedVariables false
set_option linter.unusedSimpArgs false
set_option linter.unusedSectionVars false
variable [Sig]
end Go.Ev
namespace Go.Ev
open Go.RowKit
set_option linter.unusedVariables false
set_option linter.unusedSimpArgs false
set_option linter.unusedSectionVars false
variable [Sig]
end Go.Ev
namespace Go.Ev
open Go.RowKit
set_option linter.unusedVariables false
set_option linter.unusedSimpArgs false
set_option linter.unusedSectionVars false
variable [Sig]
end Go.Ev
namespace Go.Ev
open Go.RowKit
set_option linter.unusedVariables false
set_option linter.unusedSimpArgs false
set_option linter.unusedSectionVars false
variable [Sig]
end Go.Ev
namespace Go.Ev
open Go.RowKit
set_option linter.unusedVariables false
set_option linter.unusedSimpArgs false
set_option linter.unusedSectionVars false
variable [Sig]
section Last
variable {X Y:Type}
end Last
end Go.Ev
namespace Go.Ev
open Go.RowKit
set_option linter.unusedVariables false
set_option linter.unusedSimpArgs false
set_option linter.unusedSectionVars false
variable [Sig]
end Go.Ev
namespace Go.Ev
open Go.RowKit
set_option linter.unusedVariables false
set_option linter.unusedSimpArgs false
set_option linter.unusedSectionVars false
variable [Sig]
structure Turn (F:Nat→Prop) (w w':World) : Prop where
 os:w'.os=w.os
 tape:w'.tape=w.tape
 output:w'.output=w.output
 size:w.heap.size≤w'.heap.size
 block:∀ k,k < w.heap.size→¬ F k→w'.heap[k]? = w.heap[k]?
end Go.Ev
namespace Go.Ev
open Go.RowKit
set_option linter.unusedVariables false
set_option linter.unusedSimpArgs false
set_option linter.unusedSectionVars false
variable [Sig]
@[reducible] def noSig:Sig where
 val:=fun _=>.int .i64 0
 leaf:=fun _=>rfl
 bin:=fun _ _ _=>none
 bin_ok:=fun _ _ _ _ h=>by cases h
 una:=fun _ _=>none
 una_ok:=fun _ _ _ h=>by cases h
 cnv:=fun _ _=>none
 cnv_ok:=fun _ _ _ h=>by cases h
 cal:=fun _ _=>none
 cal_sym:=fun _ _ _ h=>by cases h
 GR:=fun _ _ _ _=>False
 GR_keep:=fun _ _ _ _ _ _ h=>h
 GR_mono:=fun _ _ _ _ _ _ h=>h
 gop:=fun _ _=>none
 gcal:=fun _ _=>none
end Go.Ev
namespace Go.Ev
open Go.RowKit
set_option linter.unusedVariables false
set_option linter.unusedSimpArgs false
set_option linter.unusedSectionVars false
variable [Sig]
end Go.Ev
namespace Go.Ev
open Go.RowKit
set_option linter.unusedVariables false
set_option linter.unusedSimpArgs false
set_option linter.unusedSectionVars false
variable [Sig]
end Go.Ev
namespace Go.Ev
open Go.RowKit
set_option linter.unusedVariables false
set_option linter.unusedSimpArgs false
set_option linter.unusedSectionVars false
variable [Sig]
end Go.Ev
namespace Go.Ev
open Go.RowKit
set_option linter.unusedVariables false
set_option linter.unusedSimpArgs false
set_option linter.unusedSectionVars false
variable [Sig]
end Go.Ev
namespace Go.Ev
open Go.RowKit
set_option linter.unusedVariables false
set_option linter.unusedSimpArgs false
end Go.Ev
namespace Go.Ev
open Go.RowKit
set_option linter.unusedVariables false
set_option linter.unusedSimpArgs false
set_option linter.unusedSectionVars false
variable [Sig]
end Go.Ev
namespace Go.Ev
open Go.RowKit
set_option linter.unusedVariables false
set_option linter.unusedSimpArgs false
set_option linter.unusedSectionVars false
structure Asr where
 p:Ren→(Nat→Prop)→World→Prop
 keep:∀ ι F w w',(∀ j,F j→w'.heap[j]? = w.heap[j]?)→p ι F w→p ι F w'
 mono:∀ ι κ F w,RLe ι κ→p ι F w→p κ F w
end Go.Ev
namespace Go.Ev
open Go.RowKit
set_option linter.unusedVariables false
set_option linter.unusedSimpArgs false
set_option linter.unusedSectionVars false
variable {P:Program} {g:Nat} {d0 ng:Option Nat} {r:Value}
end Go.Ev
namespace Go.Ev
open Go.RowKit
set_option linter.unusedVariables false
set_option linter.unusedSimpArgs false
set_option linter.unusedSectionVars false
section pieces
variable [Sig]
end pieces
end Go.Ev
namespace Go.Ev
open Go.RowKit
set_option linter.unusedVariables false
set_option linter.unusedSimpArgs false
set_option linter.unusedSectionVars false
theorem addMk (b off n:Nat) : (⟨b,off,none⟩ : Addr).add n=⟨b,off+n,none⟩:=@Addr.add_mk noSig b off n
def EmpV (v:Value) : Prop:=v=.slice none 0 0∨∃ b off,v=.slice (some ⟨b,off,none⟩) 0 0
theorem EmpV.base {v:Value} (h:EmpV v) : ∃ a:Option Addr,v=.slice a 0 0:=by
 rcases h with rfl | ⟨b,off,rfl⟩ <;> exact ⟨_,rfl⟩
def SlV (e:TypeId) (sz:Nat) (v:Value) (n:Nat) (xs:List Value) (F:Nat→Prop) (w:World) : Prop :=
 xs.length=n * sz∧((EmpV v∧n=0∧∀ j,¬ F j) ∨
  ∃ b off c arr,v=.slice (some ⟨b,off,none⟩) n c∧(∀ j,F j↔j=b)∧w.heap[b]? = some (.cells arr e (0,0))∧(∀ i,i < n * sz→arr[off+i]? = xs[i]?)∧off+c * sz≤arr.size∧n≤c)
theorem SlV.keep {e:TypeId} {sz n:Nat} {v:Value} {xs:List Value} {F:Nat→Prop} {w w':World} (h:SlV e sz v n xs F w) (hk:∀ j,F j→w'.heap[j]? = w.heap[j]?) : SlV e sz v n xs F w':=by
 obtain ⟨h1,h2 | ⟨b,off,c,arr,k1,k2,k3,k4⟩⟩:=h
 ·exact ⟨h1,.inl h2⟩
 ·exact ⟨h1,.inr ⟨b,off,c,arr,k1,k2,by rw [hk b ((k2 b).2 rfl)]; exact k3,k4⟩⟩
theorem SlV.lt {e:TypeId} {sz n:Nat} {v:Value} {xs:List Value} {F:Nat→Prop} {w:World} (h:SlV e sz v n xs F w) : ∀ j,F j→j < w.heap.size:=by
 intro j hj
 obtain ⟨h1,⟨_,_,h2⟩ | ⟨b,off,c,arr,k1,k2,k3,k4⟩⟩:=h
 ·exact (h2 j hj).elim
 ·rw [(k2 j).1 hj]
  exact (Array.getElem?_eq_some_iff.1 k3).1
theorem SlV.code {e:TypeId} {sz n:Nat} {v:Value} {xs:List Value} {F:Nat→Prop} {w:World} (h:SlV e sz v n xs F w) : ∃ c,dec c=v:=by
 obtain ⟨h1,⟨rfl | ⟨b,off,rfl⟩,_⟩ | ⟨b,off,c,arr,rfl,_⟩⟩:=h
 ·exact ⟨_,dec_slice0⟩
 ·exact ⟨_,dec_slice b off 0 0⟩
 ·exact ⟨_,dec_slice b off n c⟩
theorem SlV.leaf {e:TypeId} {sz n:Nat} {v:Value} {xs:List Value} {F:Nat→Prop} {w:World} (h:SlV e sz v n xs F w) : leafV v=true:=by
 obtain ⟨h1,⟨rfl | ⟨b,off,rfl⟩,_⟩ | ⟨b,off,c,arr,rfl,_⟩⟩:=h <;> rfl
theorem SlV.nil (e:TypeId) (sz:Nat) (w:World) : SlV e sz (.slice none 0 0) 0 [] (fun _=>False) w:=⟨by simp,.inl ⟨.inl rfl,rfl,fun _ h=>h⟩⟩
theorem SlV.append {P:Program} {t u ty e:TypeId} {i:TypeInfo} {z:Value} {v y:Value} {n m:Nat} {xs cs:List Value} {F:Nat→Prop} {w:World} (h:SlV e i.size v n xs F w) (ht:P.underlying t=some (.slice e)) (hi:P.info? e=some i) (hz:i.zero=some z) (hzs:z.cells.size=i.size)
  (hs:Src P i.size u y m cs w) (hb:(n+m) * i.bytes≤140737488355328) (hnm:n+m≤1000000000) :
  ∃ v' w' F',(Builtin.append_ #[t,u] ty #[v,y]).run P w=.ok v' w'∧SlV e i.size v' (n+m) (xs++cs) F' w'∧Turn F w w'∧(∀ j,F' j→j < w'.heap.size∧(F j∨w.heap.size≤j)):=by
 obtain ⟨hl,hv⟩:=h
 have hcl:=hs.newsLen
 have grow:∀ (base:Option Addr) (c:Nat),v=.slice base n c→c < n+m→(Builtin.firstCells i.size n (.slice base n c)).run P w.drew=.ok xs.toArray w.drew →
   ∃ v' w' F',(Builtin.append_ #[t,u] ty #[v,y]).run P w=.ok v' w'∧SlV e i.size v' (n+m) (xs++cs) F' w'∧Turn F w w'∧(∀ j,F' j→j < w'.heap.size∧(F j∨w.heap.size≤j)):=by
  intro base c hv0 hlt hold
  have hrun:=run_append_grow_src (P:=P) w t u ty e i z ht hi hz base n c xs hold y m cs hs hlt (by omega) (growslice_fits hlt hb)
  have hcap:=grownCap_ge w (n+m) c e
  generalize grownCap w (n+m) c e=cap at hrun hcap
  refine ⟨.slice (some ⟨w.heap.size,0,none⟩) (n+m) cap,w.drew.alloc (.cells ((xs++cs).toArray++Builtin.zeroCells z.cells (cap - (n+m))) e),(fun j=>j=w.heap.size),by rw [hv0]; exact hrun,⟨by rw [List.length_append,hl,hcl,Nat.add_mul],.inr ⟨w.heap.size,0,cap,(xs++cs).toArray++Builtin.zeroCells z.cells (cap - (n+m)),rfl,fun _=>Iff.rfl,?_,?_,?_,hcap⟩⟩,⟨rfl,rfl,rfl,by simp,fun k hk _=>?_⟩,fun j hj=>?_⟩
  ·show (w.heap.push _)[w.heap.size]? = _
   rw [Array.getElem?_push_size]
  ·intro k hk
   rw [Nat.zero_add,Array.getElem?_append_left (by simp [hl,hcl,← Nat.add_mul]; exact hk)]
   simp
  ·have e2:(Builtin.zeroCells z.cells (cap - (n+m))).size=(cap - (n+m)) * i.size:=by simp [Builtin.zeroCells,hzs]
   rw [Array.size_append,e2]
   simp only [List.size_toArray,List.length_append,hl,hcl]
   rw [Nat.zero_add,← Nat.add_mul,← Nat.add_mul]
   rw [show n+m+(cap - (n+m))=cap by omega]
   exact Nat.le_refl _
  ·exact Below.heap_alloc _ _ _ hk
  ·rw [hj]
   exact ⟨by simp,.inr (Nat.le_refl _)⟩
 rcases hv with ⟨hv,rfl,hF⟩ | ⟨b,off,c,arr,hv,hF,hb0,hx,hsz,hnc⟩
 ·by_cases hm:m=0
  ·subst hm
   have hcs:cs=[]:=List.eq_nil_of_length_eq_zero (by rw [hcl]; simp)
   subst hcs
   refine ⟨v,w,F,?_,⟨by simpa using hl,.inl ⟨hv,rfl,hF⟩⟩,⟨rfl,rfl,rfl,Nat.le_refl _,fun _ _ _=>rfl⟩,fun j hj=>(hF j hj).elim⟩
   obtain ⟨a,hv⟩:=hv.base
   rw [hv]
   exact run_append_nothing w t u ty e i ht hi a 0 0 (Nat.le_refl _) y hs
  ·have hxs:xs=[]:=List.eq_nil_of_length_eq_zero (by rw [hl]; simp)
   rcases hv with hv | ⟨b,off,hv⟩
   ·exact grow none 0 hv (by omega) (by rw [hxs]; exact run_firstCells_none _ _ _ _ _)
   ·exact grow (some ⟨b,off,none⟩) 0 hv (by omega) (run_firstCells_some _ _ _ _ _ _ _ hl (fun j x hj=>by rw [hxs] at hj; cases hj))
 ·by_cases hroom:n+m≤c
  ·have hnm':(n+m) * i.size≤c * i.size:=Nat.mul_le_mul_right _ hroom
   rw [Nat.add_mul] at hnm'
   have cell:∀ j,j < cs.length→∃ x,w.cell? ⟨b,off+n * i.size+j,none⟩=some x:=by
    intro j hj
    have hlt:off+n * i.size+j < arr.size:=by omega
    exact ⟨arr[off+n * i.size+j],by simp [World.cell?,hb0,Array.getElem?_eq_getElem hlt]⟩
   have hrun:=run_append_room_src (P:=P) w t u ty e i ht hi b off n c y m cs hs hroom (fun j hj=>by obtain ⟨x,hx⟩:=cell j hj; rw [hx]; rfl) (fun j hj=>by simp [World.frozen?,hb0])
   obtain ⟨cur,s1,s2,s3,s4⟩:=@heap_setCells noSig _ _ cs (off+n * i.size) w arr hb0
   refine ⟨_,_,F,by rw [hv]; exact hrun,⟨by rw [List.length_append,hl,hcl,Nat.add_mul],.inr ⟨b,off,c,cur,rfl,hF,s1,?_,by rw [s2]; exact hsz,hroom⟩⟩,⟨?_,?_,?_,by rw [@setCells_size noSig]; exact Nat.le_refl _,fun k _ hk=>@setCells_other noSig _ _ _ _ _ (fun e=>hk ((hF k).2 e))⟩,fun j hj=>⟨?_,.inl hj⟩⟩
   ·intro k hk
    by_cases hkn:k < n * i.size
    ·rw [s3 _ (by omega),hx k hkn,List.getElem?_append_left (by omega)]
    ·have e1:off+k=off+n * i.size+(k - n * i.size):=by omega
     rw [Nat.add_mul] at hk
     have hlt2:k - n * i.size < cs.length:=by omega
     rw [List.getElem?_append_right (by omega),hl,e1,List.getElem?_eq_getElem hlt2]
     exact s4 _ _ (List.getElem?_eq_getElem hlt2) (by omega)
   ·exact (@setCells_below noSig (base:=fun _=>False) (b:=b) (fun h=>h) cs (off+n * i.size) w).os
   ·exact (@setCells_below noSig (base:=fun _=>False) (b:=b) (fun h=>h) cs (off+n * i.size) w).tape
   ·exact (@setCells_below noSig (base:=fun _=>False) (b:=b) (fun h=>h) cs (off+n * i.size) w).output
   ·rw [@setCells_size noSig,(hF j).1 hj]
    exact (Array.getElem?_eq_some_iff.1 hb0).1
  ·refine grow (some ⟨b,off,none⟩) c hv (by omega) (run_firstCells_some _ _ _ _ _ _ _ hl (fun j x hj=>?_))
   have hjl:j < n * i.size:=by
    rw [← hl]
    exact (List.getElem?_eq_some_iff.1 hj).1
   have:=hx j hjl
   rw [hj] at this
   show w.cell? ((⟨b,off,none⟩ : Addr).add j)=some x
   rw [addMk]
   simp [World.cell?,hb0,this]
section
variable {P:Program} {t e:TypeId} {i:TypeInfo} {v:Value} {n:Nat} {xs:List Value} {F:Nat→Prop} {w:World}
theorem SlV.set {sz b off c k:Nat} (h:SlV e sz v n xs F w) (hv:v=.slice (some ⟨b,off,none⟩) n c) (hk:k < n * sz) (x:Value) : SlV e sz v n (xs.set k x) F (w.setCell ⟨b,off+k,none⟩ x):=by
 obtain ⟨h1,h2⟩:=h
 rcases h2 with ⟨_,rfl,hF⟩ | ⟨b',off',c',arr,hv',hF,hb0,hx,hsz,hnc⟩
 ·simp at hk
 ·rw [hv] at hv'
  cases hv'
  have hn:=Nat.mul_le_mul_right sz hnc
  refine ⟨by simpa using h1,.inr ⟨b,off,c,arr.setIfInBounds (off+k) x,hv,hF,@heap_setCell_same noSig _ _ _ _ _ _ hb0,fun i hi=>?_,by simpa using hsz,hnc⟩⟩
  rw [Array.getElem?_setIfInBounds,List.getElem?_set]
  by_cases e:k=i
  ·subst e
   rw [if_pos rfl,if_pos rfl,if_pos (by omega),if_pos (by omega)]
  ·rw [if_neg (by omega),if_neg e]
   exact hx i hi
end
end Go.Ev
namespace Go.Ev
open Go.RowKit
set_option linter.unusedVariables false
set_option linter.unusedSimpArgs false
set_option linter.unusedSectionVars false
structure StarAt (l:List Asr) (Fs:List (Nat→Prop)) (ι:Ren) (F:Nat→Prop) (w:World) : Prop where
 len:Fs.length=l.length
 holds:∀ (i:Nat) a f,l[i]? = some a→Fs[i]? = some f→a.p ι f w
 apart:∀ (i j:Nat) f f',i ≠ j→Fs[i]? = some f→Fs[j]? = some f'→∀ x,f x→¬ f' x
 all:∀ x,F x↔∃ (i:Nat) (f:Nat→Prop),Fs[i]? = some f∧f x
def star (l:List Asr) : Asr where
 p:=fun ι F w=>∃ Fs,StarAt l Fs ι F w
 keep:=fun ι F w w' hk ⟨Fs,h⟩=>⟨Fs,h.len,fun i a f h1 h2=>a.keep ι f w w' (fun j hj=>hk j ((h.all j).2 ⟨i,f,h2,hj⟩)) (h.holds i a f h1 h2),h.apart,h.all⟩
 mono:=fun ι κ F w hk ⟨Fs,h⟩=>⟨Fs,h.len,fun i a f h1 h2=>a.mono ι κ f w hk (h.holds i a f h1 h2),h.apart,h.all⟩
end Go.Ev
namespace Go.Ev
open Go.RowKit
set_option linter.unusedVariables false
set_option linter.unusedSimpArgs false
set_option linter.unusedSectionVars false
variable {P:Program} {g:Nat} {d0 ng:Option Nat} {r:Value}
end Go.Ev
namespace Go.Ev
open Go.RowKit Go.Maps Go.WideShapes
open Go.WideElems (Fit rd rg pl rd_key rd_val rg_of other_key)
set_option linter.unusedVariables false
set_option linter.unusedSimpArgs false
set_option linter.unusedSectionVars false
section parts
variable {P:Program} {g g':Nat} {d0:Option Nat} {r:Value} {l:List Asr} {i:Nat} {a a':Asr} {ι:Ren} {F:Nat→Prop} {w w':World} {d:Nat}
end parts
section rows
variable {P:Program} {g g':Nat} {d0:Option Nat} {l:List Asr} {ci:Nat} {t kT e:TypeId} {b n sM sK sV:Nat} {f:Int→Option Int} {i x:Int}
end rows
end Go.Ev
namespace Go.Ev
open Go.RowKit
set_option linter.unusedVariables false
set_option linter.unusedSimpArgs false
set_option linter.unusedSectionVars false
def SlR (sz:Nat) (v:Value) (n:Nat) (xs:List Value) (w0:World) : Prop :=
 xs.length=n * sz∧((n=0∧∃ a c,v=.slice a 0 c)∨∃ b off c,v=.slice (some ⟨b,off,none⟩) n c∧(b < w0.heap.size∧n≤c)∧∀ j,j < n * sz→w0.cell? ⟨b,off+j,none⟩=xs[j]?)
def ptrR (v:Value) (m:Nat) : Value :=
 match v with
 | .slice (some ⟨b,off,_⟩) _ _=>.pointer (some ⟨b,off+m,none⟩)
 | _=>.pointer none
section rows
variable {P:Program} {g:Nat} {l:List Asr} {ci:Nat} {w0:World} {X:Nat→Prop} {t e:TypeId} {sL sI sP sQ sV n sz m:Nat} {v:Value} {xs:List Value}
end rows
structure Now (l:List Asr) (F:Nat→Prop) (w:World) : Prop where
 st:(star l).p (fun _=>none) F w
 lt:∀ j,F j→j < w.heap.size
theorem now_nil (w:World) : Now [] (fun _=>False) w :=
 ⟨⟨[],rfl,(fun i a f h=>by cases h),(fun i j f f' _ h=>by cases h),fun x=>⟨fun h=>h.elim,fun ⟨i,f,h,_⟩=>by cases h⟩⟩,fun j h=>h.elim⟩
theorem now_cons {a:Asr} {l:List Asr} {Fa F:Nat→Prop} {w:World} (ha:a.p (fun _=>none) Fa w) (hl:Now l F w) (hlt:∀ j,Fa j→j < w.heap.size) (hd:∀ j,Fa j→¬ F j) : Now (a::l) (fun j=>Fa j∨F j) w:=by
 obtain ⟨⟨Fs,h1,h2,h3,h4⟩,h5⟩:=hl
 refine ⟨⟨Fa::Fs,by simp [h1],fun i b f k1 k2=>?_,fun i j f f' hij k1 k2 x hx hx'=>?_,fun x=>⟨fun h=>?_,fun ⟨i,f,k1,k2⟩=>?_⟩⟩,fun j hj=>hj.elim (hlt j) (h5 j)⟩
 ·cases i with
  | zero=>cases k1; cases k2; exact ha
  | succ i=>exact h2 i b f (by simpa using k1) (by simpa using k2)
 ·cases i with
  | zero =>
   cases j with
   | zero=>exact hij rfl
   | succ j =>
    cases k1
    exact hd x hx ((h4 x).2 ⟨j,f',by simpa using k2,hx'⟩)
  | succ i =>
   cases j with
   | zero =>
    cases k2
    exact hd x hx' ((h4 x).2 ⟨i,f,by simpa using k1,hx⟩)
   | succ j=>exact h3 i j f f' (fun e=>hij (by rw [e])) (by simpa using k1) (by simpa using k2) x hx hx'
 ·rcases h with h | h
  ·exact ⟨0,Fa,rfl,h⟩
  ·obtain ⟨i,f,k1,k2⟩:=(h4 x).1 h
   exact ⟨i+1,f,by simpa using k1,k2⟩
 ·cases i with
  | zero=>cases k1; exact .inl k2
  | succ i=>exact .inr ((h4 x).2 ⟨i,f,by simpa using k1,k2⟩)
theorem now_uncons {a:Asr} {l:List Asr} {F:Nat→Prop} {w:World} (h:Now (a::l) F w) : ∃ Fa Fl,a.p (fun _=>none) Fa w∧Now l Fl w∧(∀ j,Fa j→¬ Fl j)∧∀ j,F j↔Fa j∨Fl j:=by
 obtain ⟨⟨Fs,h1,h2,h3,h4⟩,h5⟩:=h
 match Fs,h1 with
 | Fa::Fs,h1 =>
  refine ⟨Fa,fun j=>∃ (i:Nat) (f:Nat→Prop),Fs[i]? = some f∧f j,h2 0 a Fa rfl rfl,⟨⟨Fs,by simpa using h1,fun i b f k1 k2=>h2 (i+1) b f (by simpa using k1) (by simpa using k2),fun i j f f' hij k1 k2=>h3 (i+1) (j+1) f f' (by omega) (by simpa using k1) (by simpa using k2),fun x=>Iff.rfl⟩,fun j ⟨i,f,k1,k2⟩=>h5 j ((h4 j).2 ⟨i+1,f,by simpa using k1,k2⟩)⟩,fun j hj ⟨i,f,k1,k2⟩=>h3 0 (i+1) Fa f (by omega) rfl (by simpa using k1) j hj k2,fun j=>⟨fun hj=>?_,fun hj=>?_⟩⟩
  ·obtain ⟨i,f,k1,k2⟩:=(h4 j).1 hj
   cases i with
   | zero=>cases k1; exact .inl k2
   | succ i=>exact .inr ⟨i,f,by simpa using k1,k2⟩
  ·rcases hj with hj | ⟨i,f,k1,k2⟩
   ·exact (h4 j).2 ⟨0,Fa,rfl,hj⟩
   ·exact (h4 j).2 ⟨i+1,f,by simpa using k1,k2⟩
end Go.Ev
namespace Go.Ev
open Go.RowKit
set_option linter.unusedVariables false
set_option linter.unusedSimpArgs false
set_option linter.unusedSectionVars false
structure Ctx where
 W:World
 X:Nat→Prop
def blkA (b:Nat) (cs:List Value) (T:TypeId) : Asr where
 p:=fun _ F w=>(∀ j,F j↔j=b)∧w.heap[b]? = some (.cells cs.toArray T (0,0))
 keep:=fun _ F w w' hk ⟨h1,h2⟩=>⟨h1,(hk b ((h1 b).2 rfl)).trans h2⟩
 mono:=fun _ _ _ _ _ h=>h
def nilA:Asr where
 p:=fun _ F _=>∀ j,¬ F j
 keep:=fun _ _ _ _ _ h=>h
 mono:=fun _ _ _ _ _ h=>h
theorem now_same {l:List Asr} {F G:Nat→Prop} {w:World} (h:Now l F w) (e:∀ j,F j↔G j) : Now l G w:=by
 rw [← show F=G from funext fun j=>propext (e j)]
 exact h
theorem now_append:∀ {l m:List Asr} {F G:Nat→Prop} {w:World},Now l F w→Now m G w→(∀ j,F j→¬ G j)→Now (l++m) (fun j=>F j∨G j) w:=by
 intro l
 induction l with
 | nil =>
  intro m F G w h1 h2 hd
  refine now_same h2 (fun j=>⟨.inr,fun h=>h.elim (fun h=>?_) id⟩)
  obtain ⟨⟨Fs,e1,e2,e3,e4⟩,_⟩:=h1
  obtain ⟨i,f,k1,k2⟩:=(e4 j).1 h
  have:Fs=[]:=List.eq_nil_of_length_eq_zero e1
  rw [this] at k1
  cases k1
 | cons a l ih =>
  intro m F G w h1 h2 hd
  obtain ⟨Fa,Fl,k1,k2,k3,k4⟩:=now_uncons h1
  refine now_same (now_cons k1 (ih k2 h2 (fun j hj=>hd j ((k4 j).2 (.inr hj)))) (fun j hj=>h1.lt j ((k4 j).2 (.inl hj))) (fun j hj hh=>hh.elim (k3 j hj) (hd j ((k4 j).2 (.inl hj))))) (fun j=>?_)
  rw [k4 j]
  exact ⟨fun h=>h.elim (fun h=>.inl (.inl h)) (fun h=>h.elim (fun h=>.inl (.inr h)) .inr),fun h=>h.elim (fun h=>h.elim .inl (fun h=>.inr (.inl h))) (fun h=>.inr (.inr h))⟩
theorem now_split:∀ {l m:List Asr} {F:Nat→Prop} {w:World},Now (l++m) F w→∃ F1 F2,Now l F1 w∧Now m F2 w∧(∀ j,F1 j→¬ F2 j)∧∀ j,F j↔F1 j∨F2 j:=by
 intro l
 induction l with
 | nil=>intro m F w h; exact ⟨fun _=>False,F,now_nil w,h,fun _ h=>h.elim,fun j=>⟨.inr,fun h=>h.elim False.elim id⟩⟩
 | cons a l ih =>
  intro m F w h
  obtain ⟨Fa,Fl,k1,k2,k3,k4⟩:=now_uncons h
  obtain ⟨F1,F2,e1,e2,e3,e4⟩:=ih k2
  refine ⟨fun j=>Fa j∨F1 j,F2,now_cons k1 e1 (fun j hj=>h.lt j ((k4 j).2 (.inl hj))) (fun j hj hh=>k3 j hj ((e4 j).2 (.inl hh))),e2,fun j hj hh=>hj.elim (fun hj=>k3 j hj ((e4 j).2 (.inr hh))) (fun hj=>e3 j hj hh),fun j=>?_⟩
  rw [k4 j,e4 j]
  exact ⟨fun h=>h.elim (fun h=>.inl (.inl h)) (fun h=>h.elim (fun h=>.inl (.inr h)) .inr),fun h=>h.elim (fun h=>h.elim .inl (fun h=>.inr (.inl h))) (fun h=>.inr (.inr h))⟩
theorem now_keep {l:List Asr} {F:Nat→Prop} {w w':World} (h:Now l F w) (hk:∀ j,F j→w'.heap[j]? = w.heap[j]?) (hs:w.heap.size≤w'.heap.size) : Now l F w' :=
 ⟨(star l).keep _ F w w' hk h.st,fun j hj=>Nat.lt_of_lt_of_le (h.lt j hj) hs⟩
noncomputable def memB (i:Nat) : List Nat→Bool
 | []=>false
 | j::l=>Nat.beq i j || memB i l
theorem memB_mem {i:Nat} : ∀ {l:List Nat},memB i l=false→i ∉ l
 | [],_,h=>by cases h
 | j::l,h,hm=>by
  have h':(Nat.beq i j || memB i l)=false:=h
  rw [Bool.or_eq_false_iff] at h'
  rcases List.mem_cons.1 hm with e | hm
  ·subst e
   rw [Nat.beq_refl] at h'
   cases h'.1
  ·exact memB_mem h'.2 hm
noncomputable def selB (n:Nat) : List Nat→Bool
 | []=>true
 | i::l=>Nat.blt i n && (!(memB i l) && selB n l)
theorem selB_ok {n:Nat} : ∀ {l:List Nat},selB n l=true→(∀ i ∈ l,i < n)∧l.Nodup
 | [],_=>⟨(fun i h=>by cases h),List.nodup_nil⟩
 | i::l,h=>by
  have h':(Nat.blt i n && (!(memB i l) && selB n l))=true:=h
  simp only [Bool.and_eq_true,Bool.not_eq_true'] at h'
  obtain ⟨k1,k2⟩:=selB_ok h'.2.2
  refine ⟨fun j hj=>?_,List.nodup_cons.2 ⟨memB_mem h'.2.1,k2⟩⟩
  rcases List.mem_cons.1 hj with rfl | hj
  ·exact Nat.le_of_ble_eq_true h'.1
  ·exact k1 j hj
def sel (l:List Asr) (idx:List Nat) : List Asr:=idx.map fun i=>l.getD i nilA
theorem now_sel {l:List Asr} {F:Nat→Prop} {w:World} (h:Now l F w) (idx:List Nat) (hi:selB l.length idx=true) : ∃ F',Now (sel l idx) F' w∧∀ j,F' j→F j:=by
 obtain ⟨h1,h2⟩:=selB_ok hi
 obtain ⟨⟨Fs,q⟩,lt⟩:=h
 have key:∀ (i:Nat) f,(idx.map fun i=>Fs.getD i (fun _=>False))[i]? = some f→∃ k,idx[i]? = some k∧Fs[k]? = some f:=by
  intro i f hf
  rw [List.getElem?_map] at hf
  cases hk:idx[i]? with
  | none=>rw [hk] at hf; cases hf
  | some k =>
   rw [hk] at hf
   have hlt:k < Fs.length:=by rw [q.len]; exact h1 k (List.mem_of_getElem? hk)
   refine ⟨k,rfl,?_⟩
   rw [List.getElem?_eq_getElem hlt]
   have:Fs.getD k (fun _=>False)=f:=Option.some.inj hf
   rw [List.getD_eq_getElem?_getD,List.getElem?_eq_getElem hlt] at this
   exact congrArg some this
 refine ⟨fun x=>∃ (i:Nat) (f:Nat→Prop),(idx.map fun i=>Fs.getD i (fun _=>False))[i]? = some f∧f x,⟨⟨idx.map fun i=>Fs.getD i (fun _=>False),by simp [sel],fun i a f k1 k2=>?_,fun i j f f' hij k1 k2 x hx hx'=>?_,fun x=>Iff.rfl⟩,?_⟩,?_⟩
 ·obtain ⟨k,e1,e2⟩:=key i f k2
  unfold sel at k1
  rw [List.getElem?_map,e1] at k1
  have hlt:k < l.length:=h1 k (List.mem_of_getElem? e1)
  have:l.getD k nilA=a:=Option.some.inj k1
  rw [List.getD_eq_getElem?_getD,List.getElem?_eq_getElem hlt] at this
  exact q.holds k a f (by rw [List.getElem?_eq_getElem hlt]; exact congrArg some this) e2
 ·obtain ⟨k,e1,e2⟩:=key i f k1
  obtain ⟨k',e1',e2'⟩:=key j f' k2
  refine q.apart k k' f f' (fun e=>hij ?_) e2 e2' x hx hx'
  subst e
  exact (List.getElem?_inj (List.getElem?_eq_some_iff.1 e1).1 h2).1 (e1.trans e1'.symm)
 ·rintro j ⟨i,f,k1,k2⟩
  obtain ⟨k,e1,e2⟩:=key i f k1
  exact lt j ((q.all j).2 ⟨k,f,e2,k2⟩)
 ·rintro j ⟨i,f,k1,k2⟩
  obtain ⟨k,e1,e2⟩:=key i f k1
  exact (q.all j).2 ⟨k,f,e2,k2⟩
structure Hold (c:Ctx) (l:List Asr) (w:World) : Prop where
 ex:∃ F,Now l F w∧Turn c.X c.W w∧∀ j,F j→c.X j∨c.W.heap.size≤j
theorem Hold.start {l:List Asr} {F:Nat→Prop} {w:World} (h:Now l F w) : Hold ⟨w,F⟩ l w:=⟨⟨F,h,⟨rfl,rfl,rfl,Nat.le_refl _,fun _ _ _=>rfl⟩,fun _ h=>.inl h⟩⟩
theorem Hold.sel {c:Ctx} {l:List Asr} {w:World} (h:Hold c l w) (idx:List Nat) (hi:selB l.length idx=true) : Hold c (Ev.sel l idx) w:=by
 obtain ⟨F,h1,h2,h3⟩:=h.ex
 obtain ⟨F',k1,k2⟩:=now_sel h1 idx hi
 exact ⟨⟨F',k1,h2,fun j hj=>h3 j (k2 j hj)⟩⟩
theorem Hold.head {c:Ctx} {a b:Asr} {l:List Asr} {w:World} (h:Hold c (a::l) w) (hab:∀ f,a.p (fun _=>none) f w→b.p (fun _=>none) f w) : Hold c (b::l) w:=by
 obtain ⟨F,h1,h2,h3⟩:=h.ex
 obtain ⟨Fa,Fl,k1,k2,k3,k4⟩:=now_uncons h1
 exact ⟨⟨F,now_same (now_cons (hab Fa k1) k2 (fun j hj=>h1.lt j ((k4 j).2 (.inl hj))) k3) (fun j=>(k4 j).symm),h2,h3⟩⟩
theorem Hold.headE {c:Ctx} {a:Asr} {l:List Asr} {w:World} {β:Type} {b:β→Asr} {p:β→Prop} (h:Hold c (a::l) w) (hab:∀ f,a.p (fun _=>none) f w→∃ x,p x∧(b x).p (fun _=>none) f w) : ∃ x,p x∧Hold c (b x::l) w:=by
 obtain ⟨F,h1,h2,h3⟩:=h.ex
 obtain ⟨Fa,Fl,k1,k2,k3,k4⟩:=now_uncons h1
 obtain ⟨x,hx,k1'⟩:=hab Fa k1
 exact ⟨x,hx,⟨⟨F,now_same (now_cons k1' k2 (fun j hj=>h1.lt j ((k4 j).2 (.inl hj))) k3) (fun j=>(k4 j).symm),h2,h3⟩⟩⟩
theorem Hold.first {c:Ctx} {a:Asr} {l:List Asr} {w:World} (h:Hold c (a::l) w) : ∃ f,a.p (fun _=>none) f w:=by
 obtain ⟨F,h1,h2,h3⟩:=h.ex
 obtain ⟨Fa,Fl,k1,k2,k3,k4⟩:=now_uncons h1
 exact ⟨Fa,k1⟩
theorem Hold.into {c:Ctx} {l m:List Asr} {F:Nat→Prop} {w w':World} (h:Hold ⟨w,F⟩ m w') (hc:Turn c.X c.W w) (hF:∀ j,F j→c.X j∨c.W.heap.size≤j) : Hold c m w':=by
 obtain ⟨G,h1,h2,h3⟩:=h.ex
 refine ⟨⟨G,h1,⟨h2.os.trans hc.os,h2.tape.trans hc.tape,h2.output.trans hc.output,Nat.le_trans hc.size h2.size,fun j hj hn=>?_⟩,fun j hj=>?_⟩⟩
 ·refine (h2.block j (Nat.lt_of_lt_of_le hj hc.size) (fun hf=>?_)).trans (hc.block j hj hn)
  rcases hF j hf with h | h
  ·exact hn h
  ·omega
 ·rcases h3 j hj with h | h
  ·exact hF j h
  ·exact .inr (Nat.le_trans hc.size h)
theorem Hold.below {c:Ctx} {l:List Asr} {w:World} (h:Hold c l w) (hX:∀ j,¬ c.X j) : Below c.W.heap.size c.W w:=by
 obtain ⟨F,h1,h2,h3⟩:=h.ex
 exact ⟨h2.os,h2.tape,h2.output,h2.size,fun j hj=>h2.block j hj (hX j)⟩
end Go.Ev
namespace Go.Ev
open Go.RowKit
set_option linter.unusedVariables false
set_option linter.unusedSimpArgs false
set_option linter.unusedSectionVars false
end Go.Ev
namespace Go.Ev
open Go.RowKit
set_option linter.unusedVariables false
set_option linter.unusedSimpArgs false
set_option linter.unusedSectionVars false
theorem Hold.frame {m r:List Asr} {F G:Nat→Prop} {w w':World} (h:Hold ⟨w,F⟩ m w') (hr:Now r G w) (hd:∀ j,F j→¬ G j) : Hold ⟨w,fun j=>F j∨G j⟩ (m++r) w':=by
 obtain ⟨F',h1,h2,h3⟩:=h.ex
 have hr':=now_keep hr (fun j hj=>h2.block j (hr.lt j hj) (fun hf=>hd j hf hj)) h2.size
 refine ⟨⟨_,now_append h1 hr' (fun j hj hg=>?_),⟨h2.os,h2.tape,h2.output,h2.size,fun j hj hn=>h2.block j hj (fun hf=>hn (.inl hf))⟩,fun j hj=>hj.elim (fun hj=>(h3 j hj).imp .inl id) (fun hj=>.inl (.inr hj))⟩⟩
 rcases h3 j hj with h | h
 ·exact hd j h hg
 ·have h0:w.heap.size≤j:=h
  have:=hr.lt j hg
  omega
def slA (e:TypeId) (sz:Nat) (v:Value) (n:Nat) (xs:List Value) : Asr where
 p:=fun _ F w=>SlV e sz v n xs F w
 keep:=fun _ F w w' hk h=>h.keep hk
 mono:=fun _ _ _ _ _ h=>h
section rows
variable {P:Program} {g g':Nat} {l:List Asr} {ci:Nat} {t e:TypeId} {sL sI sP sQ sV n sz m:Nat} {v:Value} {xs:List Value} {i:TypeInfo}
theorem slv_ptr {sz n m:Nat} {v:Value} {xs:List Value} {F:Nat→Prop} {w:World} (h:SlV e sz v n xs F w) (hm:m < n * sz) : ∃ b off c,v=.slice (some ⟨b,off,none⟩) n c∧ptrR v m=.pointer (some ⟨b,off+m,none⟩)∧F b∧w.cell? ⟨b,off+m,none⟩=xs[m]?∧w.frozen? ⟨b,off+m,none⟩=false:=by
 obtain ⟨h1,⟨_,rfl,hF⟩ | ⟨b,off,c,arr,rfl,hF,hb0,hx,hsz,hnc⟩⟩:=h
 ·simp at hm
 ·exact ⟨b,off,c,rfl,rfl,(hF b).2 rfl,by rw [← hx m hm]; simp [World.cell?,hb0],by simp [World.frozen?,hb0]⟩
theorem turn_set {b o:Nat} {x:Value} {w:World} {F:Nat→Prop} (h:F b) : Turn F w (w.setCell ⟨b,o,none⟩ x):=by
 have hs:=@setCells_below noSig (base:=fun _=>False) (b:=b) (fun h=>h) [x] o w
 exact ⟨hs.os,hs.tape,hs.output,by have:=@setCells_size noSig b [x] o w; exact Nat.le_of_eq this.symm,fun j hj hn=>@setCells_other noSig b [x] o w j (fun (e:j=b)=>hn (e ▸ h))⟩
end rows
end Go.Ev
namespace Go.Ev
open Go.RowKit
set_option linter.unusedVariables false
set_option linter.unusedSimpArgs false
end Go.Ev
namespace Go.Ev
open Go.RowKit
set_option linter.unusedVariables false
set_option linter.unusedSimpArgs false
set_option linter.unusedSectionVars false
theorem SlV.ro {e:TypeId} {sz n:Nat} {v:Value} {xs:List Value} {F:Nat→Prop} {w:World} (h:SlV e sz v n xs F w) : SlR sz v n xs w:=by
 obtain ⟨h1,⟨he,h2,_⟩ | ⟨b,off,c,arr,rfl,hF,hb0,hx,hsz,hnc⟩⟩:=h
 ·obtain ⟨a,rfl⟩:=he.base
  exact ⟨h1,.inl ⟨h2,_,_,rfl⟩⟩
 ·refine ⟨h1,.inr ⟨b,off,c,rfl,⟨(Array.getElem?_eq_some_iff.1 hb0).1,hnc⟩,fun j hj=>?_⟩⟩
  rw [← hx j hj]
  simp [World.cell?,hb0]
end Go.Ev
namespace Go.Ev
open Go.RowKit
set_option linter.unusedVariables false
set_option linter.unusedSimpArgs false
set_option linter.unusedSectionVars false
theorem Hold.nilSl {e:TypeId} {sz:Nat} {c:Ctx} {l:List Asr} {w:World} (h:Hold c l w) : Hold c (slA e sz (.slice none 0 0) 0 []::l) w:=by
 obtain ⟨F,h1,h2,h3⟩:=h.ex
 refine ⟨⟨_,now_cons (a:=slA e sz (.slice none 0 0) 0 []) (SlV.nil e sz w) h1 (fun j hj=>hj.elim) (fun j hj=>hj.elim),h2,fun j hj=>hj.elim (fun h=>h.elim) (h3 j)⟩⟩
def cutV (sz:Nat) (v:Value) (lo hi:Nat) : Value :=
 match v with
 | .slice none _ c=>.slice none (hi - lo) (c - lo)
 | .slice (some a) _ c=>.slice (some (if c=lo then a else a.add (lo * sz))) (hi - lo) (c - lo)
 | v=>v
theorem cutV_leaf {sz lo hi:Nat} {v:Value} (h:leafV v=true) : leafV (cutV sz v lo hi)=true:=by
 unfold cutV
 split
 ·rfl
 ·rfl
 ·exact h
theorem SlR.cut {sz n lo hi:Nat} {v:Value} {xs:List Value} {w0:World} (h:SlR sz v n xs w0) (h1:lo≤hi) (h2:hi≤n) : SlR sz (cutV sz v lo hi) (hi - lo) ((xs.drop (lo * sz)).take ((hi - lo) * sz)) w0:=by
 obtain ⟨hl,hv⟩:=h
 have e1:=Nat.mul_le_mul_right sz h1
 have e2:=Nat.mul_le_mul_right sz h2
 have e3:(hi - lo) * sz=hi * sz - lo * sz:=Nat.sub_mul ..
 have hlen:((xs.drop (lo * sz)).take ((hi - lo) * sz)).length=(hi - lo) * sz:=by
  rw [List.length_take,List.length_drop,hl]
  omega
 refine ⟨hlen,?_⟩
 rcases hv with ⟨rfl,a,c,rfl⟩ | ⟨b,off,c,rfl,⟨hb,hc⟩,hx⟩
 ·obtain rfl:hi=0:=by omega
  obtain rfl:lo=0:=by omega
  refine .inl ⟨rfl,?_⟩
  cases a with
  | none=>exact ⟨_,_,rfl⟩
  | some a=>exact ⟨_,_,rfl⟩
 ·by_cases e0:hi - lo=0
  ·refine .inl ⟨e0,?_⟩
   unfold cutV
   simp only [e0]
   exact ⟨_,_,rfl⟩
  ·have hne:¬ c=lo:=by omega
   refine .inr ⟨b,off+lo * sz,c - lo,?_,⟨hb,by omega⟩,fun j hj=>?_⟩
   ·unfold cutV
    simp only [if_neg hne,addMk]
   ·rw [Nat.add_assoc,hx _ (by omega),List.getElem?_take,if_pos hj,List.getElem?_drop]
section cuts
variable {P:Program} {g:Nat} {t e:TypeId} {sL sA sB sV n sz lo hi:Nat} {v:Value} {xs:List Value} {w0:World} {i:TypeInfo} {kd kd':IntKind}
theorem cut_run {lov hiv:Option Value} (hlo:lov=none∧lo=0∨lov=some (.int kd (lo:Int))) (hhi:hiv=some (.int kd' (hi:Int))) (hs:SlR sz v n xs w0) (ht:P.underlying t=some (.slice e)) (hinf:P.info? e=some i) (hsz:i.size=sz) (h1:lo≤hi) (h2:hi≤n) (w:World) :
  (Instr.sliceAt t v lov hiv none).run P w=.ok (cutV sz v lo hi) w:=by
 subst hsz
 subst hhi
 have hbd:∀ c:Nat,n≤c→(Instr.sliceBounds true n c lov (some (.int kd' (hi:Int))) none).run P w=.ok (lo,hi,c) w:=by
  intro c hc
  have e1:(hi:Int)≤(c:Int):=by omega
  have e2:(lo:Int)≤(hi:Int):=by omega
  rcases hlo with ⟨rfl,rfl⟩ | rfl
  ·simp [Instr.sliceBounds,run_sliceBound,e1]
  ·simp [Instr.sliceBounds,run_sliceBound,e1,e2]
 have hs':(Instr.sliceAt t v lov (some (.int kd' (hi:Int))) none).run P w=(Instr.slice t v lov (some (.int kd' (hi:Int))) none).run P w:=by
  simp [Instr.sliceAt,run_underlying ht]
 rw [hs']
 obtain ⟨hl,⟨rfl,a,c,rfl⟩ | ⟨b,off,c,rfl,⟨hb,hc⟩,hx⟩⟩:=hs
 ·obtain rfl:hi=0:=by omega
  obtain rfl:lo=0:=by omega
  cases a with
  | none =>
   simp only [Instr.slice,Sem.run_bind,run_underlying ht,Result.andThen]
   rw [hbd c (Nat.zero_le _)]
   simp [sizeOf,typeInfo,hinf,cutV]
  | some a =>
   simp only [Instr.slice,Sem.run_bind,run_underlying ht,Result.andThen]
   rw [hbd c (Nat.zero_le _)]
   by_cases e0:c=0 <;> simp [sizeOf,typeInfo,hinf,cutV,e0]
 ·simp only [Instr.slice,Sem.run_bind,run_underlying ht,Result.andThen]
  rw [hbd c hc]
  by_cases e0:c=lo <;> simp [sizeOf,typeInfo,hinf,cutV,e0]
end cuts
end Go.Ev
namespace Go.Ev
open Go.RowKit
set_option linter.unusedVariables false
set_option linter.unusedSimpArgs false
set_option linter.unusedSectionVars false
def grp (l:List Asr) : Asr where
 p:=fun _ F w=>Now l F w
 keep:=fun _ F w w' hk h=>⟨(star l).keep _ F w w' hk h.st,fun j hj=>by
  have h1:=hk j hj
  rw [Array.getElem?_eq_getElem (h.lt j hj)] at h1
  exact (Array.getElem?_eq_some_iff.1 h1).1⟩
 mono:=fun _ _ _ _ _ h=>h
def exA {β:Type} (q:β→Prop) (a:β→Asr) : Asr where
 p:=fun ι F w=>∃ x,q x∧(a x).p ι F w
 keep:=fun ι F w w' hk ⟨x,h1,h2⟩=>⟨x,h1,(a x).keep ι F w w' hk h2⟩
 mono:=fun ι κ F w hle ⟨x,h1,h2⟩=>⟨x,h1,(a x).mono ι κ F w hle h2⟩
theorem now_open {l m:List Asr} {F:Nat→Prop} {w:World} (h:Now (grp l::m) F w) : Now (l++m) F w:=by
 obtain ⟨Fa,Fl,k1,k2,k3,k4⟩:=now_uncons h
 exact now_same (now_append k1 k2 k3) (fun j=>(k4 j).symm)
theorem now_shut {l m:List Asr} {F:Nat→Prop} {w:World} (h:Now (l++m) F w) : Now (grp l::m) F w:=by
 obtain ⟨F1,F2,h1,h2,h3,h4⟩:=now_split h
 exact now_same (now_cons (a:=grp l) h1 h2 (fun j hj=>h1.lt j hj) h3) (fun j=>(h4 j).symm)
theorem now_ex {β:Type} {q:β→Prop} {a:β→Asr} {m:List Asr} {F:Nat→Prop} {w:World} (h:Now (exA q a::m) F w) : ∃ x,q x∧Now (a x::m) F w:=by
 obtain ⟨Fa,Fl,⟨x,hx,k1⟩,k2,k3,k4⟩:=now_uncons h
 exact ⟨x,hx,now_same (now_cons k1 k2 (fun j hj=>h.lt j ((k4 j).2 (.inl hj))) k3) (fun j=>(k4 j).symm)⟩
section
variable {c:Ctx} {l m:List Asr} {w:World}
theorem Hold.open (h:Hold c (grp l::m) w) : Hold c (l++m) w:=by
 obtain ⟨F,h1,h2,h3⟩:=h.ex
 exact ⟨⟨F,now_open h1,h2,h3⟩⟩
theorem Hold.shut (h:Hold c (l++m) w) : Hold c (grp l::m) w:=by
 obtain ⟨F,h1,h2,h3⟩:=h.ex
 exact ⟨⟨F,now_shut h1,h2,h3⟩⟩
theorem Hold.getX {β:Type} {q:β→Prop} {a:β→Asr} (h:Hold c (exA q a::m) w) : ∃ x,q x∧Hold c (a x::m) w:=by
 obtain ⟨F,h1,h2,h3⟩:=h.ex
 obtain ⟨x,hx,k⟩:=now_ex h1
 exact ⟨x,hx,⟨⟨F,k,h2,h3⟩⟩⟩
theorem Hold.putX {β:Type} {q:β→Prop} {a:β→Asr} (x:β) (hx:q x) (h:Hold c (a x::m) w) : Hold c (exA q a::m) w:=h.head (fun F hF=>⟨x,hx,hF⟩)
end
end Go.Ev
namespace Go.Ev
open Go.RowKit
set_option linter.unusedVariables false
set_option linter.unusedSimpArgs false
set_option linter.unusedSectionVars false
section
variable {P:Program} {g g':Nat} {l:List Asr} {ci:Nat} {t u e:TypeId} {sL sS sV n sz m:Nat} {v:Value} {xs:List Value} {i:TypeInfo} {z:Value}
theorem SlR.src {e':Nat} {w:World} (h:SlR sz v m xs w) (hu:P.underlying u=some (.slice e')) (h1:∀ x ∈ xs,x.oneCell'=true) : Src P sz u v m xs w:=by
 obtain ⟨hl,⟨rfl,a,c,rfl⟩ | ⟨b,off,c,rfl,⟨hb,hc⟩,hx⟩⟩:=h
 ·have:xs=[]:=List.eq_nil_of_length_eq_zero (by rw [hl]; simp)
  subst this
  cases a with
  | none=>exact Src.ofNil w hu c
  | some a=>exact Src.ofSlice w hu a 0 c [] (by simp) (fun j x h=>by simp at h) (fun x h=>by cases h)
 ·refine Src.ofSlice w hu ⟨b,off,none⟩ m c xs hl (fun j x hj=>?_) h1
  rw [addMk,hx j (by rw [← hl]; exact (List.getElem?_eq_some_iff.1 hj).1),hj]
theorem one_ints {kd:IntKind} {zs:List Int} : ∀ x ∈ zs.map (Value.int kd),x.oneCell'=true:=by
 intro x hx
 obtain ⟨z,_,rfl⟩:=List.mem_map.1 hx
 rfl
end
end Go.Ev
namespace Go.Ev
open Go.RowKit
set_option linter.unusedVariables false
set_option linter.unusedSimpArgs false
set_option linter.unusedSectionVars false
section
variable {P:Program} {g g':Nat} {l:List Asr} {t e:TypeId} {n sz:Nat} {i:TypeInfo} {z:Value}
theorem grown_below {w w':World} (h:w.grownBy w' none) : Below w.heap.size w w':=⟨h.os,h.tape,h.output,h.size,fun j hj=>h.block j hj (by simp)⟩
end
end Go.Ev
namespace Go.Ev
open Go.RowKit
end Go.Ev
namespace Go.Ev
open Go.RowKit
end Go.Ev
namespace Go.Ev
open Go.RowKit
end Go.Ev
namespace Go.Ev
open Go.RowKit
end Go.Ev
namespace Go.Ev
open Go.RowKit
set_option linter.unusedVariables false
set_option linter.unusedSimpArgs false
end Go.Ev
namespace Go.Ev
open Go.RowKit
set_option linter.unusedVariables false
set_option linter.unusedSimpArgs false
abbrev iz (n:Int) : Value:=.int .i64 n
abbrev uz (n:Int) : Value:=.int .u64 n
abbrev iN (n:Nat) : Value:=.int .i64 (n:Int)
end Go.Ev
namespace Go.Ev
open Go.RowKit
set_option linter.unusedVariables false
set_option linter.unusedSimpArgs false
end Go.Ev
namespace Go.Ev
open Go.RowKit
set_option linter.unusedVariables false
set_option linter.unusedSimpArgs false
set_option linter.unusedSectionVars false
section
variable {P:Program} {g g':Nat} {l:List Asr} {ci:Nat} {t u e:TypeId} {sL sS sB sV n sz m hi:Nat} {v vs:Value} {xs cs:List Value} {i:TypeInfo} {z:Value}
theorem SlV.cut0 {F:Nat→Prop} {w:World} (h:SlV e sz v n xs F w) (h2:hi≤n) : SlV e sz (cutV sz v 0 hi) hi (xs.take (hi * sz)) F w:=by
 obtain ⟨h1,h3⟩:=h
 have hle:=Nat.mul_le_mul_right sz h2
 refine ⟨by rw [List.length_take,h1]; omega,?_⟩
 rcases h3 with ⟨he,rfl,hF⟩ | ⟨b,off,c,arr,rfl,hF,hb0,hx,hs,hnc⟩
 ·obtain rfl:hi=0:=by omega
  refine .inl ⟨?_,rfl,hF⟩
  rcases he with rfl | ⟨b,off,rfl⟩
  ·exact .inl rfl
  ·exact .inr ⟨b,off,rfl⟩
 ·refine .inr ⟨b,off,c,arr,?_,hF,hb0,fun k hk=>?_,hs,by omega⟩
  ·unfold cutV
   simp only [addMk,Nat.zero_mul,Nat.add_zero,Nat.sub_zero,ite_self]
  ·rw [hx k (by omega),List.getElem?_take,if_pos hk]
theorem Hold.cut0 {c:Ctx} {l:List Asr} {w:World} (h:Hold c (slA e sz v n xs::l) w) (h2:hi≤n) : Hold c (slA e sz (cutV sz v 0 hi) hi (xs.take (hi * sz))::l) w:=h.head (fun F h=>SlV.cut0 h h2)
end
end Go.Ev
namespace Go.Ev
open Go.RowKit
set_option linter.unusedVariables false
set_option linter.unusedSimpArgs false
set_option linter.unusedSectionVars false
section
variable {P:Program} {g:Nat} {l:List Asr} {ci:Nat} {t e:TypeId} {sL sA sV n sz lo:Nat} {v:Value} {xs:List Value} {w0:World} {i:TypeInfo} {kd:IntKind}
theorem cut_runLo (hs:SlR sz v n xs w0) (ht:P.underlying t=some (.slice e)) (hinf:P.info? e=some i) (hsz:i.size=sz) (h1:lo≤n) (w:World) :
  (Instr.sliceAt t v (some (.int kd (lo:Int))) none none).run P w=.ok (cutV sz v lo n) w:=by
 subst hsz
 have hbd:∀ c:Nat,n≤c→(Instr.sliceBounds true n c (some (.int kd (lo:Int))) none none).run P w=.ok (lo,n,c) w:=by
  intro c hc
  have e2:(lo:Int)≤(n:Int):=by omega
  simp [Instr.sliceBounds,run_sliceBound,e2]
 have hs':(Instr.sliceAt t v (some (.int kd (lo:Int))) none none).run P w=(Instr.slice t v (some (.int kd (lo:Int))) none none).run P w:=by
  simp [Instr.sliceAt,run_underlying ht]
 rw [hs']
 obtain ⟨hl,⟨rfl,a,c,rfl⟩ | ⟨b,off,c,rfl,⟨hb,hc⟩,hx⟩⟩:=hs
 ·obtain rfl:lo=0:=by omega
  cases a with
  | none =>
   simp only [Instr.slice,Sem.run_bind,run_underlying ht,Result.andThen]
   rw [hbd c (Nat.zero_le _)]
   simp [sizeOf,typeInfo,hinf,cutV]
  | some a =>
   simp only [Instr.slice,Sem.run_bind,run_underlying ht,Result.andThen]
   rw [hbd c (Nat.zero_le _)]
   by_cases e0:c=0 <;> simp [sizeOf,typeInfo,hinf,cutV,e0]
 ·simp only [Instr.slice,Sem.run_bind,run_underlying ht,Result.andThen]
  rw [hbd c hc]
  by_cases e0:c=lo <;> simp [sizeOf,typeInfo,hinf,cutV,e0]
theorem SlV.cutLo {F:Nat→Prop} {w:World} (h:SlV e sz v n xs F w) (h2:lo≤n) : SlV e sz (cutV sz v lo n) (n - lo) (xs.drop (lo * sz)) F w:=by
 obtain ⟨h1,h3⟩:=h
 have hle:=Nat.mul_le_mul_right sz h2
 refine ⟨by rw [List.length_drop,h1,Nat.sub_mul],?_⟩
 rcases h3 with ⟨he,rfl,hF⟩ | ⟨b,off,c,arr,rfl,hF,hb0,hx,hs,hnc⟩
 ·obtain rfl:lo=0:=by omega
  refine .inl ⟨?_,rfl,hF⟩
  rcases he with rfl | ⟨b,off,rfl⟩
  ·exact .inl rfl
  ·exact .inr ⟨b,off,by simp [cutV]⟩
 ·have e1:=Nat.mul_le_mul_right sz h2
  have e2:(n - lo) * sz=n * sz - lo * sz:=Nat.sub_mul ..
  have e3:(c - lo) * sz=c * sz - lo * sz:=Nat.sub_mul ..
  have e4:=Nat.mul_le_mul_right sz (Nat.le_trans h2 hnc)
  by_cases e0:c=lo
  ·refine .inr ⟨b,off,c - lo,arr,by simp only [cutV,if_pos e0],hF,hb0,fun i hi=>?_,by omega,by omega⟩
   have:n=lo:=by omega
   subst this
   simp at hi
  ·refine .inr ⟨b,off+lo * sz,c - lo,arr,by simp only [cutV,if_neg e0,addMk],hF,hb0,fun i hi=>?_,by omega,by omega⟩
   rw [Nat.add_assoc,hx _ (by omega),List.getElem?_drop]
theorem Hold.cutLo {c:Ctx} {l:List Asr} {w:World} (h:Hold c (slA e sz v n xs::l) w) (h2:lo≤n) : Hold c (slA e sz (cutV sz v lo n) (n - lo) (xs.drop (lo * sz))::l) w:=h.head (fun F h=>SlV.cutLo h h2)
def fullV (v:Value) : Value :=
 match v with
 | .slice a n _=>.slice a n n
 | v=>v
theorem SlV.full {F:Nat→Prop} {w:World} (h:SlV e sz v n xs F w) (h0:0 < n) : SlV e sz (fullV v) n xs F w:=by
 obtain ⟨h1,⟨_,rfl,_⟩ | ⟨b,off,c,arr,rfl,hF,hb0,hx,hs,hnc⟩⟩:=h
 ·omega
 ·have:=Nat.mul_le_mul_right sz hnc
  exact ⟨h1,.inr ⟨b,off,n,arr,rfl,hF,hb0,hx,by omega,Nat.le_refl _⟩⟩
theorem Hold.full {c:Ctx} {l:List Asr} {w:World} (h:Hold c (slA e sz v n xs::l) w) (h0:0 < n) : Hold c (slA e sz (fullV v) n xs::l) w:=h.head (fun F h=>SlV.full h h0)
end
end Go.Ev
namespace Go.Proofs.YtkmccgombmogmaaGreat
open Go.RowKit
set_option linter.unusedVariables false
theorem mixed_ok:Tryz.prog.follows .mixedOrders=true:=by kernel_rfl
end Go.Proofs.YtkmccgombmogmaaGreat
namespace Go.Proofs.YtkmccgombmogmaaGreat
open Go.RowKit
set_option linter.unusedVariables false
set_option linter.unusedSimpArgs false
theorem info_of {P:Program} {t:TypeId} {z:Value} {n b:Nat} (h:(P.info? t).map (fun i=>(i.zero,i.size,i.bytes))=some (some z,n,b)) (hz:z.cells.size=n) : ∃ i z,P.info? t=some i∧i.size=n∧i.zero=some z∧z.cells.size=i.size∧i.bytes=b:=by
 cases hi:P.info? t with
 | none=>rw [hi] at h; cases h
 | some i =>
  rw [hi] at h
  simp only [Option.map_some,Option.some.injEq,Prod.mk.injEq] at h
  exact ⟨i,z,rfl,h.2.1,h.1,by rw [h.2.1]; exact hz,h.2.2⟩
def u64s (xs:List Int) : List Value:=xs.map (Value.int .u64)
structure MemM where
 cells:List Int
 ops:Int
def memL (bm:Nat) (m:MemM) : (Int×Int×Int×Int×Int×Value×Value×Nat×List Value)→List Ev.Asr
 | (c1,c2,c3,c4,c5,lg,cl,n,xl)=>[Ev.blkA bm [.int .u64 m.ops,.int .u64 c1,.int .u64 c2,.int .u64 c3,.int .u64 c4,.int .u64 c5,lg,cl] 137,Ev.slA 51 1 cl m.cells.length (u64s m.cells),Ev.slA 234 4 lg n xl]
def memA (bm:Nat) (m:MemM) : Ev.Asr:=Ev.exA (fun x:Int×Int×Int×Int×Int×Value×Value×Nat×List Value=>x.2.2.2.2.2.2.2.1≤256) (fun x=>Ev.grp (memL bm m x))
theorem now_one {a:Ev.Asr} {F:Nat→Prop} {w:World} (h:Ev.Now [a] F w) : ∃ Fa,a.p (fun _=>none) Fa w∧∀ j,Fa j→F j:=by
 obtain ⟨Fa,Fl,k1,k2,k3,k4⟩:=Ev.now_uncons h
 exact ⟨Fa,k1,fun j hj=>(k4 j).2 (.inl hj)⟩
def MemM.tick (m:MemM) : MemM:=⟨m.cells,IntKind.u64.wrap (m.ops+1)⟩
def MemM.put (m:MemM) (a:Nat) (v:Int) : MemM:=⟨m.cells.set a v,IntKind.u64.wrap (m.ops+1)⟩
theorem MemM.put_same {m:MemM} {a:Nat} {x:Int} (hx:m.cells[a]? = some x) : m.put a x=m.tick:=by
 obtain ⟨h,rfl⟩:=List.getElem?_eq_some_iff.1 hx
 unfold MemM.put MemM.tick
 rw [List.set_getElem_self]
end Go.Proofs.YtkmccgombmogmaaGreat
namespace Go.Proofs.YtkmccgombmogmaaGreat
open Go.RowKit
set_option linter.unusedVariables false
set_option linter.unusedSimpArgs false
set_option maxRecDepth 8000
theorem info_z {P:Program} {t:TypeId} {z:Value} {n b:Nat} (h:(P.info? t).map (fun i=>(i.zero,i.size,i.bytes))=some (some z,n,b)) : ∃ i,P.info? t=some i∧i.size=n∧i.zero=some z∧i.bytes=b:=by
 cases hi:P.info? t with
 | none=>rw [hi] at h; cases h
 | some i =>
  rw [hi] at h
  simp only [Option.map_some,Option.some.injEq,Prod.mk.injEq] at h
  exact ⟨i,rfl,h.2.1,h.1,h.2.2⟩
theorem infInt:∃ i,Tryz.prog.info? 3 = some i∧i.size=1∧i.zero=some (.int .i64 0)∧i.bytes=8:=info_z (by kernel_rfl)
theorem infU64:∃ i,Tryz.prog.info? 51 = some i∧i.size=1∧i.zero=some (.int .u64 0)∧i.bytes=8:=info_z (by kernel_rfl)
theorem wrap_ok {n:Int} (h1:-9223372036854775808≤n) (h2:n≤9223372036854775807) : IntKind.i64.wrap n=n:=by
 unfold IntKind.wrap
 simp [IntKind.signed,IntKind.bits]
 omega
def ints (xs:List Int) : List Value:=xs.map (Value.int .i64)
theorem hold_leaf {c:Ev.Ctx} {e:TypeId} {sz n:Nat} {v:Value} {xs:List Value} {l:List Ev.Asr} {w:World} (h:Ev.Hold c (Ev.slA e sz v n xs::l) w) : Ev.leafV v=true:=by
 obtain ⟨f,hf⟩:=h.first
 exact Ev.SlV.leaf hf
end Go.Proofs.YtkmccgombmogmaaGreat
namespace Go.Ev
end Go.Ev
