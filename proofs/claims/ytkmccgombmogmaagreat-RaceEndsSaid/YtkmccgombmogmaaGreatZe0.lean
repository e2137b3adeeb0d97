/- Part of a proof: see the last text. -/
import Derived.WalkKit
set_option linter.unusedSectionVars false
set_option linter.unusedSimpArgs false
set_option linter.unusedVariables false
namespace Go.Ev
open Go.RowKit
abbrev am:=Nat->Option Nat
def iF(id:Nat):Bool:=id%4==1
def jf(ι κ:am):Prop:=∀ id b,ι id=some b->κ id=some b
theorem jf.refl(ι:am):jf ι ι:=λ_ _ h=>h
theorem jf.trans{ι κ μ:am}(h:jf ι κ)(k:jf κ μ):jf ι μ:=λ_ _ x=>k _ _ (h _ _ x)
def Cd:Nat->Nat->Nat×Nat
 | 0,n=>(0,n)
 | f+1,n=>if n%2=1 then (0,n / 2) else ((Cd f (n / 2)).1+1,(Cd f (n / 2)).2)
def ln(n:Nat):Nat×Nat:=Cd n n
def zb(x y:Nat):Nat:=2 ^ x*(2*y+1)
theorem DQ(x:Nat):∀ y f,x<f->Cd f (zb x y)=(x,y):=by
 induction x with
 | zero =>
  intro y f hf
  match f,hf with
  | f+1,_ =>
   unfold Cd zb;rw[if_pos (by omega)]
   congr 1
   omega
 | succ x ih =>
  intro y f hf
  match f,hf with
  | f+1,hf =>
   have e:zb (x+1) y=2*zb x y:=by unfold zb;rw[Nat.pow_succ,Nat.mul_comm (2 ^ x) 2,Nat.mul_assoc]
   unfold Cd;rw[e,if_neg (by omega),show 2*zb x y / 2=zb x y by omega,ih y f (by omega)]
theorem uA(x y:Nat):ln (zb x y)=(x,y):=by
 refine DQ x y _ ?_;have h1:x<2 ^ x:=Nat.lt_two_pow_self;have h2:2 ^ x*1<=2 ^ x*(2*y+1):=Nat.mul_le_mul_left _ (by omega);unfold zb;omega
def dec(c:Nat):Value :=
 match (ln c).1 with
 | 0=>.slice (some ⟨(ln (ln c).2).1,(ln (ln (ln c).2).2).1,none⟩) (ln (ln (ln (ln c).2).2).2).1 (ln (ln (ln (ln c).2).2).2).2
 | 1=>.pointer (some ⟨(ln (ln c).2).1,(ln (ln c).2).2,none⟩)
 | 2=>.map (some (ln c).2)
 | 3=>.slice none 0 0
 | 4=>.pointer none
 | 5=>.map none
 | 6=>.int .i64 (if (ln c).2%2=0 then (((ln c).2 / 2:Nat):Int) else-(((ln c).2 / 2:Nat):Int)-1)
 | _=>.int .u64 ((ln c).2:Nat)
theorem l3(b off n c:Nat):dec (zb 0 (zb b (zb off (zb n c))))=.slice (some ⟨b,off,none⟩) n c:=by simp only[dec,uA]
theorem qj(b off:Nat):dec (zb 1 (zb b off))=.pointer (some ⟨b,off,none⟩):=by simp only[dec,uA]
theorem mW:dec (zb 3 0)=.slice none 0 0:=by simp only[dec,uA]
def aV:Value->Bool
 | .bool _ | .agg _ | .tuple _ | .complex _ _ _=>false
 | _=>true
def KT:Value->Bool
 | .bool _ | .agg _ | .tuple _=>false
 | _=>true
theorem nI(c:Nat):aV (dec c)=true:=by
 unfold dec
 split<;>rfl
def OH(j n:Nat):Nat :=
 match j with
 | 0=>(ln n).1
 | 1=>(ln (ln n).2).1
 | 2=>(ln (ln n).2).2
 | 3=>(ln (ln (ln n).2).2).1
 | _=>(ln (ln (ln n).2).2).2
def DR(j:Nat)(v:Value):Value :=
 match v with
 | .int _ n=>dec (OH j n.toNat)
 | _=>.nilIface
theorem oW(j:Nat)(v:Value):aV (DR j v)=true:=by
 unfold DR
 split
 ·exact nI _
 ·rfl
def nG(val:Nat->Value):Value->Value
 | .complex .f64 n _=>val n
 | v=>v
def eG:Value->Bool
 | .bool _ | .int _ _ | .float _ _ | .string _ | .complex .f64 _ _=>true
 | .pointer none | .slice none 0 0 | .map none | .nilFunc | .nilIface=>true
 | _=>false
abbrev GQ:=Nat->Nat->Option (Value×Option Nat)
inductive p_ where
 | now (q:GQ)
 | src (sz j:Nat) (q:List Value->GQ)
 | stay (r:Value)
def p_.q:p_->List Value->GQ
 | .now q,_=>q
 | .src _ _ q,c=>q c
 | .stay r,_=>λ_ _=>some (r,none)
class bg where
  val:Nat->Value
  leaf:∀ n,aV (val n)=true
  bin:BinOp->Value->Value->Option Value
  zf:∀ op x y r,bin op x y=some r->eG x=true/\eG y=true/\eG r=true/\∀ t ox oy,(do eqGuard op t ox oy (nG val x) (nG val y);binOp op t (nG val x) (nG val y):Sem Value)=pure (nG val r)
  Oi:UnOp->Value->Option Value
  zg:∀ op x r,Oi op x=some r->eG x=true/\eG r=true/\Op.unary op (nG val x)=pure (nG val r)
  Oj:IntKind->Value->Option Value
  zh:∀ k x r,Oj k x=some r->eG x=true/\eG r=true/\∃ k0 n,nG val x=.int k0 n/\nG val r=.int k (k.wrap n)
  H3:FuncId->List Value->Option Value
  AY:∀ f l r,H3 f l=some r->eG r=true
  GR:Nat->am->(Nat->Prop)->World->Prop
  uB:∀ g ι F w w',(∀ j,F j->w'.heap[j]? = w.heap[j]?)->GR g ι F w->GR g ι F w'
  uC:∀ g ι κ F w,jf ι κ->GR g ι F w->GR g κ F w
  HZ:Op->List Value->Option p_
  wF:FuncId->List Value->Option GQ
variable[bg]
inductive ao(ι:am):Value->Value->Prop
 | bool (b:Bool):ao ι (.bool b) (.bool b)
 | int (k:IntKind) (n:Int):ao ι (.int k n) (.int k n)
 | float (k:FloatKind) (n:Nat):ao ι (.float k n) (.float k n)
 | sym (n m:Nat) (v':Value) (h:bg.val n=v'):ao ι (.complex .f64 n m) v'
 | dyn (id c:Nat) (v':Value) (h:ι id=some c) (h':dec c=v'):ao ι (.complex .f32 id 0) v'
 | junk (n:Nat) (v':Value) (h:KT v'=true):ao ι (.complex .f32 n 1) v'
 | qD (id c j:Nat) (v':Value) (h:ι id=some c) (h':DR j (dec c)=v'):ao ι (.complex .f32 id (j+2)) v'
 | string (s:ByteArray):ao ι (.string s) (.string s)
 | oX:ao ι (.pointer none) (.pointer none)
 | ptr (id off b:Nat) (h:ι id=some b):ao ι (.pointer (some ⟨id,off,none⟩)) (.pointer (some ⟨b,off,none⟩))
 | dn:ao ι (.slice none 0 0) (.slice none 0 0)
 | slice (id off b n c c':Nat) (h:ι id=some b) (h0:iF id=false->c=c') (h1:iF id=true->c<=c'/\(off=0->ι (id+1)=some c')) (h2:0<c) (h3:n<=c):ao ι (.slice (some ⟨id,off,none⟩) n c) (.slice (some ⟨b,off,none⟩) n c')
 | dz (id off b:Nat) (h:ι id=some b) (h0:iF id=false):ao ι (.slice (some ⟨id,off,none⟩) 0 0) (.slice (some ⟨b,off,none⟩) 0 0)
 | mX:ao ι (.map none) (.map none)
 | map (id b:Nat) (h:ι id=some b):ao ι (.map (some id)) (.map (some b))
 | func (fn:Fn) (f f' c c':Array Value) (hy:∀ l,fn≠.yield l) (hf:f.size=f'.size) (hc:c.size=c'.size)
   (h:∀ (i:Nat) (v v':Value),f[i]? = some v->f'[i]? = some v'->ao ι v v') (h':∀ (i:Nat) (v v':Value),c[i]? = some v->c'[i]? = some v'->ao ι v v'):ao ι (.func fn f c) (.func fn f' c')
 | yield (id b:Nat) (h:ι id=some b):ao ι (.func (.yield id) #[] #[]) (.func (.yield b) #[] #[])
 | nilFunc:ao ι .nilFunc .nilFunc
 | iface (t:TypeId) (v v':Value) (h:ao ι v v'):ao ι (.iface t v) (.iface t v')
 | nilIface:ao ι .nilIface .nilIface
 | agg (f f':Array Value) (hf:f.size=f'.size) (h:∀ (i:Nat) (v v':Value),f[i]? = some v->f'[i]? = some v'->ao ι v v'):ao ι (.agg f) (.agg f')
 | tuple (f f':Array Value) (hf:f.size=f'.size) (h:∀ (i:Nat) (v v':Value),f[i]? = some v->f'[i]? = some v'->ao ι v v'):ao ι (.tuple f) (.tuple f')
def bN(ι:am)(f f':Array Value):Prop:=f.size=f'.size/\∀ (i:Nat) (v v':Value),f[i]? = some v->f'[i]? = some v'->ao ι v v'
theorem ao.mono{ι κ:am}(hk:jf ι κ){v v':Value}(h:ao ι v v'):ao κ v v':=by
 induction h with
 | bool b=>exact .bool b
 | int k n=>exact .int k n
 | float k n=>exact .float k n
 | sym n m v' h=>exact .sym n m v' h
 | dyn id c v' h h'=>exact .dyn id c v' (hk _ _ h) h'
 | junk n v' h=>exact .junk n v' h
 | qD id c j v' h h'=>exact .qD id c j v' (hk _ _ h) h'
 | string s=>exact .string s
 | oX=>exact .oX
 | ptr id off b h=>exact .ptr id off b (hk _ _ h)
 | dn=>exact .dn
 | slice id off b n c c' h h0 h1 h2 h3=>exact .slice id off b n c c' (hk _ _ h) h0 (λg=>⟨(h1 g).1,λe=>hk _ _ ((h1 g).2 e)⟩) h2 h3
 | dz id off b h h0=>exact .dz id off b (hk _ _ h) h0
 | mX=>exact .mX
 | map id b h=>exact .map id b (hk _ _ h)
 | func fn f f' c c' hy hf hc h h' ih ih'=>exact .func fn f f' c c' hy hf hc ih ih'
 | yield id b h=>exact .yield id b (hk _ _ h)
 | nilFunc=>exact .nilFunc
 | iface t v v' h ih=>exact .iface t v v' ih
 | nilIface=>exact .nilIface
 | agg f f' hf h ih=>exact .agg f f' hf ih
 | tuple f f' hf h ih=>exact .tuple f f' hf ih
theorem bN.mono{ι κ:am}(hk:jf ι κ){f f':Array Value}(h:bN ι f f'):bN κ f f':=⟨h.1,λi v v' a b=>(h.2 i v v' a b).mono hk⟩
inductive Tr where
 | leaf
 | node (v:Option Obj) (l r:Tr)
def Tr.get:Nat->Tr->Nat->Option Obj
 | 0,_,_=>none
 | _+1,.leaf,_=>none
 | d+1,.node v l r,n=>if n=0 then v else if n%2=0 then l.get d (n / 2) else r.get d (n / 2)
def Tr.val:Tr->Option Obj
 | .leaf=>none
 | .node v _ _=>v
def Tr.zi:Tr->Tr
 | .leaf=>.leaf
 | .node _ l _=>l
def Tr.zj:Tr->Tr
 | .leaf=>.leaf
 | .node _ _ r=>r
def Tr.set:Nat->Tr->Nat->Option Obj->Tr
 | 0,t,_,_=>t
 | d+1,t,n,x=>if n=0 then .node x t.zi t.zj else if n%2=0 then .node t.val (t.zi.set d (n / 2) x) t.zj else .node t.val t.zi (t.zj.set d (n / 2) x)
theorem Tr.lr(d n:Nat):Tr.leaf.get d n=none:=by cases d<;>rfl
theorem Tr.uD(d:Nat)(t:Tr)(n:Nat):t.get (d+1) n=if n=0 then t.val else if n%2=0 then t.zi.get d (n / 2) else t.zj.get d (n / 2):=by
 cases t with
 | leaf=>simp[Tr.get,Tr.val,Tr.zi,Tr.zj,Tr.lr]
 | node v l r=>rfl
theorem Tr.get_set_same(d:Nat):∀ (t:Tr) (n:Nat) (x:Option Obj),n<2 ^ d->(t.set (d+1) n x).get (d+1) n=x:=by
 induction d with
 | zero =>
  intro t n x h;obtain rfl:n=0:=by simp at h;exact h
  rfl
 | succ d ih =>
  intro t n x h;have hp:2 ^ (d+1)=2*2 ^ d:=by rw[Nat.pow_succ,Nat.mul_comm]
  rw[Tr.uD]
  by_cases h0:n=0
  ·subst h0
   simp[Tr.set,Tr.val]
  ·simp only[Tr.set,h0,if_false]
   by_cases h1:n%2=0
   ·simp only[h1,if_true,Tr.zi]
    exact ih _ _ _ (by omega)
   ·simp only[h1,if_false,Tr.zj]
    exact ih _ _ _ (by omega)
theorem Tr.get_set_other(d:Nat):∀ (t:Tr) (n m:Nat) (x:Option Obj),m≠n->(t.set d n x).get d m=t.get d m:=by
 induction d with
 | zero=>intro t n m x h;rfl
 | succ d ih =>
  intro t n m x h;rw[Tr.uD,Tr.uD d t]
  by_cases h0:n=0
  ·subst h0
   simp[Tr.set,h,Tr.zi,Tr.zj]
  ·simp only[Tr.set,h0,if_false]
   by_cases hm:m=0
   ·subst hm
    by_cases h1:n%2=0<;>simp[h1,Tr.val]
   ·by_cases h1:n%2=0
    ·simp only[h1,if_true,Tr.zi,Tr.zj,hm,if_false]
     by_cases h2:m%2=0
     ·simp only[h2,if_true]
      exact ih _ _ _ _ (by omega)
     ·simp only[h2,if_false]
    ·simp only[h1,if_false,Tr.zi,Tr.zj,hm]
     by_cases h2:m%2=0
     ·simp only[h2,if_true]
     ·simp only[h2,if_false]
      exact ih _ _ _ _ (by omega)
structure Touch where
 id:Nat
 at_:Option Nat
 wr:Bool
def deep:Nat:=30
def lim:Nat:=536870912
structure St where
 heap:Tr
 next:Nat
 log:List Touch
def St.look(s:St)(id:Nat):Option Obj:=s.heap.get deep id
def St.touch(s:St)(id:Nat)(a:Option Nat)(wr:Bool):St:={ s with log:=⟨id,a,wr⟩::s.log }
def St.put(s:St)(id:Nat)(o:Option Obj):St:={ s with heap:=s.heap.set deep id o }
theorem St.bZ(s:St)(id:Nat)(o:Option Obj)(h:id<lim):(s.put id o).look id=o:=by
 unfold St.look St.put;exact Tr.get_set_same 29 _ _ _ h
theorem St.bh(s:St)(id j:Nat)(o:Option Obj)(h:j≠id):(s.put id o).look j=s.look j:=by
 unfold St.look St.put;rw[Tr.get_set_other _ _ _ _ _ h]
def oneCell:Value->Bool
 | .agg _ | .tuple _ | .complex .f32 _ 1=>false
 | _=>true
def aw{α:Type}(P:Program):Sem α->St->Option (α×St)
 | .pure a,s=>some (a,s)
 | .load _ a k,s =>
  match a.spot,s.look a.block with
  | none,some (.cells c _ _) =>
   match c[a.off]? with
   | some v=>aw P (k v) (s.touch a.block (some a.off) false)
   | none=>none
  | _,_=>none
 | .store _ a v k,s =>
  match oneCell v,a.spot,s.look a.block with
  | true,none,some (.cells c e (0,0)) =>
   if a.off<c.size/\a.block<lim then aw P k ((s.put a.block (some (.cells (c.setIfInBounds a.off v) e (0,0)))).touch a.block (some a.off) true) else none
  | _,_,_=>none
 | .new o k,s =>
  if 4*s.next<lim then
   match o with
   | .cells c e (0,0)=>aw P (k (4*s.next)) { (s.put (4*s.next) (some (.cells c e (0,0)))).touch (4*s.next) none true with next:=s.next+1 }
   | .map es n=>aw P (k (4*s.next)) { (s.put (4*s.next) (some (.map es n))).touch (4*s.next) none true with next:=s.next+1 }
   | .mapIter m n se st=>aw P (k (4*s.next)) { (s.put (4*s.next) (some (.mapIter m n se st))).touch (4*s.next) none true with next:=s.next+1 }
   | .stringIter st p=>aw P (k (4*s.next)) { (s.put (4*s.next) (some (.stringIter st p))).touch (4*s.next) none true with next:=s.next+1 }
   | .loop l=>aw P (k (4*s.next)) { (s.put (4*s.next) (some (.loop l))).touch (4*s.next) none true with next:=s.next+1 }
   | .deferred d=>aw P (k (4*s.next)) { (s.put (4*s.next) (some (.deferred d))).touch (4*s.next) none true with next:=s.next+1 }
   | _=>none
  else none
 | .shape r k,s =>
  match iF r,s.look r with
  | false,some (.cells c e (0,0))=>aw P (k (some (e,c.size))) (s.touch r (some 0) false)
  | _,_=>none
 | .getObj r k,s =>
  match s.look r with
  | some (.map es n)=>aw P (k (.map es n)) (s.touch r none false)
  | some (.mapIter m n se st)=>aw P (k (.mapIter m n se st)) (s.touch r none false)
  | some (.stringIter st p)=>aw P (k (.stringIter st p)) (s.touch r none false)
  | some (.loop l)=>aw P (k (.loop l)) (s.touch r none false)
  | some (.deferred d)=>aw P (k (.deferred d)) (s.touch r none false)
  | _=>none
 | .setObj r o k,s =>
  match s.look r,o with
  | some (.map _ _),.map es n=>if r<lim then aw P k ((s.put r (some (.map es n))).touch r none true) else none
  | some (.mapIter _ _ _ _),.mapIter m n se st=>if r<lim then aw P k ((s.put r (some (.mapIter m n se st))).touch r none true) else none
  | some (.stringIter _ _),.stringIter st p=>if r<lim then aw P k ((s.put r (some (.stringIter st p))).touch r none true) else none
  | some (.loop _),.loop l=>if r<lim then aw P k ((s.put r (some (.loop l))).touch r none true) else none
  | some (.deferred _),.deferred d=>if r<lim then aw P k ((s.put r (some (.deferred d))).touch r none true) else none
  | _,_=>none
 | .choose q k,s=>if q.forced then aw P (k 0) s else none
 | .program k,s=>aw P (k P) s
 | .mark _ k,s=>aw P k s
 | .frozen a k,s =>
  match s.look a.block with
  | some (.cells c e (0,0))=>aw P (k false) (s.touch a.block (some 0) false)
  | _=>none
 | .freeze _ _ _,_=>none
 | .sys _ _,_=>none
 | .halt _,_=>none
def jy:Value->Bool
 | .int _ _ | .string _=>true
 | _=>false
def dT(ι:am)(es es':Array MapEntry):Prop :=
 es.size=es'.size/\∀ (i:Nat) (e e':MapEntry),es[i]? = some e->es'[i]? = some e'->ao ι e.key e'.key/\ao ι e.val e'.val/\e.born=e'.born/\jy e.key=true
def bL(P:Program)(c:Code):Prop:=∃ fn bl lb,CheckCode.code P fn bl lb c=.ok ()
structure nJ(P:Program)(ι:am)(l l':Loop):Prop where
 state:l.state=l'.state
 pending:l.pending=l'.pending
 tmps:bN ι l.tmps l'.tmps
 params:l.params=l'.params
 assign:l.assign=l'.assign
 body:l.body=l'.body
 defers:ι l.defers=some l'.defers
 ok1:bL P l.assign
 Ce:bL P l.body
def gY(P:Program)(ι:am)(id:Nat):Obj->Obj->Prop
 | .cells c e f,o'=>f=(0,0)/\∃ c',o'=.cells c' e (0,0)/\c.size<=c'.size/\(iF id=false->c.size=c'.size)/\(∀ (i:Nat) (v v':Value),c[i]? = some v->c'[i]? = some v'->ao ι v v')/\(iF id=true->∃ n t,ι (id+1)=some n/\P.info? e=some t/\c'.size=n*t.size)
 | .map es n,o'=>∃ es',o'=.map es' n/\dT ι es es'
 | .mapIter none n se st,o'=>o'=.mapIter none n se st
 | .mapIter (some m) n se st,o'=>∃ m',ι m=some m'/\o'=.mapIter (some m') n se st
 | .stringIter st p,o'=>o'=.stringIter st p
 | .loop l,o'=>∃ l',o'=.loop l'/\nJ P ι l l'
 | .deferred d,o'=>o'=.deferred d/\(d=none\/d=some [])
 | _,_=>False
def qc:Obj->Option Nat
 | .view a _=>some a.block
 | _=>none
structure dA(P:Program)(base:Nat->Prop)(ι:am)(H:Nat->Option Obj)(w:World):Prop where
 inj:∀ id id' o o' b,H id=some o->H id'=some o'->ι id=some b->ι id'=some b->id=id'
 there:∀ id o,H id=some o->qc o=none->∃ b o',ι id=some b/\w.heap[b]? = some o'/\gY P ι id o o'/\¬ base b
 sz:∀ k,base k->k<w.heap.size
 gh:∀ id o g,H id=some o->qc o=some g->id=3/\ι 3=none/\∃ F:Nat->Prop,bg.GR g ι F w/\(∀ j,F j->j<w.heap.size/\¬ base j)/\∀ x ox b,H x=some ox->ι x=some b->¬ F b
structure Out(K:Nat->Prop)(w w':World):Prop where
 os:w'.os=w.os
 tape:w'.tape=w.tape
 output:w'.output=w.output
 size:w.heap.size<=w'.heap.size
 block:∀ k,K k->w'.heap[k]? = w.heap[k]?
theorem Out.refl(K:Nat->Prop)(w:World):Out K w w:=⟨rfl,rfl,rfl,Nat.le_refl _,λ_ _=>rfl⟩
theorem Out.trans{K:Nat->Prop}{a b c:World}(h:Out K a b)(k:Out K b c):Out K a c :=
 ⟨k.os.trans h.os,k.tape.trans h.tape,k.output.trans h.output,Nat.le_trans h.size k.size,λi hi=>(k.block i hi).trans (h.block i hi)⟩
theorem Out.mono{K K':Nat->Prop}{w w':World}(h:Out K w w')(hK:∀ k,K' k->K k):Out K' w w':=⟨h.os,h.tape,h.output,h.size,λk hk=>h.block k (hK k hk)⟩
theorem Out.drew{K:Nat->Prop}{a w:World}(h:Out K a w):Out K a w.drew:=⟨h.os,h.tape,h.output,h.size,h.block⟩
theorem Out.alloc{K:Nat->Prop}{a w:World}(h:Out K a w)(hK:∀ k,K k->k<w.heap.size)(o:Obj):Out K a (w.alloc o) :=
 h.trans ⟨rfl,rfl,rfl,by simp,λk hk=>Below.heap_alloc _ _ _ (hK k hk)⟩
theorem Out.setCell{K:Nat->Prop}{a w:World}(h:Out K a w){p:Addr}(hp:¬ K p.block)(u:Value):Out K a (w.setCell p u) :=
 h.trans ⟨rfl,rfl,rfl,by simp[World.setCell],λk hk=>Below.heap_setCell _ _ _ _ (λe=>hp (e▸hk))⟩
theorem Out.below{B:Nat}{w w':World}(h:Out (· < B) w w'):Below B w w':=⟨h.os,h.tape,h.output,h.size,λk hk=>h.block k hk⟩
theorem Below.out{B:Nat}{w w':World}(h:Below B w w'){K:Nat->Prop}(hK:∀ k,K k->k<B):Out K w w':=⟨h.os,h.tape,h.output,h.size,λk hk=>h.block k (hK k hk)⟩
theorem gY.mono{P:Program}{ι κ:am}(hk:jf ι κ){id:Nat}{o o':Obj}(h:gY P ι id o o'):gY P κ id o o':=by
 cases o with
 | cells c e f =>
  obtain⟨h0,c',h1,h2,h3,h4,h5⟩:=h;exact⟨h0,c',h1,h2,h3,λi v v' a b=>(h4 i v v' a b).mono hk,λg=>by obtain⟨n,t,a,b⟩:=h5 g;exact⟨n,t,hk _ _ a,b⟩⟩
 | map es n =>
  obtain⟨es',h1,h2,h3⟩:=h;exact⟨es',h1,h2,λi e e' a b=>⟨(h3 i e e' a b).1.mono hk,(h3 i e e' a b).2.1.mono hk,(h3 i e e' a b).2.2⟩⟩
 | mapIter m n se st =>
  cases m with
  | none=>exact h
  | some m=>obtain⟨m',h1,h2⟩:=h;exact⟨m',hk _ _ h1,h2⟩
 | loop l=>obtain⟨l',h1,h2⟩:=h;exact⟨l',h1,h2.state,h2.pending,h2.tmps.mono hk,h2.params,h2.assign,h2.body,hk _ _ h2.defers,h2.ok1,h2.Ce⟩
 | _=>exact h
theorem dA.real{P:Program}{base:Nat->Prop}{ι:am}{H:Nat->Option Obj}{w:World}(hr:dA P base ι H w){id b:Nat}{o:Obj}(hl:H id=some o)(hb:ι id=some b):qc o=none:=by
 cases hg:qc o with
 | none=>rfl
 | some g =>
  obtain⟨rfl,h3,_⟩:=hr.gh id o g hl hg;rw[h3]at hb;cases hb
theorem dA.AZ{P:Program}{ι:am}{id:Nat}{o o':Obj}(h:gY P ι id o o'):qc o=none:=by
 cases o<;>first | rfl | exact h.elim
def aq{α β:Type}(P:Program)(base:Nat->Prop)(R:am->α->β->Prop)(ι:am)(m:Sem α)(m':Sem β):Prop :=
 ∀ (s:St) (w:World) (a:α) (s1:St),dA P base ι s.look w->aw P m s=some (a,s1)->(∀ id,4*s.next<=id->id<4*s1.next->ι id=none)->
  ∃ (κ:am) (b:β) (w1:World),m'.run P w=.ok b w1/\dA P base κ s1.look w1/\(∀ id,(id<4*s.next\/4*s1.next<=id)->κ id=ι id)/\R κ a b/\Out base w w1
theorem l5{α β:Type}(P:Program)(m:Sem α)(f:α->Sem β):∀ s:St,aw P (m.bind f) s=(aw P m s).bind λ(a,s1)=>aw P (f a) s1:=by
 induction m with
 | pure a=>intro s;rfl
 | load md a k ih =>
  intro s;simp only[Sem.bind,aw]
  split
  ·split
   ·exact ih _ _
   ·rfl
  ·rfl
 | store md a v k ih =>
  intro s;simp only[Sem.bind,aw]
  split
  ·split
   ·exact ih _
   ·rfl
  ·rfl
 | new o k ih =>
  intro s;simp only[Sem.bind,aw]
  split
  ·split<;>first | exact ih _ _ | rfl
  ·rfl
 | shape r k ih =>
  intro s;simp only[Sem.bind,aw]
  split<;>first | exact ih _ _ | rfl
 | freeze a n k ih=>intro s;rfl
 | frozen a k ih =>
  intro s;simp only[Sem.bind,aw]
  split<;>first | exact ih _ _ | rfl
 | getObj r k ih =>
  intro s;simp only[Sem.bind,aw]
  split<;>first | exact ih _ _ | rfl
 | setObj r o k ih =>
  intro s;simp only[Sem.bind,aw]
  split
  ·split<;>first | exact ih _ | rfl
  ·split<;>first | exact ih _ | rfl
  ·split<;>first | exact ih _ | rfl
  ·split<;>first | exact ih _ | rfl
  ·split<;>first | exact ih _ | rfl
  ·rfl
 | choose q k ih =>
  intro s;simp only[Sem.bind,aw]
  split<;>first | exact ih _ _ | rfl
 | sys c k ih=>intro s;rfl
 | program k ih=>intro s;exact ih _ _
 | mark m k ih=>intro s;exact ih _
 | halt h=>intro s;rfl
theorem de{α:Type}(P:Program)(m:Sem α):∀ (s s1:St) (a:α),aw P m s=some (a,s1)->s.next<=s1.next:=by
 induction m with
 | pure a=>intro s s1 b h;simp only[aw,Option.some.injEq,Prod.mk.injEq]at h;rw[← h.2];exact Nat.le_refl _
 | load md a k ih =>
  intro s s1 b h;simp only[aw]at h
  split at h
  ·split at h
   ·(have hh:=ih _ _ _ _ h;exact hh)
   ·cases h
  ·cases h
 | store md a v k ih =>
  intro s s1 b h;simp only[aw]at h
  split at h
  ·split at h
   ·(have hh:=ih _ _ _ h;exact hh)
   ·cases h
  ·cases h
 | new o k ih =>
  intro s s1 b h;simp only[aw]at h
  split at h
  ·split at h<;>first | (have hh:=ih _ _ _ _ h;exact Nat.le_of_succ_le hh) | cases h
  ·cases h
 | shape r k ih =>
  intro s s1 b h;simp only[aw]at h
  split at h<;>first | (have hh:=ih _ _ _ _ h;exact hh) | cases h
 | freeze a n k ih=>intro s s1 b h;cases h
 | frozen a k ih =>
  intro s s1 b h;simp only[aw]at h
  split at h<;>first | (have hh:=ih _ _ _ _ h;exact hh) | cases h
 | getObj r k ih =>
  intro s s1 b h;simp only[aw]at h
  split at h<;>first | (have hh:=ih _ _ _ _ h;exact hh) | cases h
 | setObj r o k ih =>
  intro s s1 b h;simp only[aw]at h
  split at h
  ·split at h<;>first | (have hh:=ih _ _ _ h;exact hh) | cases h
  ·split at h<;>first | (have hh:=ih _ _ _ h;exact hh) | cases h
  ·split at h<;>first | (have hh:=ih _ _ _ h;exact hh) | cases h
  ·split at h<;>first | (have hh:=ih _ _ _ h;exact hh) | cases h
  ·split at h<;>first | (have hh:=ih _ _ _ h;exact hh) | cases h
  ·cases h
 | choose q k ih =>
  intro s s1 b h;simp only[aw]at h
  split at h<;>first | (have hh:=ih _ _ _ _ h;exact hh) | cases h
 | sys c k ih=>intro s s1 b h;cases h
 | program k ih=>intro s s1 b h;(have hh:=ih _ _ _ _ h;exact hh)
 | mark m k ih=>intro s s1 b h;(have hh:=ih _ _ _ h;exact hh)
 | halt h=>intro s s1 b h;cases h
theorem aq.bind{α β γ δ:Type}{P:Program}{base:Nat->Prop}{R:am->α->β->Prop}{R':am->γ->δ->Prop}{ι:am}{m:Sem α}{m':Sem β}{f:α->Sem γ}{f':β->Sem δ}
  (h:aq P base R ι m m') (hf:∀ κ a b,jf ι κ->R κ a b->aq P base R' κ (f a) (f' b)):aq P base R' ι (m.bind f) (m'.bind f'):=by
 intro s w c s2 hr ha hfr;rw[l5]at ha;cases hm:aw P m s with
 | none=>rw[hm]at ha;cases ha
 | some x =>
  obtain⟨a,s1⟩:=x;rw[hm]at ha;have ha':aw P (f a) s1=some (c,s2):=ha;have n1:=de P m _ _ _ hm;have n2:=de P (f a) _ _ _ ha';obtain⟨κ,b,w1,r1,p1,e1,q1,k1⟩:=h s w a s1 hr hm (λid x y=>hfr id x (by omega));have Ok:jf ι κ:=by
   intro id b' hb
   by_cases hx:id<4*s.next\/4*s1.next<=id
   ·rw[e1 id hx];exact hb
   ·rw[hfr id (by omega) (by omega)]at hb;cases hb
  obtain⟨μ,d,w2,r2,p2,e2,q2,k2⟩:=hf κ a b Ok q1 s1 w1 c s2 p1 ha' (λid x y=>by rw[e1 id (by omega)];exact hfr id (by omega) y);refine⟨μ,d,w2,?_,p2,?_,q2,k1.trans k2⟩
  ·show(m' >>= f').run P w=_
   rw[Sem.run_bind,r1];exact r2
  ·intro id hx
   rw[e2 id (by omega),e1 id (by omega)]
theorem aq.pure{α β:Type}{P:Program}{base:Nat->Prop}{R:am->α->β->Prop}{ι:am}{a:α}{b:β}(h:R ι a b):aq P base R ι (.pure a) (.pure b):=by
 intro s w c s1 hr ha hfr;simp only[aw,Option.some.injEq,Prod.mk.injEq]at ha;obtain⟨rfl,rfl⟩:=ha;exact⟨ι,b,w,rfl,hr,λ_ _=>rfl,h,Out.refl _ _⟩
theorem aq.program{α β:Type}{P:Program}{base:Nat->Prop}{R:am->α->β->Prop}{ι:am}{k:Program->Sem α}{k':Program->Sem β}(h:aq P base R ι (k P) (k' P)):aq P base R ι (.program k) (.program k') :=
 λs w c s1 hr ha hfr=>h s w c s1 hr ha hfr
theorem aq.halt{α β:Type}{P:Program}{base:Nat->Prop}{R:am->α->β->Prop}{ι:am}{h:Halt}{m':Sem β} : aq P base R ι (Sem.halt h:Sem α) m':=by
 intro s w c s1 hr ha hfr;cases ha
theorem aq.mark{α β:Type}{P:Program}{base:Nat->Prop}{R:am->α->β->Prop}{ι:am}{m m2:Mark}{k:Sem α}{k':Sem β}(h:aq P base R ι k k'):aq P base R ι (.mark m k) (.mark m2 k') :=
 λs w c s1 hr ha hfr=>h s w c s1 hr ha hfr
theorem aq.choose{α β:Type}{P:Program}{base:Nat->Prop}{R:am->α->β->Prop}{ι:am}{q q':Question}{k:Nat->Sem α}{k':Nat->Sem β}(hq:q.forced=true->q'.forced=true)(h:aq P base R ι (k 0) (k' 0)):aq P base R ι (.choose q k) (.choose q' k'):=by
 intro s w c s1 hr ha hfr;simp only[aw]at ha
 split at ha
 ·rename_i hf
  obtain⟨κ,b,w1,r1,rest⟩:=h s w c s1 hr ha hfr;exact⟨κ,b,w1,by simp only[Sem.run,hq hf,if_true];exact r1,rest⟩
 ·cases ha
theorem run_load{β:Type}{P:Program}{w:World}{md:Mode}{a:Addr}{k:Value->Sem β}{v:Value}(h:w.cell? a=some v):(Sem.load md a k).run P w=(k v).run P w:=by
 simp only[Sem.run,h]
theorem aq.load{α β:Type}{P:Program}{base:Nat->Prop}{R:am->α->β->Prop}{ι:am}{md OI:Mode}{id off b:Nat}{k:Value->Sem α}{k':Value->Sem β}(hb:ι id=some b)
  (h:∀ v v',ao ι v v'->aq P base R ι (k v) (k' v')):aq P base R ι (.load md ⟨id,off,none⟩ k) (.load OI ⟨b,off,none⟩ k'):=by
 intro s w c s1 hr ha hfr;simp only[aw]at ha;cases hl:s.look id with
 | none=>simp[hl]at ha
 | some o =>
  cases o with
  | cells c0 e0 f0 =>
   simp only[hl]at ha;cases hv:c0[off]? with
   | none=>simp[hv]at ha
   | some v =>
    simp only[hv]at ha;obtain⟨b',o',i1,i2,i3,i4⟩:=hr.there id _ hl (hr.real hl hb);rw[hb]at i1;cases i1;obtain⟨hf,c',rfl,j1,j2,j3,j4⟩:=i3;have hlt:off<c0.size:=by
     rcases Nat.lt_or_ge off c0.size with g | g
     ·exact g
     ·rw[Array.getElem?_eq_none g]at hv;cases hv
    have hv':c'[off]? = some (c'[off]'(by omega)):=Array.getElem?_eq_getElem (by omega);have hcell:w.cell? ⟨b,off,none⟩=some (c'[off]'(by omega)):=by
     simp[World.cell?,i2,hv']
    rw[run_load hcell];exact h v _ (j3 off v _ hv hv') (s.touch id (some off) false) w c s1 hr ha hfr
  | _=>simp[hl]at ha
theorem heap_setCell_same{w:World}{b off:Nat}{v:Value}{c:Array Value}{e:TypeId}(h:w.heap[b]? = some (.cells c e (0,0))):(w.setCell ⟨b,off,none⟩ v).heap[b]? = some (.cells (c.setIfInBounds off v) e (0,0)):=by
 simp[World.setCell,Array.getElem?_modify,h]
theorem dA.look_eq{P:Program}{base:Nat->Prop}{ι:am}{H H':Nat->Option Obj}{w:World}(h:dA P base ι H w)(e:∀ id,H' id=H id):dA P base ι H' w:=by
 have:H'=H:=funext e;rw[this];exact h
theorem dA.J4{P:Program}{base:Nat->Prop}{ι κ:am}{H H':Nat->Option Obj}{w w1:World}(hr:dA P base ι H w)(h3:∀ id o g,H' id=some o->qc o=some g->H id=some o)(hle:jf ι κ)(hk3:κ 3=ι 3)(hsz:w.heap.size<=w1.heap.size)
  (hkeep:∀ j,(∀ x ox b,H x=some ox->ι x=some b->j≠b)->j<w.heap.size->w1.heap[j]? = w.heap[j]?) (hnm:∀ x ox b,H' x=some ox->κ x=some b->(∃ y oy,H y=some oy/\ι y=some b)\/w.heap.size<=b) :
  ∀ id o g,H' id=some o->qc o=some g->id=3/\κ 3=none/\∃ F:Nat->Prop,bg.GR g κ F w1/\(∀ j,F j->j<w1.heap.size/\¬ base j)/\∀ x ox b,H' x=some ox->κ x=some b->¬ F b:=by
 intro id o g hx hg;obtain⟨e,n3,F,q1,q2,q3⟩:=hr.gh id o g (h3 id o g hx hg) hg;refine⟨e,by rw[hk3];exact n3,F,bg.uC _ _ _ _ _ hle (bg.uB _ _ _ _ _ (λj hj=>?_) q1),λj hj=>⟨Nat.lt_of_lt_of_le (q2 j hj).1 hsz,(q2 j hj).2⟩,λx ox b h1 h2 hb=>?_⟩
 ·exact hkeep j (λx ox b h1 h2 e=>q3 x ox b h1 h2 (e▸hj)) (q2 j hj).1
 ·rcases hnm x ox b h1 h2 with ⟨y,oy,g1,g2⟩ | g1
  ·exact q3 y oy b g1 g2 hb
  ·have:=(q2 b hb).1
   omega
theorem dA.put{P:Program}{base:Nat->Prop}{ι:am}{s:St}{w w1:World}{id b:Nat}{o o1 A0:Obj}(hr:dA P base ι s.look w)(hlim:id<lim)(hl:s.look id=some o)(hb:ι id=some b)
  (hw:w1.heap[b]? = some A0) (ho:gY P ι id o1 A0) (hoth:∀ j,j≠b->w1.heap[j]? = w.heap[j]?) (hsz:w1.heap.size=w.heap.size):dA P base ι (s.put id (some o1)).look w1:=by
 refine⟨?_,?_,λk hk=>by have:=hr.sz k hk;omega,?_⟩
 ·intro x y ox oy bb hx hy h1 h2
  have live:∀ z oz,(s.put id (some o1)).look z=some oz->∃ Rf,s.look z=some Rf:=by
   intro z oz hz
   by_cases e:z=id
   ·subst e;exact⟨o,hl⟩
   ·rw[St.bh _ _ _ _ e]at hz;exact⟨oz,hz⟩
  obtain⟨Rg,hx'⟩:=live x ox hx;obtain⟨Rh,hy'⟩:=live y oy hy;exact hr.inj x y Rg Rh bb hx' hy' h1 h2
 ·intro x ox hx hrl
  by_cases e:x=id
  ·subst e
   rw[St.bZ _ _ _ hlim]at hx;cases hx;obtain⟨b9,o9,g1,g2,g3,g4⟩:=hr.there x o hl (hr.real hl hb);rw[hb]at g1;cases g1;exact⟨b,A0,hb,hw,ho,g4⟩
  ·rw[St.bh _ _ _ _ e]at hx
   obtain⟨b2,o2,g1,g2,g3,g4⟩:=hr.there x ox hx hrl;have hne:b2≠b:=by
    intro eb;subst eb;exact e (hr.inj x id ox o b2 hx hl g1 hb)
   exact⟨b2,o2,g1,by rw[hoth b2 hne];exact g2,g3,g4⟩
 ·refine hr.J4 (λx ox g hx hg=>?_) (jf.refl _) rfl (by omega) (λj hj _=>hoth j (hj id o b hl hb)) (λx ox bb hx hbb=>?_)
  ·by_cases e:x=id
   ·subst e
    rw[St.bZ _ _ _ hlim]at hx;cases hx;rw[dA.AZ ho]at hg;cases hg
   ·rw[St.bh _ _ _ _ e]at hx
    exact hx
  ·by_cases e:x=id
   ·subst e
    exact .inl ⟨x,o,hl,hbb⟩
   ·rw[St.bh _ _ _ _ e]at hx
    exact .inl ⟨x,ox,hx,hbb⟩
theorem run_store{β:Type}{P:Program}{w:World}{md:Mode}{a:Addr}{k:Sem β}{v u:Value}(h:w.cell? a=some u)(hf:w.frozen? a=false)(h1:oneCell v=true):(Sem.store md a v k).run P w=k.run P (w.setCell a v):=by
 cases v<;>first | (simp[oneCell]at h1;done) | simp[Sem.run,h,hf]
theorem qE{v:Value}(h:aV v=true):oneCell v=true:=by cases v<;>first | rfl | cases h
theorem ao.one{ι:am}{v v':Value}(h:ao ι v v')(h1:oneCell v=true):oneCell v'=true:=by
 cases h with
 | sym n m _ h=>rw[← h];exact qE (bg.leaf n)
 | dyn id c _ h h'=>rw[← h'];exact qE (nI c)
 | qD id c j _ h h'=>rw[← h'];exact qE (oW j (dec c))
 | junk n v' h=>cases h1
 | agg=>cases h1
 | tuple=>cases h1
 | _=>rfl
theorem aq.store{α β:Type}{P:Program}{base:Nat->Prop}{R:am->α->β->Prop}{ι:am}{md OI:Mode}{id off b:Nat}{v v':Value}{k:Sem α}{k':Sem β}(hb:ι id=some b)(hv:ao ι v v')
  (h:aq P base R ι k k'):aq P base R ι (.store md ⟨id,off,none⟩ v k) (.store OI ⟨b,off,none⟩ v' k'):=by
 intro s w c s1 hr ha hfr;have e0:∃ c0 t,s.look id=some (.cells c0 t (0,0))/\oneCell v=true/\off<c0.size/\id<lim/\aw P k ((s.put id (some (.cells (c0.setIfInBounds off v) t (0,0)))).touch id (some off) true)=some (c,s1):=by
  simp only[aw]at ha;cases h1:oneCell v with
  | false=>simp[h1]at ha
  | true =>
   cases hl:s.look id with
   | none=>simp[hl]at ha
   | some o =>
    cases o with
    | cells c0 e0 f0 =>
     obtain⟨f1,f2⟩:=f0;simp only[h1,hl]at ha
     split at ha
     ·rename_i heq
      cases heq
      split at ha
      ·rename_i hlt
       exact⟨_,_,rfl,rfl,hlt.1,hlt.2,ha⟩
      ·cases ha
     ·cases ha
    | _=>simp[h1,hl]at ha
 obtain⟨c0,t,hl,h1,hlt,hlim,ha'⟩:=e0;obtain⟨b',o',i1,i2,i3,i4⟩:=hr.there id _ hl (hr.real hl hb);rw[hb]at i1;cases i1;obtain⟨hf,c',rfl,j1,j2,j3,j4⟩:=i3;have hcell:w.cell? ⟨b,off,none⟩=some (c'[off]'(by omega)):=by
  have hv':c'[off]? = some (c'[off]'(by omega)):=Array.getElem?_eq_getElem (by omega);simp[World.cell?,i2,hv']
 have hfz:w.frozen? ⟨b,off,none⟩=false:=by simp[World.frozen?,i2]
 rw[run_store hcell hfz (hv.one h1)];have hrep:dA P base ι ((s.put id (some (.cells (c0.setIfInBounds off v) t (0,0)))).touch id (some off) true).look (w.setCell ⟨b,off,none⟩ v'):=by
  refine dA.put (o:=.cells c0 t (0,0)) (b:=b) hr hlim hl hb (heap_setCell_same i2) ?_ ?_ ?_
  ·refine⟨rfl,_,rfl,by simpa using j1,by simpa using j2,?_,by simpa using j4⟩
   intro i x x' hx hx';rw[Array.getElem?_setIfInBounds]at hx hx'
   by_cases e:off=i
   ·subst e
    simp only[if_true]at hx hx';rw[if_pos hlt]at hx;rw[if_pos (by omega)]at hx';cases hx;cases hx';exact hv
   ·simp only[e,if_false]at hx hx'
    exact j3 i x x' hx hx'
  ·intro j hj
   exact Below.heap_setCell _ _ _ _ hj
  ·simp[World.setCell]
 obtain⟨κ,bb,w1,r1,p1,e1,q1,k1⟩:=h _ _ c s1 hrep ha' hfr;exact⟨κ,bb,w1,r1,p1,e1,q1,((Out.refl base w).setCell (p:=⟨b,off,none⟩) i4 v').trans k1⟩
def am.upd(ι:am)(id b:Nat):am:=λx=>if x=id then some b else ι x
theorem am.gZ{ι:am}{id b:Nat}(h:ι id=none):jf ι (ι.upd id b):=by
 intro x y hx;unfold am.upd
 by_cases e:x=id
 ·subst e;rw[h]at hx;cases hx
 ·rw[if_neg e];exact hx
theorem gY.even{P:Program}{ι:am}{id:Nat}(h:iF id=false){o o':Obj}(ho:gY P ι 0 o o'):gY P ι id o o':=by
 cases o with
 | cells c e f =>
  obtain⟨h0,c',h1,h2,h3,h4,_⟩:=ho;exact⟨h0,c',h1,h2,λ_=>h3 (by decide),h4,λg=>by rw[h]at g;cases g⟩
 | map es n=>exact ho
 | mapIter m n se st=>cases m<;>exact ho
 | _=>exact ho
theorem dA.new{P:Program}{base:Nat->Prop}{ι:am}{s:St}{w:World}{id:Nat}{o o':Obj}(hr:dA P base ι s.look w)(hlim:id<lim)(hi3:id%4≠3)(hn:ι id=none)(ho:gY P ι id o o') :
  dA P base (ι.upd id w.heap.size) (s.put id (some o)).look { w with heap:=w.heap.push o' }:=by
 have hle:=am.gZ (b:=w.heap.size) hn;have hnot:s.look id=none:=by
  cases hl:s.look id with
  | none=>rfl
  | some x =>
   cases hg:qc x with
   | none =>
    obtain⟨b,o2,g1,_⟩:=hr.there id x hl hg;rw[hn]at g1;cases g1
   | some g =>
    obtain⟨e,_⟩:=hr.gh id x g hl hg;omega
 have hlt:∀ x ox b,s.look x=some ox->ι x=some b->b<w.heap.size:=by
  intro x ox b hx hb;obtain⟨b2,o2,g1,g2,_⟩:=hr.there x ox hx (hr.real hx hb);rw[hb]at g1;cases g1;rcases Nat.lt_or_ge b w.heap.size with g | g
  ·exact g
  ·rw[Array.getElem?_eq_none g]at g2;cases g2
 have hother:∀ x b,x≠id->(ι.upd id w.heap.size) x=some b->ι x=some b:=by
  intro x b e hx;unfold am.upd at hx;rw[if_neg e]at hx;exact hx
 have hbase:=hr.sz;refine⟨?_,?_,λk hk=>by have:=hr.sz k hk;simp;omega,?_⟩
 ·intro x y ox oy bb hx hy h1 h2
  by_cases ex:x=id
  ·by_cases ey:y=id
   ·rw[ex,ey]
   ·have hy':=hother y bb ey h2
    rw[St.bh _ _ _ _ ey]at hy;have:=hlt y oy bb hy hy';subst ex;simp only[am.upd,if_true,Option.some.injEq]at h1;omega
  ·by_cases ey:y=id
   ·have hx':=hother x bb ex h1
    rw[St.bh _ _ _ _ ex]at hx;have:=hlt x ox bb hx hx';subst ey;simp only[am.upd,if_true,Option.some.injEq]at h2;omega
   ·rw[St.bh _ _ _ _ ex]at hx
    rw[St.bh _ _ _ _ ey]at hy;exact hr.inj x y ox oy bb hx hy (hother x bb ex h1) (hother y bb ey h2)
 ·intro x ox hx hrl
  by_cases ex:x=id
  ·subst ex
   rw[St.bZ _ _ _ hlim]at hx;cases hx;exact⟨w.heap.size,o',by simp[am.upd],by simp,ho.mono hle,λhk=>Nat.lt_irrefl _ (hbase _ hk)⟩
  ·rw[St.bh _ _ _ _ ex]at hx
   obtain⟨b,o2,g1,g2,g3,g4⟩:=hr.there x ox hx hrl;have:=hlt x ox b hx g1;exact⟨b,o2,hle _ _ g1,by simp only[Array.getElem?_push];rw[if_neg (by omega)];exact g2,g3.mono hle,g4⟩
 ·refine hr.J4 (λx ox g hx hg=>?_) hle (by unfold am.upd;rw[if_neg (by omega)]) (by simp) (λj _ hj=>?_) (λx ox bb hx hbb=>?_)
  ·by_cases e:x=id
   ·subst e
    rw[St.bZ _ _ _ hlim]at hx;cases hx;rw[dA.AZ ho]at hg;cases hg
   ·rw[St.bh _ _ _ _ e]at hx
    exact hx
  ·simp only[Array.getElem?_push]
   rw[if_neg (by omega)]
  ·by_cases e:x=id
   ·subst e
    simp only[am.upd,if_true,Option.some.injEq]at hbb;exact .inr (by omega)
   ·rw[St.bh _ _ _ _ e]at hx
    exact .inl ⟨x,ox,hx,hother x bb e hbb⟩
theorem wG(n:Nat):iF (4*n)=false:=by
 simp[iF]
theorem aq.new{α β:Type}{P:Program}{base:Nat->Prop}{R:am->α->β->Prop}{ι:am}{o o':Obj}{k:Nat->Sem α}{k':Nat->Sem β}(ho:gY P ι 0 o o')
  (h:∀ κ id b,jf ι κ->κ id=some b->iF id=false->aq P base R κ (k id) (k' b)):aq P base R ι (.new o k) (.new o' k'):=by
 intro s w c s1 hr ha hfr;have e0:4*s.next<lim/\aw P (k (4*s.next)) { (s.put (4*s.next) (some o)).touch (4*s.next) none true with next:=s.next+1 }=some (c,s1):=by
  simp only[aw]at ha
  split at ha
  ·rename_i hlt
   refine⟨hlt,?_⟩;cases o with
   | cells c0 e0 f0 =>
    obtain⟨hf,_⟩:=ho;subst hf;exact ha
   | map es n=>exact ha
   | mapIter m n se st=>exact ha
   | stringIter st p=>exact ha
   | loop l=>exact ha
   | deferred d=>exact ha
   | _=>exact ho.elim
  ·cases ha
 obtain⟨hlim,ha'⟩:=e0;have n1:=de P _ _ _ _ ha';have n2:s.next+1<=s1.next:=n1
 have hn:ι (4*s.next)=none:=hfr _ (Nat.le_refl _) (by omega);have hrep:=dA.new hr hlim (by omega) hn (ho.even (wG _));have MJ:dA P base (ι.upd (4*s.next) w.heap.size) ({ (s.put (4*s.next) (some o)).touch (4*s.next) none true with next:=s.next+1 } : St).look { w with heap:=w.heap.push o' }:=hrep
 obtain⟨κ,bb,w1,r1,p1,e1,q1,k1⟩:=h (ι.upd (4*s.next) w.heap.size) (4*s.next) w.heap.size (am.gZ hn) (by simp[am.upd]) (wG _) _ _ c s1 MJ ha' (by
  intro id h1 h2;have h1':4*(s.next+1)<=id:=h1;unfold am.upd;rw[if_neg (by omega)]
  exact hfr id (by omega) h2)
 refine⟨κ,bb,w1,r1,p1,?_,q1,?_⟩
 ·intro id hx
  rw[e1 id (by show id<4*(s.next+1)\/4*s1.next<=id;omega)];unfold am.upd;rw[if_neg (by omega)]
 ·exact((Out.refl base w).alloc hr.sz o').trans k1
theorem aq.getObj{α β:Type}{P:Program}{base:Nat->Prop}{R:am->α->β->Prop}{ι:am}{id b:Nat}{k:Obj->Sem α}{k':Obj->Sem β}(hb:ι id=some b)
  (h:∀ o o',gY P ι id o o'->(∀ c e f,o≠.cells c e f)->aq P base R ι (k o) (k' o')):aq P base R ι (.getObj id k) (.getObj b k'):=by
 intro s w c s1 hr ha hfr;have e0:∃ o,s.look id=some o/\(∀ c e f,o≠.cells c e f)/\aw P (k o) (s.touch id none false)=some (c,s1):=by
  simp only[aw]at ha
  split at ha
  ·rename_i hl
   exact⟨_,hl,(λ_ _ _ e=>by cases e),ha⟩
  ·rename_i hl
   exact⟨_,hl,(λ_ _ _ e=>by cases e),ha⟩
  ·rename_i hl
   exact⟨_,hl,(λ_ _ _ e=>by cases e),ha⟩
  ·rename_i hl
   exact⟨_,hl,(λ_ _ _ e=>by cases e),ha⟩
  ·rename_i hl
   exact⟨_,hl,(λ_ _ _ e=>by cases e),ha⟩
  ·cases ha
 obtain⟨o,hl,hne,ha'⟩:=e0;obtain⟨b',o',i1,i2,i3,i4⟩:=hr.there id _ hl (hr.real hl hb);rw[hb]at i1;cases i1;have hne':∀ c e f,o'≠.cells c e f:=by
  intro c e f e';subst e';cases o with
  | cells c0 e0 f0=>exact hne _ _ _ rfl
  | map es n=>obtain⟨es',h1,_⟩:=i3;cases h1
  | mapIter m n se st=>cases m with
   | none=>cases i3
   | some m=>obtain⟨m',_,h1⟩:=i3;cases h1
  | stringIter st p=>cases i3
  | loop l=>obtain⟨l',h1,_⟩:=i3;cases h1
  | deferred d=>cases i3.1
  | _=>exact i3
 have hrun:(Sem.getObj b k').run P w=(k' o').run P w:=by
  simp only[Sem.run,i2]
 rw[hrun];exact h o o' i3 hne (s.touch id none false) w c s1 hr ha' hfr
theorem aq.setObj{α β:Type}{P:Program}{base:Nat->Prop}{R:am->α->β->Prop}{ι:am}{id b:Nat}{o o':Obj}{k:Sem α}{k':Sem β}(hb:ι id=some b)(ho:gY P ι id o o')(hc:∀ c e f,o≠.cells c e f)
  (h:aq P base R ι k k'):aq P base R ι (.setObj id o k) (.setObj b o' k'):=by
 intro s w c s1 hr ha hfr;have e0:∃ o0,s.look id=some o0/\(∀ c e f,o0≠.cells c e f)/\id<lim/\aw P k ((s.put id (some o)).touch id none true)=some (c,s1):=by
  simp only[aw]at ha
  split at ha
  ·rename_i hl
   split at ha
   ·rename_i hlt
    exact⟨_,hl,(λ_ _ _ e=>by cases e),hlt,ha⟩
   ·cases ha
  ·rename_i hl
   split at ha
   ·rename_i hlt
    exact⟨_,hl,(λ_ _ _ e=>by cases e),hlt,ha⟩
   ·cases ha
  ·rename_i hl
   split at ha
   ·rename_i hlt
    exact⟨_,hl,(λ_ _ _ e=>by cases e),hlt,ha⟩
   ·cases ha
  ·rename_i hl
   split at ha
   ·rename_i hlt
    exact⟨_,hl,(λ_ _ _ e=>by cases e),hlt,ha⟩
   ·cases ha
  ·rename_i hl
   split at ha
   ·rename_i hlt
    exact⟨_,hl,(λ_ _ _ e=>by cases e),hlt,ha⟩
   ·cases ha
  ·cases ha
 obtain⟨o0,hl,hne,hlim,ha'⟩:=e0;obtain⟨b',o2,i1,i2,i3,i4⟩:=hr.there id _ hl (hr.real hl hb);rw[hb]at i1;cases i1;have hne':∀ c e f,o2≠.cells c e f:=by
  intro c e f e';subst e';cases o0 with
  | cells c0 e0 f0=>exact hne _ _ _ rfl
  | map es n=>obtain⟨es',h1,_⟩:=i3;cases h1
  | mapIter m n se st=>cases m with
   | none=>cases i3
   | some m=>obtain⟨m',_,h1⟩:=i3;cases h1
  | stringIter st p=>cases i3
  | loop l=>obtain⟨l',h1,_⟩:=i3;cases h1
  | deferred d=>cases i3.1
  | _=>exact i3
 have hrun:(Sem.setObj b o' k').run P w=k'.run P { w with heap:=w.heap.setIfInBounds b o' }:=by
  simp only[Sem.run,i2]
 rw[hrun];have hrep:dA P base ι ((s.put id (some o)).touch id none true).look { w with heap:=w.heap.setIfInBounds b o' }:=by
  refine dA.put (o:=o0) (b:=b) hr hlim hl hb ?_ ho ?_ ?_
  ·have hlt:b<w.heap.size:=by
    rcases Nat.lt_or_ge b w.heap.size with g | g
    ·exact g
    ·rw[Array.getElem?_eq_none g]at i2;cases i2
   simp[Array.getElem?_setIfInBounds,hlt]
  ·intro j hj
   simp only[Array.getElem?_setIfInBounds];rw[if_neg (λe=>hj e.symm)]
  ·simp
 obtain⟨κ,bb,w1,r1,p1,e1,q1,k1⟩:=h _ _ c s1 hrep ha' hfr;have hbl:Out base w { w with heap:=w.heap.setIfInBounds b o' }:=by
  refine⟨rfl,rfl,rfl,by simp,?_⟩;intro j hj;simp only[Array.getElem?_setIfInBounds];rw[if_neg (λe=>by subst e;exact i4 hj)]
 exact⟨κ,bb,w1,r1,p1,e1,q1,hbl.trans k1⟩
theorem aq.shape{α β:Type}{P:Program}{base:Nat->Prop}{R:am->α->β->Prop}{ι:am}{id b:Nat}{k:Option (TypeId×Nat)->Sem α}{k':Option (TypeId×Nat)->Sem β}(hb:ι id=some b)
  (h:∀ x,aq P base R ι (k x) (k' x)):aq P base R ι (.shape id k) (.shape b k'):=by
 intro s w c s1 hr ha hfr;have e0:∃ c0 t,s.look id=some (.cells c0 t (0,0))/\iF id=false/\aw P (k (some (t,c0.size))) (s.touch id (some 0) false)=some (c,s1):=by
  simp only[aw]at ha
  split at ha
  ·rename_i hg hl
   exact⟨_,_,hl,hg,ha⟩
  ·cases ha
 obtain⟨c0,t,hl,hg,ha'⟩:=e0;obtain⟨b',o',i1,i2,i3,i4⟩:=hr.there id _ hl (hr.real hl hb);rw[hb]at i1;cases i1;obtain⟨hf,c',rfl,j1,j2,j3,j4⟩:=i3;have hrun:(Sem.shape b k').run P w=(k' (some (t,c0.size))).run P w:=by
  simp only[Sem.run,World.shape?,i2,j2 hg]
 rw[hrun];exact h _ (s.touch id (some 0) false) w c s1 hr ha' hfr
theorem aq.frozen{α β:Type}{P:Program}{base:Nat->Prop}{R:am->α->β->Prop}{ι:am}{id off b off':Nat}{sp sp':Option Nat}{k:Bool->Sem α}{k':Bool->Sem β}(hb:ι id=some b)
  (h:aq P base R ι (k false) (k' false)):aq P base R ι (.frozen ⟨id,off,sp⟩ k) (.frozen ⟨b,off',sp'⟩ k'):=by
 intro s w c s1 hr ha hfr;have e0:∃ c0 t,s.look id=some (.cells c0 t (0,0))/\aw P (k false) (s.touch id (some 0) false)=some (c,s1):=by
  simp only[aw]at ha
  split at ha
  ·rename_i hl
   exact⟨_,_,hl,ha⟩
  ·cases ha
 obtain⟨c0,t,hl,ha'⟩:=e0;obtain⟨b',o',i1,i2,i3,i4⟩:=hr.there id _ hl (hr.real hl hb);rw[hb]at i1;cases i1;obtain⟨hf,c',rfl,j1,j2,j3,j4⟩:=i3;have hrun:(Sem.frozen ⟨b,off',sp'⟩ k').run P w=(k' false).run P w:=by
  simp[Sem.run,World.frozen?,i2]
 rw[hrun];exact h (s.touch id (some 0) false) w c s1 hr ha' hfr
end Go.Ev
