/- Part of a proof: see the last text. -/
import Derived.WalkKit
set_option linter.unusedSectionVars false
set_option linter.unusedSimpArgs false
set_option linter.unusedVariables false
namespace Go.Ev
open Go.RowKit
abbrev ag:=Nat->Option Nat
def gG(id:Nat):Bool:=id%4==1
def ib(ι κ:ag):Prop:=∀ id b,ι id=some b->κ id=some b
theorem ib.refl(ι:ag):ib ι ι:=λ_ _ h=>h
theorem ib.trans{ι κ μ:ag}(h:ib ι κ)(k:ib κ μ):ib ι μ:=λ_ _ x=>k _ _ (h _ _ x)
def zQ:Nat->Nat->Nat×Nat
 | 0,n=>(0,n)
 | f+1,n=>if n%2=1 then (0,n / 2) else ((zQ f (n / 2)).1+1,(zQ f (n / 2)).2)
def jq(n:Nat):Nat×Nat:=zQ n n
def fb(x y:Nat):Nat:=2 ^ x*(2*y+1)
theorem Be(x:Nat):∀ y f,x<f->zQ f (fb x y)=(x,y):=by
 induction x with
 | zero =>
  intro y f hf
  match f,hf with
  | f+1,_ =>
   unfold zQ fb;rw[if_pos (by omega)]
   congr 1
   omega
 | succ x ih =>
  intro y f hf
  match f,hf with
  | f+1,hf =>
   have e:fb (x+1) y=2*fb x y:=by unfold fb;rw[Nat.pow_succ,Nat.mul_comm (2 ^ x) 2,Nat.mul_assoc]
   unfold zQ;rw[e,if_neg (by omega),show 2*fb x y / 2=fb x y by omega,ih y f (by omega)]
theorem dQ(x y:Nat):jq (fb x y)=(x,y):=by
 refine Be x y _ ?_;have h1:x<2 ^ x:=Nat.lt_two_pow_self;have h2:2 ^ x*1<=2 ^ x*(2*y+1):=Nat.mul_le_mul_left _ (by omega);unfold fb;omega
def dec(c:Nat):Value :=
 match (jq c).1 with
 | 0=>.slice (some ⟨(jq (jq c).2).1,(jq (jq (jq c).2).2).1,none⟩) (jq (jq (jq (jq c).2).2).2).1 (jq (jq (jq (jq c).2).2).2).2
 | 1=>.pointer (some ⟨(jq (jq c).2).1,(jq (jq c).2).2,none⟩)
 | 2=>.map (some (jq c).2)
 | 3=>.slice none 0 0
 | 4=>.pointer none
 | 5=>.map none
 | 6=>.int .i64 (if (jq c).2%2=0 then (((jq c).2 / 2:Nat):Int) else-(((jq c).2 / 2:Nat):Int)-1)
 | _=>.int .u64 ((jq c).2:Nat)
theorem dU(b off n c:Nat):dec (fb 0 (fb b (fb off (fb n c))))=.slice (some ⟨b,off,none⟩) n c:=by simp only[dec,dQ]
theorem lL(b off:Nat):dec (fb 1 (fb b off))=.pointer (some ⟨b,off,none⟩):=by simp only[dec,dQ]
theorem j5(b:Nat):dec (fb 2 b)=.map (some b):=by simp only[dec,dQ]
theorem kS:dec (fb 3 0)=.slice none 0 0:=by simp only[dec,dQ]
theorem iM(n:Nat):dec (fb 7 n)=.int .u64 n:=by simp only[dec,dQ]
theorem ry(n:Int):∃ c,dec c=.int .i64 n:=by
 cases n with
 | ofNat n =>
  refine⟨fb 6 (2*n),?_⟩;simp only[dec,dQ];rw[if_pos (by omega),show 2*n / 2=n by omega];rfl
 | negSucc n =>
  refine⟨fb 6 (2*n+1),?_⟩;simp only[dec,dQ];rw[if_neg (by omega),show(2*n+1) / 2=n by omega,Int.negSucc_eq]
  congr 1
  omega
def aR:Value->Bool
 | .bool _ | .agg _ | .tuple _ | .complex _ _ _=>false
 | _=>true
def Hk:Value->Bool
 | .bool _ | .agg _ | .tuple _=>false
 | _=>true
theorem cV(c:Nat):aR (dec c)=true:=by
 unfold dec
 split<;>rfl
def zS(j n:Nat):Nat :=
 match j with
 | 0=>(jq n).1
 | 1=>(jq (jq n).2).1
 | 2=>(jq (jq n).2).2
 | 3=>(jq (jq (jq n).2).2).1
 | _=>(jq (jq (jq n).2).2).2
def aq(j:Nat)(v:Value):Value :=
 match v with
 | .int _ n=>dec (zS j n.toNat)
 | _=>.nilIface
theorem mR(j:Nat)(v:Value):aR (aq j v)=true:=by
 unfold aq
 split
 ·exact cV _
 ·rfl
theorem gI(a b c:Nat):aq 0 (.int .u64 ((fb a (fb b c):Nat):Int))=dec a:=by simp only[aq,zS,Int.toNat_natCast,dQ]
theorem gJ(a b c:Nat):aq 1 (.int .u64 ((fb a (fb b c):Nat):Int))=dec b:=by simp only[aq,zS,Int.toNat_natCast,dQ]
theorem kA(a b c:Nat):aq 2 (.int .u64 ((fb a (fb b c):Nat):Int))=dec c:=by simp only[aq,zS,Int.toNat_natCast,dQ]
theorem yr(a b c d:Nat):aq 3 (.int .u64 ((fb a (fb b (fb c d)):Nat):Int))=dec c:=by simp only[aq,zS,Int.toNat_natCast,dQ]
theorem yu(a b c d:Nat):aq 4 (.int .u64 ((fb a (fb b (fb c d)):Nat):Int))=dec d:=by simp only[aq,zS,Int.toNat_natCast,dQ]
def lK(val:Nat->Value):Value->Value
 | .complex .f64 n _=>val n
 | v=>v
def dp:Value->Bool
 | .bool _ | .int _ _ | .float _ _ | .string _ | .complex .f64 _ _=>true
 | .pointer none | .slice none 0 0 | .map none | .nilFunc | .nilIface=>true
 | _=>false
abbrev GQ:=Nat->Nat->Option (Value×Option Nat)
inductive oa where
 | now (q:GQ)
 | src (sz j:Nat) (q:List Value->GQ)
 | stay (r:Value)
def oa.q:oa->List Value->GQ
 | .now q,_=>q
 | .src _ _ q,c=>q c
 | .stay r,_=>λ_ _=>some (r,none)
class aL where
  val:Nat->Value
  leaf:∀ n,aR (val n)=true
  bin:BinOp->Value->Value->Option Value
  wj:∀ op x y r,bin op x y=some r->dp x=true/\dp y=true/\dp r=true/\∀ t ox oy,(do eqGuard op t ox oy (lK val x) (lK val y);binOp op t (lK val x) (lK val y):Sem Value)=pure (lK val r)
  J2:UnOp->Value->Option Value
  wk:∀ op x r,J2 op x=some r->dp x=true/\dp r=true/\Op.unary op (lK val x)=pure (lK val r)
  J3:IntKind->Value->Option Value
  wm:∀ k x r,J3 k x=some r->dp x=true/\dp r=true/\∃ k0 n,lK val x=.int k0 n/\lK val r=.int k (k.wrap n)
  EK:FuncId->List Value->Option Value
  yv:∀ f l r,EK f l=some r->dp r=true
  GR:Nat->ag->(Nat->Prop)->World->Prop
  rz:∀ g ι F w w',(∀ j,F j->w'.heap[j]? = w.heap[j]?)->GR g ι F w->GR g ι F w'
  rA:∀ g ι κ F w,ib ι κ->GR g ι F w->GR g κ F w
  EG:Op->List Value->Option oa
  tW:FuncId->List Value->Option GQ
variable[aL]
inductive aw(ι:ag):Value->Value->Prop
 | bool (b:Bool):aw ι (.bool b) (.bool b)
 | int (k:IntKind) (n:Int):aw ι (.int k n) (.int k n)
 | float (k:FloatKind) (n:Nat):aw ι (.float k n) (.float k n)
 | sym (n m:Nat) (v':Value) (h:aL.val n=v'):aw ι (.complex .f64 n m) v'
 | dyn (id c:Nat) (v':Value) (h:ι id=some c) (h':dec c=v'):aw ι (.complex .f32 id 0) v'
 | junk (n:Nat) (v':Value) (h:Hk v'=true):aw ι (.complex .f32 n 1) v'
 | oR (id c j:Nat) (v':Value) (h:ι id=some c) (h':aq j (dec c)=v'):aw ι (.complex .f32 id (j+2)) v'
 | string (s:ByteArray):aw ι (.string s) (.string s)
 | lM:aw ι (.pointer none) (.pointer none)
 | ptr (id off b:Nat) (h:ι id=some b):aw ι (.pointer (some ⟨id,off,none⟩)) (.pointer (some ⟨b,off,none⟩))
 | cz:aw ι (.slice none 0 0) (.slice none 0 0)
 | slice (id off b n c c':Nat) (h:ι id=some b) (h0:gG id=false->c=c') (h1:gG id=true->c<=c'/\(off=0->ι (id+1)=some c')) (h2:0<c) (h3:n<=c):aw ι (.slice (some ⟨id,off,none⟩) n c) (.slice (some ⟨b,off,none⟩) n c')
 | cD (id off b:Nat) (h:ι id=some b) (h0:gG id=false):aw ι (.slice (some ⟨id,off,none⟩) 0 0) (.slice (some ⟨b,off,none⟩) 0 0)
 | kU:aw ι (.map none) (.map none)
 | map (id b:Nat) (h:ι id=some b):aw ι (.map (some id)) (.map (some b))
 | func (fn:Fn) (f f' c c':Array Value) (hy:∀ l,fn≠.yield l) (hf:f.size=f'.size) (hc:c.size=c'.size)
   (h:∀ (i:Nat) (v v':Value),f[i]? = some v->f'[i]? = some v'->aw ι v v') (h':∀ (i:Nat) (v v':Value),c[i]? = some v->c'[i]? = some v'->aw ι v v'):aw ι (.func fn f c) (.func fn f' c')
 | yield (id b:Nat) (h:ι id=some b):aw ι (.func (.yield id) #[] #[]) (.func (.yield b) #[] #[])
 | nilFunc:aw ι .nilFunc .nilFunc
 | iface (t:TypeId) (v v':Value) (h:aw ι v v'):aw ι (.iface t v) (.iface t v')
 | nilIface:aw ι .nilIface .nilIface
 | agg (f f':Array Value) (hf:f.size=f'.size) (h:∀ (i:Nat) (v v':Value),f[i]? = some v->f'[i]? = some v'->aw ι v v'):aw ι (.agg f) (.agg f')
 | tuple (f f':Array Value) (hf:f.size=f'.size) (h:∀ (i:Nat) (v v':Value),f[i]? = some v->f'[i]? = some v'->aw ι v v'):aw ι (.tuple f) (.tuple f')
def bk(ι:ag)(f f':Array Value):Prop:=f.size=f'.size/\∀ (i:Nat) (v v':Value),f[i]? = some v->f'[i]? = some v'->aw ι v v'
theorem aw.mono{ι κ:ag}(hk:ib ι κ){v v':Value}(h:aw ι v v'):aw κ v v':=by
 induction h with
 | bool b=>exact .bool b
 | int k n=>exact .int k n
 | float k n=>exact .float k n
 | sym n m v' h=>exact .sym n m v' h
 | dyn id c v' h h'=>exact .dyn id c v' (hk _ _ h) h'
 | junk n v' h=>exact .junk n v' h
 | oR id c j v' h h'=>exact .oR id c j v' (hk _ _ h) h'
 | string s=>exact .string s
 | lM=>exact .lM
 | ptr id off b h=>exact .ptr id off b (hk _ _ h)
 | cz=>exact .cz
 | slice id off b n c c' h h0 h1 h2 h3=>exact .slice id off b n c c' (hk _ _ h) h0 (λg=>⟨(h1 g).1,λe=>hk _ _ ((h1 g).2 e)⟩) h2 h3
 | cD id off b h h0=>exact .cD id off b (hk _ _ h) h0
 | kU=>exact .kU
 | map id b h=>exact .map id b (hk _ _ h)
 | func fn f f' c c' hy hf hc h h' ih ih'=>exact .func fn f f' c c' hy hf hc ih ih'
 | yield id b h=>exact .yield id b (hk _ _ h)
 | nilFunc=>exact .nilFunc
 | iface t v v' h ih=>exact .iface t v v' ih
 | nilIface=>exact .nilIface
 | agg f f' hf h ih=>exact .agg f f' hf ih
 | tuple f f' hf h ih=>exact .tuple f f' hf ih
theorem bk.mono{ι κ:ag}(hk:ib ι κ){f f':Array Value}(h:bk ι f f'):bk κ f f':=⟨h.1,λi v v' a b=>(h.2 i v v' a b).mono hk⟩
inductive Tr where
 | leaf
 | node (v:Option Obj) (l r:Tr)
def Tr.get:Nat->Tr->Nat->Option Obj
 | 0,_,_=>none
 | _+1,.leaf,_=>none
 | d+1,.node v l r,n=>if n=0 then v else if n%2=0 then l.get d (n / 2) else r.get d (n / 2)
def Tr.val:Tr->Option Obj
 | .leaf=>none
 | .node v _ _=>v
def Tr.wo:Tr->Tr
 | .leaf=>.leaf
 | .node _ l _=>l
def Tr.wq:Tr->Tr
 | .leaf=>.leaf
 | .node _ _ r=>r
def Tr.set:Nat->Tr->Nat->Option Obj->Tr
 | 0,t,_,_=>t
 | d+1,t,n,x=>if n=0 then .node x t.wo t.wq else if n%2=0 then .node t.val (t.wo.set d (n / 2) x) t.wq else .node t.val t.wo (t.wq.set d (n / 2) x)
theorem Tr.jr(d n:Nat):Tr.leaf.get d n=none:=by cases d<;>rfl
theorem Tr.rB(d:Nat)(t:Tr)(n:Nat):t.get (d+1) n=if n=0 then t.val else if n%2=0 then t.wo.get d (n / 2) else t.wq.get d (n / 2):=by
 cases t with
 | leaf=>simp[Tr.get,Tr.val,Tr.wo,Tr.wq,Tr.jr]
 | node v l r=>rfl
theorem Tr.get_set_same(d:Nat):∀ (t:Tr) (n:Nat) (x:Option Obj),n<2 ^ d->(t.set (d+1) n x).get (d+1) n=x:=by
 induction d with
 | zero =>
  intro t n x h;obtain rfl:n=0:=by simp at h;exact h
  rfl
 | succ d ih =>
  intro t n x h;have hp:2 ^ (d+1)=2*2 ^ d:=by rw[Nat.pow_succ,Nat.mul_comm]
  rw[Tr.rB]
  by_cases h0:n=0
  ·subst h0
   simp[Tr.set,Tr.val]
  ·simp only[Tr.set,h0,if_false]
   by_cases h1:n%2=0
   ·simp only[h1,if_true,Tr.wo]
    exact ih _ _ _ (by omega)
   ·simp only[h1,if_false,Tr.wq]
    exact ih _ _ _ (by omega)
theorem Tr.get_set_other(d:Nat):∀ (t:Tr) (n m:Nat) (x:Option Obj),m≠n->(t.set d n x).get d m=t.get d m:=by
 induction d with
 | zero=>intro t n m x h;rfl
 | succ d ih =>
  intro t n m x h;rw[Tr.rB,Tr.rB d t]
  by_cases h0:n=0
  ·subst h0
   simp[Tr.set,h,Tr.wo,Tr.wq]
  ·simp only[Tr.set,h0,if_false]
   by_cases hm:m=0
   ·subst hm
    by_cases h1:n%2=0<;>simp[h1,Tr.val]
   ·by_cases h1:n%2=0
    ·simp only[h1,if_true,Tr.wo,Tr.wq,hm,if_false]
     by_cases h2:m%2=0
     ·simp only[h2,if_true]
      exact ih _ _ _ _ (by omega)
     ·simp only[h2,if_false]
    ·simp only[h1,if_false,Tr.wo,Tr.wq,hm]
     by_cases h2:m%2=0
     ·simp only[h2,if_true]
     ·simp only[h2,if_false]
      exact ih _ _ _ _ (by omega)
structure Touch where
 id:Nat
 at_:Option Nat
 wr:Bool
def deep:Nat:=30
def lim:Nat:=536870912
structure St where
 heap:Tr
 next:Nat
 log:List Touch
def St.look(s:St)(id:Nat):Option Obj:=s.heap.get deep id
def St.touch(s:St)(id:Nat)(a:Option Nat)(wr:Bool):St:={ s with log:=⟨id,a,wr⟩::s.log }
def St.put(s:St)(id:Nat)(o:Option Obj):St:={ s with heap:=s.heap.set deep id o }
theorem St.bA(s:St)(id:Nat)(o:Option Obj)(h:id<lim):(s.put id o).look id=o:=by
 unfold St.look St.put;exact Tr.get_set_same 29 _ _ _ h
theorem St.aU(s:St)(id j:Nat)(o:Option Obj)(h:j≠id):(s.put id o).look j=s.look j:=by
 unfold St.look St.put;rw[Tr.get_set_other _ _ _ _ _ h]
def oneCell:Value->Bool
 | .agg _ | .tuple _ | .complex .f32 _ 1=>false
 | _=>true
def aC{α:Type}(P:Program):Sem α->St->Option (α×St)
 | .pure a,s=>some (a,s)
 | .load _ a k,s =>
  match a.spot,s.look a.block with
  | none,some (.cells c _ _) =>
   match c[a.off]? with
   | some v=>aC P (k v) (s.touch a.block (some a.off) false)
   | none=>none
  | _,_=>none
 | .store _ a v k,s =>
  match oneCell v,a.spot,s.look a.block with
  | true,none,some (.cells c e (0,0)) =>
   if a.off<c.size/\a.block<lim then aC P k ((s.put a.block (some (.cells (c.setIfInBounds a.off v) e (0,0)))).touch a.block (some a.off) true) else none
  | _,_,_=>none
 | .new o k,s =>
  if 4*s.next<lim then
   match o with
   | .cells c e (0,0)=>aC P (k (4*s.next)) { (s.put (4*s.next) (some (.cells c e (0,0)))).touch (4*s.next) none true with next:=s.next+1 }
   | .map es n=>aC P (k (4*s.next)) { (s.put (4*s.next) (some (.map es n))).touch (4*s.next) none true with next:=s.next+1 }
   | .mapIter m n se st=>aC P (k (4*s.next)) { (s.put (4*s.next) (some (.mapIter m n se st))).touch (4*s.next) none true with next:=s.next+1 }
   | .stringIter st p=>aC P (k (4*s.next)) { (s.put (4*s.next) (some (.stringIter st p))).touch (4*s.next) none true with next:=s.next+1 }
   | .loop l=>aC P (k (4*s.next)) { (s.put (4*s.next) (some (.loop l))).touch (4*s.next) none true with next:=s.next+1 }
   | .deferred d=>aC P (k (4*s.next)) { (s.put (4*s.next) (some (.deferred d))).touch (4*s.next) none true with next:=s.next+1 }
   | _=>none
  else none
 | .shape r k,s =>
  match gG r,s.look r with
  | false,some (.cells c e (0,0))=>aC P (k (some (e,c.size))) (s.touch r (some 0) false)
  | _,_=>none
 | .getObj r k,s =>
  match s.look r with
  | some (.map es n)=>aC P (k (.map es n)) (s.touch r none false)
  | some (.mapIter m n se st)=>aC P (k (.mapIter m n se st)) (s.touch r none false)
  | some (.stringIter st p)=>aC P (k (.stringIter st p)) (s.touch r none false)
  | some (.loop l)=>aC P (k (.loop l)) (s.touch r none false)
  | some (.deferred d)=>aC P (k (.deferred d)) (s.touch r none false)
  | _=>none
 | .setObj r o k,s =>
  match s.look r,o with
  | some (.map _ _),.map es n=>if r<lim then aC P k ((s.put r (some (.map es n))).touch r none true) else none
  | some (.mapIter _ _ _ _),.mapIter m n se st=>if r<lim then aC P k ((s.put r (some (.mapIter m n se st))).touch r none true) else none
  | some (.stringIter _ _),.stringIter st p=>if r<lim then aC P k ((s.put r (some (.stringIter st p))).touch r none true) else none
  | some (.loop _),.loop l=>if r<lim then aC P k ((s.put r (some (.loop l))).touch r none true) else none
  | some (.deferred _),.deferred d=>if r<lim then aC P k ((s.put r (some (.deferred d))).touch r none true) else none
  | _,_=>none
 | .choose q k,s=>if q.forced then aC P (k 0) s else none
 | .program k,s=>aC P (k P) s
 | .mark _ k,s=>aC P k s
 | .frozen a k,s =>
  match s.look a.block with
  | some (.cells c e (0,0))=>aC P (k false) (s.touch a.block (some 0) false)
  | _=>none
 | .freeze _ _ _,_=>none
 | .sys _ _,_=>none
 | .halt _,_=>none
def gX:Value->Bool
 | .int _ _ | .string _=>true
 | _=>false
def cW(ι:ag)(es es':Array MapEntry):Prop :=
 es.size=es'.size/\∀ (i:Nat) (e e':MapEntry),es[i]? = some e->es'[i]? = some e'->aw ι e.key e'.key/\aw ι e.val e'.val/\e.born=e'.born/\gX e.key=true
def aY(P:Program)(c:Code):Prop:=∃ fn bl lb,CheckCode.code P fn bl lb c=.ok ()
structure lN(P:Program)(ι:ag)(l l':Loop):Prop where
 state:l.state=l'.state
 pending:l.pending=l'.pending
 tmps:bk ι l.tmps l'.tmps
 params:l.params=l'.params
 assign:l.assign=l'.assign
 body:l.body=l'.body
 defers:ι l.defers=some l'.defers
 ok1:aY P l.assign
 zT:aY P l.body
def fF(P:Program)(ι:ag)(id:Nat):Obj->Obj->Prop
 | .cells c e f,o'=>f=(0,0)/\∃ c',o'=.cells c' e (0,0)/\c.size<=c'.size/\(gG id=false->c.size=c'.size)/\(∀ (i:Nat) (v v':Value),c[i]? = some v->c'[i]? = some v'->aw ι v v')/\(gG id=true->∃ n t,ι (id+1)=some n/\P.info? e=some t/\c'.size=n*t.size)
 | .map es n,o'=>∃ es',o'=.map es' n/\cW ι es es'
 | .mapIter none n se st,o'=>o'=.mapIter none n se st
 | .mapIter (some m) n se st,o'=>∃ m',ι m=some m'/\o'=.mapIter (some m') n se st
 | .stringIter st p,o'=>o'=.stringIter st p
 | .loop l,o'=>∃ l',o'=.loop l'/\lN P ι l l'
 | .deferred d,o'=>o'=.deferred d/\(d=none\/d=some [])
 | _,_=>False
def ob:Obj->Option Nat
 | .view a _=>some a.block
 | _=>none
structure bY(P:Program)(base:Nat->Prop)(ι:ag)(H:Nat->Option Obj)(w:World):Prop where
 inj:∀ id id' o o' b,H id=some o->H id'=some o'->ι id=some b->ι id'=some b->id=id'
 there:∀ id o,H id=some o->ob o=none->∃ b o',ι id=some b/\w.heap[b]? = some o'/\fF P ι id o o'/\¬ base b
 sz:∀ k,base k->k<w.heap.size
 gh:∀ id o g,H id=some o->ob o=some g->id=3/\ι 3=none/\∃ F:Nat->Prop,aL.GR g ι F w/\(∀ j,F j->j<w.heap.size/\¬ base j)/\∀ x ox b,H x=some ox->ι x=some b->¬ F b
structure Out(K:Nat->Prop)(w w':World):Prop where
 os:w'.os=w.os
 tape:w'.tape=w.tape
 output:w'.output=w.output
 size:w.heap.size<=w'.heap.size
 block:∀ k,K k->w'.heap[k]? = w.heap[k]?
theorem Out.refl(K:Nat->Prop)(w:World):Out K w w:=⟨rfl,rfl,rfl,Nat.le_refl _,λ_ _=>rfl⟩
theorem Out.trans{K:Nat->Prop}{a b c:World}(h:Out K a b)(k:Out K b c):Out K a c :=
 ⟨k.os.trans h.os,k.tape.trans h.tape,k.output.trans h.output,Nat.le_trans h.size k.size,λi hi=>(k.block i hi).trans (h.block i hi)⟩
theorem Out.mono{K K':Nat->Prop}{w w':World}(h:Out K w w')(hK:∀ k,K' k->K k):Out K' w w':=⟨h.os,h.tape,h.output,h.size,λk hk=>h.block k (hK k hk)⟩
theorem Out.drew{K:Nat->Prop}{a w:World}(h:Out K a w):Out K a w.drew:=⟨h.os,h.tape,h.output,h.size,h.block⟩
theorem Out.alloc{K:Nat->Prop}{a w:World}(h:Out K a w)(hK:∀ k,K k->k<w.heap.size)(o:Obj):Out K a (w.alloc o) :=
 h.trans ⟨rfl,rfl,rfl,by simp,λk hk=>Below.heap_alloc _ _ _ (hK k hk)⟩
theorem Out.setCell{K:Nat->Prop}{a w:World}(h:Out K a w){p:Addr}(hp:¬ K p.block)(u:Value):Out K a (w.setCell p u) :=
 h.trans ⟨rfl,rfl,rfl,by simp[World.setCell],λk hk=>Below.heap_setCell _ _ _ _ (λe=>hp (e▸hk))⟩
theorem Out.below{B:Nat}{w w':World}(h:Out (· < B) w w'):Below B w w':=⟨h.os,h.tape,h.output,h.size,λk hk=>h.block k hk⟩
theorem Below.out{B:Nat}{w w':World}(h:Below B w w'){K:Nat->Prop}(hK:∀ k,K k->k<B):Out K w w':=⟨h.os,h.tape,h.output,h.size,λk hk=>h.block k (hK k hk)⟩
theorem fF.mono{P:Program}{ι κ:ag}(hk:ib ι κ){id:Nat}{o o':Obj}(h:fF P ι id o o'):fF P κ id o o':=by
 cases o with
 | cells c e f =>
  obtain⟨h0,c',h1,h2,h3,h4,h5⟩:=h;exact⟨h0,c',h1,h2,h3,λi v v' a b=>(h4 i v v' a b).mono hk,λg=>by obtain⟨n,t,a,b⟩:=h5 g;exact⟨n,t,hk _ _ a,b⟩⟩
 | map es n =>
  obtain⟨es',h1,h2,h3⟩:=h;exact⟨es',h1,h2,λi e e' a b=>⟨(h3 i e e' a b).1.mono hk,(h3 i e e' a b).2.1.mono hk,(h3 i e e' a b).2.2⟩⟩
 | mapIter m n se st =>
  cases m with
  | none=>exact h
  | some m=>obtain⟨m',h1,h2⟩:=h;exact⟨m',hk _ _ h1,h2⟩
 | loop l=>obtain⟨l',h1,h2⟩:=h;exact⟨l',h1,h2.state,h2.pending,h2.tmps.mono hk,h2.params,h2.assign,h2.body,hk _ _ h2.defers,h2.ok1,h2.zT⟩
 | _=>exact h
theorem bY.real{P:Program}{base:Nat->Prop}{ι:ag}{H:Nat->Option Obj}{w:World}(hr:bY P base ι H w){id b:Nat}{o:Obj}(hl:H id=some o)(hb:ι id=some b):ob o=none:=by
 cases hg:ob o with
 | none=>rfl
 | some g =>
  obtain⟨rfl,h3,_⟩:=hr.gh id o g hl hg;rw[h3]at hb;cases hb
theorem bY.yw{P:Program}{ι:ag}{id:Nat}{o o':Obj}(h:fF P ι id o o'):ob o=none:=by
 cases o<;>first | rfl | exact h.elim
def aA{α β:Type}(P:Program)(base:Nat->Prop)(R:ag->α->β->Prop)(ι:ag)(m:Sem α)(m':Sem β):Prop :=
 ∀ (s:St) (w:World) (a:α) (s1:St),bY P base ι s.look w->aC P m s=some (a,s1)->(∀ id,4*s.next<=id->id<4*s1.next->ι id=none)->
  ∃ (κ:ag) (b:β) (w1:World),m'.run P w=.ok b w1/\bY P base κ s1.look w1/\(∀ id,(id<4*s.next\/4*s1.next<=id)->κ id=ι id)/\R κ a b/\Out base w w1
theorem j6{α β:Type}(P:Program)(m:Sem α)(f:α->Sem β):∀ s:St,aC P (m.bind f) s=(aC P m s).bind λ(a,s1)=>aC P (f a) s1:=by
 induction m with
 | pure a=>intro s;rfl
 | load md a k ih =>
  intro s;simp only[Sem.bind,aC]
  split
  ·split
   ·exact ih _ _
   ·rfl
  ·rfl
 | store md a v k ih =>
  intro s;simp only[Sem.bind,aC]
  split
  ·split
   ·exact ih _
   ·rfl
  ·rfl
 | new o k ih =>
  intro s;simp only[Sem.bind,aC]
  split
  ·split<;>first | exact ih _ _ | rfl
  ·rfl
 | shape r k ih =>
  intro s;simp only[Sem.bind,aC]
  split<;>first | exact ih _ _ | rfl
 | freeze a n k ih=>intro s;rfl
 | frozen a k ih =>
  intro s;simp only[Sem.bind,aC]
  split<;>first | exact ih _ _ | rfl
 | getObj r k ih =>
  intro s;simp only[Sem.bind,aC]
  split<;>first | exact ih _ _ | rfl
 | setObj r o k ih =>
  intro s;simp only[Sem.bind,aC]
  split
  ·split<;>first | exact ih _ | rfl
  ·split<;>first | exact ih _ | rfl
  ·split<;>first | exact ih _ | rfl
  ·split<;>first | exact ih _ | rfl
  ·split<;>first | exact ih _ | rfl
  ·rfl
 | choose q k ih =>
  intro s;simp only[Sem.bind,aC]
  split<;>first | exact ih _ _ | rfl
 | sys c k ih=>intro s;rfl
 | program k ih=>intro s;exact ih _ _
 | mark m k ih=>intro s;exact ih _
 | halt h=>intro s;rfl
theorem cq{α:Type}(P:Program)(m:Sem α):∀ (s s1:St) (a:α),aC P m s=some (a,s1)->s.next<=s1.next:=by
 induction m with
 | pure a=>intro s s1 b h;simp only[aC,Option.some.injEq,Prod.mk.injEq]at h;rw[← h.2];exact Nat.le_refl _
 | load md a k ih =>
  intro s s1 b h;simp only[aC]at h
  split at h
  ·split at h
   ·(have hh:=ih _ _ _ _ h;exact hh)
   ·cases h
  ·cases h
 | store md a v k ih =>
  intro s s1 b h;simp only[aC]at h
  split at h
  ·split at h
   ·(have hh:=ih _ _ _ h;exact hh)
   ·cases h
  ·cases h
 | new o k ih =>
  intro s s1 b h;simp only[aC]at h
  split at h
  ·split at h<;>first | (have hh:=ih _ _ _ _ h;exact Nat.le_of_succ_le hh) | cases h
  ·cases h
 | shape r k ih =>
  intro s s1 b h;simp only[aC]at h
  split at h<;>first | (have hh:=ih _ _ _ _ h;exact hh) | cases h
 | freeze a n k ih=>intro s s1 b h;cases h
 | frozen a k ih =>
  intro s s1 b h;simp only[aC]at h
  split at h<;>first | (have hh:=ih _ _ _ _ h;exact hh) | cases h
 | getObj r k ih =>
  intro s s1 b h;simp only[aC]at h
  split at h<;>first | (have hh:=ih _ _ _ _ h;exact hh) | cases h
 | setObj r o k ih =>
  intro s s1 b h;simp only[aC]at h
  split at h
  ·split at h<;>first | (have hh:=ih _ _ _ h;exact hh) | cases h
  ·split at h<;>first | (have hh:=ih _ _ _ h;exact hh) | cases h
  ·split at h<;>first | (have hh:=ih _ _ _ h;exact hh) | cases h
  ·split at h<;>first | (have hh:=ih _ _ _ h;exact hh) | cases h
  ·split at h<;>first | (have hh:=ih _ _ _ h;exact hh) | cases h
  ·cases h
 | choose q k ih =>
  intro s s1 b h;simp only[aC]at h
  split at h<;>first | (have hh:=ih _ _ _ _ h;exact hh) | cases h
 | sys c k ih=>intro s s1 b h;cases h
 | program k ih=>intro s s1 b h;(have hh:=ih _ _ _ _ h;exact hh)
 | mark m k ih=>intro s s1 b h;(have hh:=ih _ _ _ h;exact hh)
 | halt h=>intro s s1 b h;cases h
theorem aA.bind{α β γ δ:Type}{P:Program}{base:Nat->Prop}{R:ag->α->β->Prop}{R':ag->γ->δ->Prop}{ι:ag}{m:Sem α}{m':Sem β}{f:α->Sem γ}{f':β->Sem δ}
  (h:aA P base R ι m m') (hf:∀ κ a b,ib ι κ->R κ a b->aA P base R' κ (f a) (f' b)):aA P base R' ι (m.bind f) (m'.bind f'):=by
 intro s w c s2 hr ha hfr;rw[j6]at ha;cases hm:aC P m s with
 | none=>rw[hm]at ha;cases ha
 | some x =>
  obtain⟨a,s1⟩:=x;rw[hm]at ha;have ha':aC P (f a) s1=some (c,s2):=ha;have n1:=cq P m _ _ _ hm;have n2:=cq P (f a) _ _ _ ha';obtain⟨κ,b,w1,r1,p1,e1,q1,k1⟩:=h s w a s1 hr hm (λid x y=>hfr id x (by omega));have J4:ib ι κ:=by
   intro id b' hb
   by_cases hx:id<4*s.next\/4*s1.next<=id
   ·rw[e1 id hx];exact hb
   ·rw[hfr id (by omega) (by omega)]at hb;cases hb
  obtain⟨μ,d,w2,r2,p2,e2,q2,k2⟩:=hf κ a b J4 q1 s1 w1 c s2 p1 ha' (λid x y=>by rw[e1 id (by omega)];exact hfr id (by omega) y);refine⟨μ,d,w2,?_,p2,?_,q2,k1.trans k2⟩
  ·show(m' >>= f').run P w=_
   rw[Sem.run_bind,r1];exact r2
  ·intro id hx
   rw[e2 id (by omega),e1 id (by omega)]
theorem aA.pure{α β:Type}{P:Program}{base:Nat->Prop}{R:ag->α->β->Prop}{ι:ag}{a:α}{b:β}(h:R ι a b):aA P base R ι (.pure a) (.pure b):=by
 intro s w c s1 hr ha hfr;simp only[aC,Option.some.injEq,Prod.mk.injEq]at ha;obtain⟨rfl,rfl⟩:=ha;exact⟨ι,b,w,rfl,hr,λ_ _=>rfl,h,Out.refl _ _⟩
theorem aA.program{α β:Type}{P:Program}{base:Nat->Prop}{R:ag->α->β->Prop}{ι:ag}{k:Program->Sem α}{k':Program->Sem β}(h:aA P base R ι (k P) (k' P)):aA P base R ι (.program k) (.program k') :=
 λs w c s1 hr ha hfr=>h s w c s1 hr ha hfr
theorem aA.halt{α β:Type}{P:Program}{base:Nat->Prop}{R:ag->α->β->Prop}{ι:ag}{h:Halt}{m':Sem β} : aA P base R ι (Sem.halt h:Sem α) m':=by
 intro s w c s1 hr ha hfr;cases ha
theorem aA.mark{α β:Type}{P:Program}{base:Nat->Prop}{R:ag->α->β->Prop}{ι:ag}{m m2:Mark}{k:Sem α}{k':Sem β}(h:aA P base R ι k k'):aA P base R ι (.mark m k) (.mark m2 k') :=
 λs w c s1 hr ha hfr=>h s w c s1 hr ha hfr
theorem aA.choose{α β:Type}{P:Program}{base:Nat->Prop}{R:ag->α->β->Prop}{ι:ag}{q q':Question}{k:Nat->Sem α}{k':Nat->Sem β}(hq:q.forced=true->q'.forced=true)(h:aA P base R ι (k 0) (k' 0)):aA P base R ι (.choose q k) (.choose q' k'):=by
 intro s w c s1 hr ha hfr;simp only[aC]at ha
 split at ha
 ·rename_i hf
  obtain⟨κ,b,w1,r1,rest⟩:=h s w c s1 hr ha hfr;exact⟨κ,b,w1,by simp only[Sem.run,hq hf,if_true];exact r1,rest⟩
 ·cases ha
theorem run_load{β:Type}{P:Program}{w:World}{md:Mode}{a:Addr}{k:Value->Sem β}{v:Value}(h:w.cell? a=some v):(Sem.load md a k).run P w=(k v).run P w:=by
 simp only[Sem.run,h]
theorem aA.load{α β:Type}{P:Program}{base:Nat->Prop}{R:ag->α->β->Prop}{ι:ag}{md Ki:Mode}{id off b:Nat}{k:Value->Sem α}{k':Value->Sem β}(hb:ι id=some b)
  (h:∀ v v',aw ι v v'->aA P base R ι (k v) (k' v')):aA P base R ι (.load md ⟨id,off,none⟩ k) (.load Ki ⟨b,off,none⟩ k'):=by
 intro s w c s1 hr ha hfr;simp only[aC]at ha;cases hl:s.look id with
 | none=>simp[hl]at ha
 | some o =>
  cases o with
  | cells c0 e0 f0 =>
   simp only[hl]at ha;cases hv:c0[off]? with
   | none=>simp[hv]at ha
   | some v =>
    simp only[hv]at ha;obtain⟨b',o',i1,i2,i3,i4⟩:=hr.there id _ hl (hr.real hl hb);rw[hb]at i1;cases i1;obtain⟨hf,c',rfl,j1,j2,j3,j4⟩:=i3;have hlt:off<c0.size:=by
     rcases Nat.lt_or_ge off c0.size with g | g
     ·exact g
     ·rw[Array.getElem?_eq_none g]at hv;cases hv
    have hv':c'[off]? = some (c'[off]'(by omega)):=Array.getElem?_eq_getElem (by omega);have hcell:w.cell? ⟨b,off,none⟩=some (c'[off]'(by omega)):=by
     simp[World.cell?,i2,hv']
    rw[run_load hcell];exact h v _ (j3 off v _ hv hv') (s.touch id (some off) false) w c s1 hr ha hfr
  | _=>simp[hl]at ha
theorem heap_setCell_same{w:World}{b off:Nat}{v:Value}{c:Array Value}{e:TypeId}(h:w.heap[b]? = some (.cells c e (0,0))):(w.setCell ⟨b,off,none⟩ v).heap[b]? = some (.cells (c.setIfInBounds off v) e (0,0)):=by
 simp[World.setCell,Array.getElem?_modify,h]
theorem bY.look_eq{P:Program}{base:Nat->Prop}{ι:ag}{H H':Nat->Option Obj}{w:World}(h:bY P base ι H w)(e:∀ id,H' id=H id):bY P base ι H' w:=by
 have:H'=H:=funext e;rw[this];exact h
theorem bY.GF{P:Program}{base:Nat->Prop}{ι κ:ag}{H H':Nat->Option Obj}{w w1:World}(hr:bY P base ι H w)(h3:∀ id o g,H' id=some o->ob o=some g->H id=some o)(hle:ib ι κ)(hk3:κ 3=ι 3)(hsz:w.heap.size<=w1.heap.size)
  (hkeep:∀ j,(∀ x ox b,H x=some ox->ι x=some b->j≠b)->j<w.heap.size->w1.heap[j]? = w.heap[j]?) (hnm:∀ x ox b,H' x=some ox->κ x=some b->(∃ y oy,H y=some oy/\ι y=some b)\/w.heap.size<=b) :
  ∀ id o g,H' id=some o->ob o=some g->id=3/\κ 3=none/\∃ F:Nat->Prop,aL.GR g κ F w1/\(∀ j,F j->j<w1.heap.size/\¬ base j)/\∀ x ox b,H' x=some ox->κ x=some b->¬ F b:=by
 intro id o g hx hg;obtain⟨e,n3,F,q1,q2,q3⟩:=hr.gh id o g (h3 id o g hx hg) hg;refine⟨e,by rw[hk3];exact n3,F,aL.rA _ _ _ _ _ hle (aL.rz _ _ _ _ _ (λj hj=>?_) q1),λj hj=>⟨Nat.lt_of_lt_of_le (q2 j hj).1 hsz,(q2 j hj).2⟩,λx ox b h1 h2 hb=>?_⟩
 ·exact hkeep j (λx ox b h1 h2 e=>q3 x ox b h1 h2 (e▸hj)) (q2 j hj).1
 ·rcases hnm x ox b h1 h2 with ⟨y,oy,g1,g2⟩ | g1
  ·exact q3 y oy b g1 g2 hb
  ·have:=(q2 b hb).1
   omega
theorem bY.put{P:Program}{base:Nat->Prop}{ι:ag}{s:St}{w w1:World}{id b:Nat}{o o1 yx:Obj}(hr:bY P base ι s.look w)(hlim:id<lim)(hl:s.look id=some o)(hb:ι id=some b)
  (hw:w1.heap[b]? = some yx) (ho:fF P ι id o1 yx) (hoth:∀ j,j≠b->w1.heap[j]? = w.heap[j]?) (hsz:w1.heap.size=w.heap.size):bY P base ι (s.put id (some o1)).look w1:=by
 refine⟨?_,?_,λk hk=>by have:=hr.sz k hk;omega,?_⟩
 ·intro x y ox oy bb hx hy h1 h2
  have live:∀ z oz,(s.put id (some o1)).look z=some oz->∃ Na,s.look z=some Na:=by
   intro z oz hz
   by_cases e:z=id
   ·subst e;exact⟨o,hl⟩
   ·rw[St.aU _ _ _ _ e]at hz;exact⟨oz,hz⟩
  obtain⟨Nb,hx'⟩:=live x ox hx;obtain⟨Nc,hy'⟩:=live y oy hy;exact hr.inj x y Nb Nc bb hx' hy' h1 h2
 ·intro x ox hx hrl
  by_cases e:x=id
  ·subst e
   rw[St.bA _ _ _ hlim]at hx;cases hx;obtain⟨b9,o9,g1,g2,g3,g4⟩:=hr.there x o hl (hr.real hl hb);rw[hb]at g1;cases g1;exact⟨b,yx,hb,hw,ho,g4⟩
  ·rw[St.aU _ _ _ _ e]at hx
   obtain⟨b2,o2,g1,g2,g3,g4⟩:=hr.there x ox hx hrl;have hne:b2≠b:=by
    intro eb;subst eb;exact e (hr.inj x id ox o b2 hx hl g1 hb)
   exact⟨b2,o2,g1,by rw[hoth b2 hne];exact g2,g3,g4⟩
 ·refine hr.GF (λx ox g hx hg=>?_) (ib.refl _) rfl (by omega) (λj hj _=>hoth j (hj id o b hl hb)) (λx ox bb hx hbb=>?_)
  ·by_cases e:x=id
   ·subst e
    rw[St.bA _ _ _ hlim]at hx;cases hx;rw[bY.yw ho]at hg;cases hg
   ·rw[St.aU _ _ _ _ e]at hx
    exact hx
  ·by_cases e:x=id
   ·subst e
    exact .inl ⟨x,o,hl,hbb⟩
   ·rw[St.aU _ _ _ _ e]at hx
    exact .inl ⟨x,ox,hx,hbb⟩
theorem run_store{β:Type}{P:Program}{w:World}{md:Mode}{a:Addr}{k:Sem β}{v u:Value}(h:w.cell? a=some u)(hf:w.frozen? a=false)(h1:oneCell v=true):(Sem.store md a v k).run P w=k.run P (w.setCell a v):=by
 cases v<;>first | (simp[oneCell]at h1;done) | simp[Sem.run,h,hf]
theorem ic{v:Value}(h:aR v=true):oneCell v=true:=by cases v<;>first | rfl | cases h
theorem aw.one{ι:ag}{v v':Value}(h:aw ι v v')(h1:oneCell v=true):oneCell v'=true:=by
 cases h with
 | sym n m _ h=>rw[← h];exact ic (aL.leaf n)
 | dyn id c _ h h'=>rw[← h'];exact ic (cV c)
 | oR id c j _ h h'=>rw[← h'];exact ic (mR j (dec c))
 | junk n v' h=>cases h1
 | agg=>cases h1
 | tuple=>cases h1
 | _=>rfl
theorem aA.store{α β:Type}{P:Program}{base:Nat->Prop}{R:ag->α->β->Prop}{ι:ag}{md Ki:Mode}{id off b:Nat}{v v':Value}{k:Sem α}{k':Sem β}(hb:ι id=some b)(hv:aw ι v v')
  (h:aA P base R ι k k'):aA P base R ι (.store md ⟨id,off,none⟩ v k) (.store Ki ⟨b,off,none⟩ v' k'):=by
 intro s w c s1 hr ha hfr;have e0:∃ c0 t,s.look id=some (.cells c0 t (0,0))/\oneCell v=true/\off<c0.size/\id<lim/\aC P k ((s.put id (some (.cells (c0.setIfInBounds off v) t (0,0)))).touch id (some off) true)=some (c,s1):=by
  simp only[aC]at ha;cases h1:oneCell v with
  | false=>simp[h1]at ha
  | true =>
   cases hl:s.look id with
   | none=>simp[hl]at ha
   | some o =>
    cases o with
    | cells c0 e0 f0 =>
     obtain⟨f1,f2⟩:=f0;simp only[h1,hl]at ha
     split at ha
     ·rename_i heq
      cases heq
      split at ha
      ·rename_i hlt
       exact⟨_,_,rfl,rfl,hlt.1,hlt.2,ha⟩
      ·cases ha
     ·cases ha
    | _=>simp[h1,hl]at ha
 obtain⟨c0,t,hl,h1,hlt,hlim,ha'⟩:=e0;obtain⟨b',o',i1,i2,i3,i4⟩:=hr.there id _ hl (hr.real hl hb);rw[hb]at i1;cases i1;obtain⟨hf,c',rfl,j1,j2,j3,j4⟩:=i3;have hcell:w.cell? ⟨b,off,none⟩=some (c'[off]'(by omega)):=by
  have hv':c'[off]? = some (c'[off]'(by omega)):=Array.getElem?_eq_getElem (by omega);simp[World.cell?,i2,hv']
 have hfz:w.frozen? ⟨b,off,none⟩=false:=by simp[World.frozen?,i2]
 rw[run_store hcell hfz (hv.one h1)];have hrep:bY P base ι ((s.put id (some (.cells (c0.setIfInBounds off v) t (0,0)))).touch id (some off) true).look (w.setCell ⟨b,off,none⟩ v'):=by
  refine bY.put (o:=.cells c0 t (0,0)) (b:=b) hr hlim hl hb (heap_setCell_same i2) ?_ ?_ ?_
  ·refine⟨rfl,_,rfl,by simpa using j1,by simpa using j2,?_,by simpa using j4⟩
   intro i x x' hx hx';rw[Array.getElem?_setIfInBounds]at hx hx'
   by_cases e:off=i
   ·subst e
    simp only[if_true]at hx hx';rw[if_pos hlt]at hx;rw[if_pos (by omega)]at hx';cases hx;cases hx';exact hv
   ·simp only[e,if_false]at hx hx'
    exact j3 i x x' hx hx'
  ·intro j hj
   exact Below.heap_setCell _ _ _ _ hj
  ·simp[World.setCell]
 obtain⟨κ,bb,w1,r1,p1,e1,q1,k1⟩:=h _ _ c s1 hrep ha' hfr;exact⟨κ,bb,w1,r1,p1,e1,q1,((Out.refl base w).setCell (p:=⟨b,off,none⟩) i4 v').trans k1⟩
def ag.upd(ι:ag)(id b:Nat):ag:=λx=>if x=id then some b else ι x
theorem ag.dT{ι:ag}{id b:Nat}(h:ι id=none):ib ι (ι.upd id b):=by
 intro x y hx;unfold ag.upd
 by_cases e:x=id
 ·subst e;rw[h]at hx;cases hx
 ·rw[if_neg e];exact hx
theorem fF.even{P:Program}{ι:ag}{id:Nat}(h:gG id=false){o o':Obj}(ho:fF P ι 0 o o'):fF P ι id o o':=by
 cases o with
 | cells c e f =>
  obtain⟨h0,c',h1,h2,h3,h4,_⟩:=ho;exact⟨h0,c',h1,h2,λ_=>h3 (by decide),h4,λg=>by rw[h]at g;cases g⟩
 | map es n=>exact ho
 | mapIter m n se st=>cases m<;>exact ho
 | _=>exact ho
theorem bY.new{P:Program}{base:Nat->Prop}{ι:ag}{s:St}{w:World}{id:Nat}{o o':Obj}(hr:bY P base ι s.look w)(hlim:id<lim)(hi3:id%4≠3)(hn:ι id=none)(ho:fF P ι id o o') :
  bY P base (ι.upd id w.heap.size) (s.put id (some o)).look { w with heap:=w.heap.push o' }:=by
 have hle:=ag.dT (b:=w.heap.size) hn;have hnot:s.look id=none:=by
  cases hl:s.look id with
  | none=>rfl
  | some x =>
   cases hg:ob x with
   | none =>
    obtain⟨b,o2,g1,_⟩:=hr.there id x hl hg;rw[hn]at g1;cases g1
   | some g =>
    obtain⟨e,_⟩:=hr.gh id x g hl hg;omega
 have hlt:∀ x ox b,s.look x=some ox->ι x=some b->b<w.heap.size:=by
  intro x ox b hx hb;obtain⟨b2,o2,g1,g2,_⟩:=hr.there x ox hx (hr.real hx hb);rw[hb]at g1;cases g1;rcases Nat.lt_or_ge b w.heap.size with g | g
  ·exact g
  ·rw[Array.getElem?_eq_none g]at g2;cases g2
 have hother:∀ x b,x≠id->(ι.upd id w.heap.size) x=some b->ι x=some b:=by
  intro x b e hx;unfold ag.upd at hx;rw[if_neg e]at hx;exact hx
 have hbase:=hr.sz;refine⟨?_,?_,λk hk=>by have:=hr.sz k hk;simp;omega,?_⟩
 ·intro x y ox oy bb hx hy h1 h2
  by_cases ex:x=id
  ·by_cases ey:y=id
   ·rw[ex,ey]
   ·have hy':=hother y bb ey h2
    rw[St.aU _ _ _ _ ey]at hy;have:=hlt y oy bb hy hy';subst ex;simp only[ag.upd,if_true,Option.some.injEq]at h1;omega
  ·by_cases ey:y=id
   ·have hx':=hother x bb ex h1
    rw[St.aU _ _ _ _ ex]at hx;have:=hlt x ox bb hx hx';subst ey;simp only[ag.upd,if_true,Option.some.injEq]at h2;omega
   ·rw[St.aU _ _ _ _ ex]at hx
    rw[St.aU _ _ _ _ ey]at hy;exact hr.inj x y ox oy bb hx hy (hother x bb ex h1) (hother y bb ey h2)
 ·intro x ox hx hrl
  by_cases ex:x=id
  ·subst ex
   rw[St.bA _ _ _ hlim]at hx;cases hx;exact⟨w.heap.size,o',by simp[ag.upd],by simp,ho.mono hle,λhk=>Nat.lt_irrefl _ (hbase _ hk)⟩
  ·rw[St.aU _ _ _ _ ex]at hx
   obtain⟨b,o2,g1,g2,g3,g4⟩:=hr.there x ox hx hrl;have:=hlt x ox b hx g1;exact⟨b,o2,hle _ _ g1,by simp only[Array.getElem?_push];rw[if_neg (by omega)];exact g2,g3.mono hle,g4⟩
 ·refine hr.GF (λx ox g hx hg=>?_) hle (by unfold ag.upd;rw[if_neg (by omega)]) (by simp) (λj _ hj=>?_) (λx ox bb hx hbb=>?_)
  ·by_cases e:x=id
   ·subst e
    rw[St.bA _ _ _ hlim]at hx;cases hx;rw[bY.yw ho]at hg;cases hg
   ·rw[St.aU _ _ _ _ e]at hx
    exact hx
  ·simp only[Array.getElem?_push]
   rw[if_neg (by omega)]
  ·by_cases e:x=id
   ·subst e
    simp only[ag.upd,if_true,Option.some.injEq]at hbb;exact .inr (by omega)
   ·rw[St.aU _ _ _ _ e]at hx
    exact .inl ⟨x,ox,hx,hother x bb e hbb⟩
theorem tX(n:Nat):gG (4*n)=false:=by
 simp[gG]
theorem aA.new{α β:Type}{P:Program}{base:Nat->Prop}{R:ag->α->β->Prop}{ι:ag}{o o':Obj}{k:Nat->Sem α}{k':Nat->Sem β}(ho:fF P ι 0 o o')
  (h:∀ κ id b,ib ι κ->κ id=some b->gG id=false->aA P base R κ (k id) (k' b)):aA P base R ι (.new o k) (.new o' k'):=by
 intro s w c s1 hr ha hfr;have e0:4*s.next<lim/\aC P (k (4*s.next)) { (s.put (4*s.next) (some o)).touch (4*s.next) none true with next:=s.next+1 }=some (c,s1):=by
  simp only[aC]at ha
  split at ha
  ·rename_i hlt
   refine⟨hlt,?_⟩;cases o with
   | cells c0 e0 f0 =>
    obtain⟨hf,_⟩:=ho;subst hf;exact ha
   | map es n=>exact ha
   | mapIter m n se st=>exact ha
   | stringIter st p=>exact ha
   | loop l=>exact ha
   | deferred d=>exact ha
   | _=>exact ho.elim
  ·cases ha
 obtain⟨hlim,ha'⟩:=e0;have n1:=cq P _ _ _ _ ha';have n2:s.next+1<=s1.next:=n1
 have hn:ι (4*s.next)=none:=hfr _ (Nat.le_refl _) (by omega);have hrep:=bY.new hr hlim (by omega) hn (ho.even (tX _));have IJ:bY P base (ι.upd (4*s.next) w.heap.size) ({ (s.put (4*s.next) (some o)).touch (4*s.next) none true with next:=s.next+1 } : St).look { w with heap:=w.heap.push o' }:=hrep
 obtain⟨κ,bb,w1,r1,p1,e1,q1,k1⟩:=h (ι.upd (4*s.next) w.heap.size) (4*s.next) w.heap.size (ag.dT hn) (by simp[ag.upd]) (tX _) _ _ c s1 IJ ha' (by
  intro id h1 h2;have h1':4*(s.next+1)<=id:=h1;unfold ag.upd;rw[if_neg (by omega)]
  exact hfr id (by omega) h2)
 refine⟨κ,bb,w1,r1,p1,?_,q1,?_⟩
 ·intro id hx
  rw[e1 id (by show id<4*(s.next+1)\/4*s1.next<=id;omega)];unfold ag.upd;rw[if_neg (by omega)]
 ·exact((Out.refl base w).alloc hr.sz o').trans k1
theorem aA.getObj{α β:Type}{P:Program}{base:Nat->Prop}{R:ag->α->β->Prop}{ι:ag}{id b:Nat}{k:Obj->Sem α}{k':Obj->Sem β}(hb:ι id=some b)
  (h:∀ o o',fF P ι id o o'->(∀ c e f,o≠.cells c e f)->aA P base R ι (k o) (k' o')):aA P base R ι (.getObj id k) (.getObj b k'):=by
 intro s w c s1 hr ha hfr;have e0:∃ o,s.look id=some o/\(∀ c e f,o≠.cells c e f)/\aC P (k o) (s.touch id none false)=some (c,s1):=by
  simp only[aC]at ha
  split at ha
  ·rename_i hl
   exact⟨_,hl,(λ_ _ _ e=>by cases e),ha⟩
  ·rename_i hl
   exact⟨_,hl,(λ_ _ _ e=>by cases e),ha⟩
  ·rename_i hl
   exact⟨_,hl,(λ_ _ _ e=>by cases e),ha⟩
  ·rename_i hl
   exact⟨_,hl,(λ_ _ _ e=>by cases e),ha⟩
  ·rename_i hl
   exact⟨_,hl,(λ_ _ _ e=>by cases e),ha⟩
  ·cases ha
 obtain⟨o,hl,hne,ha'⟩:=e0;obtain⟨b',o',i1,i2,i3,i4⟩:=hr.there id _ hl (hr.real hl hb);rw[hb]at i1;cases i1;have hne':∀ c e f,o'≠.cells c e f:=by
  intro c e f e';subst e';cases o with
  | cells c0 e0 f0=>exact hne _ _ _ rfl
  | map es n=>obtain⟨es',h1,_⟩:=i3;cases h1
  | mapIter m n se st=>cases m with
   | none=>cases i3
   | some m=>obtain⟨m',_,h1⟩:=i3;cases h1
  | stringIter st p=>cases i3
  | loop l=>obtain⟨l',h1,_⟩:=i3;cases h1
  | deferred d=>cases i3.1
  | _=>exact i3
 have hrun:(Sem.getObj b k').run P w=(k' o').run P w:=by
  simp only[Sem.run,i2]
 rw[hrun];exact h o o' i3 hne (s.touch id none false) w c s1 hr ha' hfr
theorem aA.setObj{α β:Type}{P:Program}{base:Nat->Prop}{R:ag->α->β->Prop}{ι:ag}{id b:Nat}{o o':Obj}{k:Sem α}{k':Sem β}(hb:ι id=some b)(ho:fF P ι id o o')(hc:∀ c e f,o≠.cells c e f)
  (h:aA P base R ι k k'):aA P base R ι (.setObj id o k) (.setObj b o' k'):=by
 intro s w c s1 hr ha hfr;have e0:∃ o0,s.look id=some o0/\(∀ c e f,o0≠.cells c e f)/\id<lim/\aC P k ((s.put id (some o)).touch id none true)=some (c,s1):=by
  simp only[aC]at ha
  split at ha
  ·rename_i hl
   split at ha
   ·rename_i hlt
    exact⟨_,hl,(λ_ _ _ e=>by cases e),hlt,ha⟩
   ·cases ha
  ·rename_i hl
   split at ha
   ·rename_i hlt
    exact⟨_,hl,(λ_ _ _ e=>by cases e),hlt,ha⟩
   ·cases ha
  ·rename_i hl
   split at ha
   ·rename_i hlt
    exact⟨_,hl,(λ_ _ _ e=>by cases e),hlt,ha⟩
   ·cases ha
  ·rename_i hl
   split at ha
   ·rename_i hlt
    exact⟨_,hl,(λ_ _ _ e=>by cases e),hlt,ha⟩
   ·cases ha
  ·rename_i hl
   split at ha
   ·rename_i hlt
    exact⟨_,hl,(λ_ _ _ e=>by cases e),hlt,ha⟩
   ·cases ha
  ·cases ha
 obtain⟨o0,hl,hne,hlim,ha'⟩:=e0;obtain⟨b',o2,i1,i2,i3,i4⟩:=hr.there id _ hl (hr.real hl hb);rw[hb]at i1;cases i1;have hne':∀ c e f,o2≠.cells c e f:=by
  intro c e f e';subst e';cases o0 with
  | cells c0 e0 f0=>exact hne _ _ _ rfl
  | map es n=>obtain⟨es',h1,_⟩:=i3;cases h1
  | mapIter m n se st=>cases m with
   | none=>cases i3
   | some m=>obtain⟨m',_,h1⟩:=i3;cases h1
  | stringIter st p=>cases i3
  | loop l=>obtain⟨l',h1,_⟩:=i3;cases h1
  | deferred d=>cases i3.1
  | _=>exact i3
 have hrun:(Sem.setObj b o' k').run P w=k'.run P { w with heap:=w.heap.setIfInBounds b o' }:=by
  simp only[Sem.run,i2]
 rw[hrun];have hrep:bY P base ι ((s.put id (some o)).touch id none true).look { w with heap:=w.heap.setIfInBounds b o' }:=by
  refine bY.put (o:=o0) (b:=b) hr hlim hl hb ?_ ho ?_ ?_
  ·have hlt:b<w.heap.size:=by
    rcases Nat.lt_or_ge b w.heap.size with g | g
    ·exact g
    ·rw[Array.getElem?_eq_none g]at i2;cases i2
   simp[Array.getElem?_setIfInBounds,hlt]
  ·intro j hj
   simp only[Array.getElem?_setIfInBounds];rw[if_neg (λe=>hj e.symm)]
  ·simp
 obtain⟨κ,bb,w1,r1,p1,e1,q1,k1⟩:=h _ _ c s1 hrep ha' hfr;have hbl:Out base w { w with heap:=w.heap.setIfInBounds b o' }:=by
  refine⟨rfl,rfl,rfl,by simp,?_⟩;intro j hj;simp only[Array.getElem?_setIfInBounds];rw[if_neg (λe=>by subst e;exact i4 hj)]
 exact⟨κ,bb,w1,r1,p1,e1,q1,hbl.trans k1⟩
theorem aA.shape{α β:Type}{P:Program}{base:Nat->Prop}{R:ag->α->β->Prop}{ι:ag}{id b:Nat}{k:Option (TypeId×Nat)->Sem α}{k':Option (TypeId×Nat)->Sem β}(hb:ι id=some b)
  (h:∀ x,aA P base R ι (k x) (k' x)):aA P base R ι (.shape id k) (.shape b k'):=by
 intro s w c s1 hr ha hfr;have e0:∃ c0 t,s.look id=some (.cells c0 t (0,0))/\gG id=false/\aC P (k (some (t,c0.size))) (s.touch id (some 0) false)=some (c,s1):=by
  simp only[aC]at ha
  split at ha
  ·rename_i hg hl
   exact⟨_,_,hl,hg,ha⟩
  ·cases ha
 obtain⟨c0,t,hl,hg,ha'⟩:=e0;obtain⟨b',o',i1,i2,i3,i4⟩:=hr.there id _ hl (hr.real hl hb);rw[hb]at i1;cases i1;obtain⟨hf,c',rfl,j1,j2,j3,j4⟩:=i3;have hrun:(Sem.shape b k').run P w=(k' (some (t,c0.size))).run P w:=by
  simp only[Sem.run,World.shape?,i2,j2 hg]
 rw[hrun];exact h _ (s.touch id (some 0) false) w c s1 hr ha' hfr
theorem aA.frozen{α β:Type}{P:Program}{base:Nat->Prop}{R:ag->α->β->Prop}{ι:ag}{id off b off':Nat}{sp sp':Option Nat}{k:Bool->Sem α}{k':Bool->Sem β}(hb:ι id=some b)
  (h:aA P base R ι (k false) (k' false)):aA P base R ι (.frozen ⟨id,off,sp⟩ k) (.frozen ⟨b,off',sp'⟩ k'):=by
 intro s w c s1 hr ha hfr;have e0:∃ c0 t,s.look id=some (.cells c0 t (0,0))/\aC P (k false) (s.touch id (some 0) false)=some (c,s1):=by
  simp only[aC]at ha
  split at ha
  ·rename_i hl
   exact⟨_,_,hl,ha⟩
  ·cases ha
 obtain⟨c0,t,hl,ha'⟩:=e0;obtain⟨b',o',i1,i2,i3,i4⟩:=hr.there id _ hl (hr.real hl hb);rw[hb]at i1;cases i1;obtain⟨hf,c',rfl,j1,j2,j3,j4⟩:=i3;have hrun:(Sem.frozen ⟨b,off',sp'⟩ k').run P w=(k' false).run P w:=by
  simp[Sem.run,World.frozen?,i2]
 rw[hrun];exact h (s.touch id (some 0) false) w c s1 hr ha' hfr
end Go.Ev
