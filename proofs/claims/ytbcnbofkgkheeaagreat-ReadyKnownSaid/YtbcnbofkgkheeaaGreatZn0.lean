/- Part of a proof: see the last text. -/
import Derived.WalkKit
set_option linter.unusedSectionVars false
set_option linter.unusedSimpArgs false
set_option linter.unusedVariables false
namespace Go.Ev
open Go.RowKit
abbrev ag:=Nat->Option Nat
def iQ(id:Nat):Bool:=id%4==1
def jT(ι κ:ag):Prop:=∀ id b,ι id=some b->κ id=some b
theorem jT.refl(ι:ag):jT ι ι:=λ_ _ h=>h
theorem jT.trans{ι κ μ:ag}(h:jT ι κ)(k:jT κ μ):jT ι μ:=λ_ _ x=>k _ _ (h _ _ x)
def FA:Nat->Nat->Nat×Nat
 | 0,n=>(0,n)
 | f+1,n=>if n%2=1 then (0,n / 2) else ((FA f (n / 2)).1+1,(FA f (n / 2)).2)
def oK(n:Nat):Nat×Nat:=FA n n
def oL(x y:Nat):Nat:=2 ^ x*(2*y+1)
theorem GX(x:Nat):∀ y f,x<f->FA f (oL x y)=(x,y):=by
 induction x with
 | zero =>
  intro y f hf
  match f,hf with
  | f+1,_ =>
   unfold FA oL;rw[if_pos (by omega)]
   congr 1
   omega
 | succ x ih =>
  intro y f hf
  match f,hf with
  | f+1,hf =>
   have e:oL (x+1) y=2*oL x y:=by unfold oL;rw[Nat.pow_succ,Nat.mul_comm (2 ^ x) 2,Nat.mul_assoc]
   unfold FA;rw[e,if_neg (by omega),show 2*oL x y / 2=oL x y by omega,ih y f (by omega)]
theorem kJ(x y:Nat):oK (oL x y)=(x,y):=by
 refine GX x y _ ?_;have h1:x<2 ^ x:=Nat.lt_two_pow_self;have h2:2 ^ x*1<=2 ^ x*(2*y+1):=Nat.mul_le_mul_left _ (by omega);unfold oL;omega
def dec(c:Nat):Value :=
 match (oK c).1 with
 | 0=>.slice (some ⟨(oK (oK c).2).1,(oK (oK (oK c).2).2).1,none⟩) (oK (oK (oK (oK c).2).2).2).1 (oK (oK (oK (oK c).2).2).2).2
 | 1=>.pointer (some ⟨(oK (oK c).2).1,(oK (oK c).2).2,none⟩)
 | 2=>.map (some (oK c).2)
 | 3=>.slice none 0 0
 | 4=>.pointer none
 | 5=>.map none
 | 6=>.int .i64 (if (oK c).2%2=0 then (((oK c).2 / 2:Nat):Int) else-(((oK c).2 / 2:Nat):Int)-1)
 | _=>.int .u64 ((oK c).2:Nat)
theorem iR(b off n c:Nat):dec (oL 0 (oL b (oL off (oL n c))))=.slice (some ⟨b,off,none⟩) n c:=by simp only[dec,kJ]
theorem gJ(b off:Nat):dec (oL 1 (oL b off))=.pointer (some ⟨b,off,none⟩):=by simp only[dec,kJ]
theorem cX:dec (oL 3 0)=.slice none 0 0:=by simp only[dec,kJ]
theorem DT(n:Nat):dec (oL 7 n)=.int .u64 n:=by simp only[dec,kJ]
def ai:Value->Bool
 | .bool _ | .agg _ | .tuple _ | .complex _ _ _=>false
 | _=>true
def Pc:Value->Bool
 | .bool _ | .agg _ | .tuple _=>false
 | _=>true
theorem aV(c:Nat):ai (dec c)=true:=by
 unfold dec
 split<;>rfl
def Mh(j n:Nat):Nat :=
 match j with
 | 0=>(oK n).1
 | 1=>(oK (oK n).2).1
 | _=>(oK (oK n).2).2
def am(j:Nat)(v:Value):Value :=
 match v with
 | .int _ n=>dec (Mh j n.toNat)
 | _=>.nilIface
theorem p_(j:Nat)(v:Value):ai (am j v)=true:=by
 unfold am
 split
 ·exact aV _
 ·rfl
theorem GY(a b c:Nat):am 0 (.int .u64 ((oL a (oL b c):Nat):Int))=dec a:=by simp only[am,Mh,Int.toNat_natCast,kJ]
theorem GZ(a b c:Nat):am 1 (.int .u64 ((oL a (oL b c):Nat):Int))=dec b:=by simp only[am,Mh,Int.toNat_natCast,kJ]
theorem Rf(a b c:Nat):am 2 (.int .u64 ((oL a (oL b c):Nat):Int))=dec c:=by simp only[am,Mh,Int.toNat_natCast,kJ]
def n8(val:Nat->Value):Value->Value
 | .complex .f64 n _=>val n
 | v=>v
def ep:Value->Bool
 | .bool _ | .int _ _ | .float _ _ | .string _ | .complex .f64 _ _=>true
 | .pointer none | .slice none 0 0 | .map none | .nilFunc | .nilIface=>true
 | _=>false
abbrev GQ:=Nat->Nat->Option (Value×Option Nat)
inductive sD where
 | now (q:GQ)
 | src (sz j:Nat) (q:List Value->GQ)
def sD.q:sD->List Value->GQ
 | .now q,_=>q
 | .src _ _ q,c=>q c
class aP where
  val:Nat->Value
  leaf:∀ n,ai (val n)=true
  bin:BinOp->Value->Value->Option Value
  wH:∀ op x y r,bin op x y=some r->ep x=true/\ep y=true/\ep r=true/\∀ t ox oy,(do eqGuard op t ox oy (n8 val x) (n8 val y);binOp op t (n8 val x) (n8 val y):Sem Value)=pure (n8 val r)
  Rg:UnOp->Value->Option Value
  wI:∀ op x r,Rg op x=some r->ep x=true/\ep r=true/\Op.unary op (n8 val x)=pure (n8 val r)
  Rh:IntKind->Value->Option Value
  wJ:∀ k x r,Rh k x=some r->ep x=true/\ep r=true/\∃ k0 n,n8 val x=.int k0 n/\n8 val r=.int k (k.wrap n)
  Mb:FuncId->List Value->Option Value
  wK:∀ f l r,Mb f l=some r->ep r=true
  GR:Nat->ag->(Nat->Prop)->World->Prop
  rN:∀ g ι F w w',(∀ j,F j->w'.heap[j]? = w.heap[j]?)->GR g ι F w->GR g ι F w'
  rO:∀ g ι κ F w,jT ι κ->GR g ι F w->GR g κ F w
  G0:Op->List Value->Option sD
  wL:FuncId->List Value->Option GQ
variable[aP]
inductive ao(ι:ag):Value->Value->Prop
 | bool (b:Bool):ao ι (.bool b) (.bool b)
 | int (k:IntKind) (n:Int):ao ι (.int k n) (.int k n)
 | float (k:FloatKind) (n:Nat):ao ι (.float k n) (.float k n)
 | sym (n m:Nat) (v':Value) (h:aP.val n=v'):ao ι (.complex .f64 n m) v'
 | dyn (id c:Nat) (v':Value) (h:ι id=some c) (h':dec c=v'):ao ι (.complex .f32 id 0) v'
 | junk (n:Nat) (v':Value) (h:Pc v'=true):ao ι (.complex .f32 n 1) v'
 | sE (id c j:Nat) (v':Value) (h:ι id=some c) (h':am j (dec c)=v'):ao ι (.complex .f32 id (j+2)) v'
 | string (s:ByteArray):ao ι (.string s) (.string s)
 | oM:ao ι (.pointer none) (.pointer none)
 | ptr (id off b:Nat) (h:ι id=some b):ao ι (.pointer (some ⟨id,off,none⟩)) (.pointer (some ⟨b,off,none⟩))
 | c8:ao ι (.slice none 0 0) (.slice none 0 0)
 | slice (id off b n c c':Nat) (h:ι id=some b) (h0:iQ id=false->c=c') (h1:iQ id=true->c<=c'/\(off=0->ι (id+1)=some c')) (h2:0<c) (h3:n<=c):ao ι (.slice (some ⟨id,off,none⟩) n c) (.slice (some ⟨b,off,none⟩) n c')
 | de (id off b:Nat) (h:ι id=some b) (h0:iQ id=false):ao ι (.slice (some ⟨id,off,none⟩) 0 0) (.slice (some ⟨b,off,none⟩) 0 0)
 | n9:ao ι (.map none) (.map none)
 | map (id b:Nat) (h:ι id=some b):ao ι (.map (some id)) (.map (some b))
 | func (fn:Fn) (f f' c c':Array Value) (hy:∀ l,fn≠.yield l) (hf:f.size=f'.size) (hc:c.size=c'.size)
   (h:∀ (i:Nat) (v v':Value),f[i]? = some v->f'[i]? = some v'->ao ι v v') (h':∀ (i:Nat) (v v':Value),c[i]? = some v->c'[i]? = some v'->ao ι v v'):ao ι (.func fn f c) (.func fn f' c')
 | yield (id b:Nat) (h:ι id=some b):ao ι (.func (.yield id) #[] #[]) (.func (.yield b) #[] #[])
 | nilFunc:ao ι .nilFunc .nilFunc
 | iface (t:TypeId) (v v':Value) (h:ao ι v v'):ao ι (.iface t v) (.iface t v')
 | nilIface:ao ι .nilIface .nilIface
 | agg (f f':Array Value) (hf:f.size=f'.size) (h:∀ (i:Nat) (v v':Value),f[i]? = some v->f'[i]? = some v'->ao ι v v'):ao ι (.agg f) (.agg f')
 | tuple (f f':Array Value) (hf:f.size=f'.size) (h:∀ (i:Nat) (v v':Value),f[i]? = some v->f'[i]? = some v'->ao ι v v'):ao ι (.tuple f) (.tuple f')
def bh(ι:ag)(f f':Array Value):Prop:=f.size=f'.size/\∀ (i:Nat) (v v':Value),f[i]? = some v->f'[i]? = some v'->ao ι v v'
theorem ao.mono{ι κ:ag}(hk:jT ι κ){v v':Value}(h:ao ι v v'):ao κ v v':=by
 induction h with
 | bool b=>exact .bool b
 | int k n=>exact .int k n
 | float k n=>exact .float k n
 | sym n m v' h=>exact .sym n m v' h
 | dyn id c v' h h'=>exact .dyn id c v' (hk _ _ h) h'
 | junk n v' h=>exact .junk n v' h
 | sE id c j v' h h'=>exact .sE id c j v' (hk _ _ h) h'
 | string s=>exact .string s
 | oM=>exact .oM
 | ptr id off b h=>exact .ptr id off b (hk _ _ h)
 | c8=>exact .c8
 | slice id off b n c c' h h0 h1 h2 h3=>exact .slice id off b n c c' (hk _ _ h) h0 (λg=>⟨(h1 g).1,λe=>hk _ _ ((h1 g).2 e)⟩) h2 h3
 | de id off b h h0=>exact .de id off b (hk _ _ h) h0
 | n9=>exact .n9
 | map id b h=>exact .map id b (hk _ _ h)
 | func fn f f' c c' hy hf hc h h' ih ih'=>exact .func fn f f' c c' hy hf hc ih ih'
 | yield id b h=>exact .yield id b (hk _ _ h)
 | nilFunc=>exact .nilFunc
 | iface t v v' h ih=>exact .iface t v v' ih
 | nilIface=>exact .nilIface
 | agg f f' hf h ih=>exact .agg f f' hf ih
 | tuple f f' hf h ih=>exact .tuple f f' hf ih
theorem bh.mono{ι κ:ag}(hk:jT ι κ){f f':Array Value}(h:bh ι f f'):bh κ f f':=⟨h.1,λi v v' a b=>(h.2 i v v' a b).mono hk⟩
inductive Tr where
 | leaf
 | node (v:Option Obj) (l r:Tr)
def Tr.get:Nat->Tr->Nat->Option Obj
 | 0,_,_=>none
 | _+1,.leaf,_=>none
 | d+1,.node v l r,n=>if n=0 then v else if n%2=0 then l.get d (n / 2) else r.get d (n / 2)
def Tr.val:Tr->Option Obj
 | .leaf=>none
 | .node v _ _=>v
def Tr.BX:Tr->Tr
 | .leaf=>.leaf
 | .node _ l _=>l
def Tr.BY:Tr->Tr
 | .leaf=>.leaf
 | .node _ _ r=>r
def Tr.set:Nat->Tr->Nat->Option Obj->Tr
 | 0,t,_,_=>t
 | d+1,t,n,x=>if n=0 then .node x t.BX t.BY else if n%2=0 then .node t.val (t.BX.set d (n / 2) x) t.BY else .node t.val t.BX (t.BY.set d (n / 2) x)
theorem Tr.lW(d n:Nat):Tr.leaf.get d n=none:=by cases d<;>rfl
theorem Tr.wM(d:Nat)(t:Tr)(n:Nat):t.get (d+1) n=if n=0 then t.val else if n%2=0 then t.BX.get d (n / 2) else t.BY.get d (n / 2):=by
 cases t with
 | leaf=>simp[Tr.get,Tr.val,Tr.BX,Tr.BY,Tr.lW]
 | node v l r=>rfl
theorem Tr.get_set_same(d:Nat):∀ (t:Tr) (n:Nat) (x:Option Obj),n<2 ^ d->(t.set (d+1) n x).get (d+1) n=x:=by
 induction d with
 | zero =>
  intro t n x h;obtain rfl:n=0:=by simp at h;exact h
  rfl
 | succ d ih =>
  intro t n x h;have hp:2 ^ (d+1)=2*2 ^ d:=by rw[Nat.pow_succ,Nat.mul_comm]
  rw[Tr.wM]
  by_cases h0:n=0
  ·subst h0
   simp[Tr.set,Tr.val]
  ·simp only[Tr.set,h0,if_false]
   by_cases h1:n%2=0
   ·simp only[h1,if_true,Tr.BX]
    exact ih _ _ _ (by omega)
   ·simp only[h1,if_false,Tr.BY]
    exact ih _ _ _ (by omega)
theorem Tr.get_set_other(d:Nat):∀ (t:Tr) (n m:Nat) (x:Option Obj),m≠n->(t.set d n x).get d m=t.get d m:=by
 induction d with
 | zero=>intro t n m x h;rfl
 | succ d ih =>
  intro t n m x h;rw[Tr.wM,Tr.wM d t]
  by_cases h0:n=0
  ·subst h0
   simp[Tr.set,h,Tr.BX,Tr.BY]
  ·simp only[Tr.set,h0,if_false]
   by_cases hm:m=0
   ·subst hm
    by_cases h1:n%2=0<;>simp[h1,Tr.val]
   ·by_cases h1:n%2=0
    ·simp only[h1,if_true,Tr.BX,Tr.BY,hm,if_false]
     by_cases h2:m%2=0
     ·simp only[h2,if_true]
      exact ih _ _ _ _ (by omega)
     ·simp only[h2,if_false]
    ·simp only[h1,if_false,Tr.BX,Tr.BY,hm]
     by_cases h2:m%2=0
     ·simp only[h2,if_true]
     ·simp only[h2,if_false]
      exact ih _ _ _ _ (by omega)
structure Touch where
 id:Nat
 at_:Option Nat
 wr:Bool
def deep:Nat:=30
def lim:Nat:=536870912
structure St where
 heap:Tr
 next:Nat
 log:List Touch
def St.look(s:St)(id:Nat):Option Obj:=s.heap.get deep id
def St.touch(s:St)(id:Nat)(a:Option Nat)(wr:Bool):St:={ s with log:=⟨id,a,wr⟩::s.log }
def St.put(s:St)(id:Nat)(o:Option Obj):St:={ s with heap:=s.heap.set deep id o }
theorem St.bK(s:St)(id:Nat)(o:Option Obj)(h:id<lim):(s.put id o).look id=o:=by
 unfold St.look St.put;exact Tr.get_set_same 29 _ _ _ h
theorem St.aW(s:St)(id j:Nat)(o:Option Obj)(h:j≠id):(s.put id o).look j=s.look j:=by
 unfold St.look St.put;rw[Tr.get_set_other _ _ _ _ _ h]
def oneCell:Value->Bool
 | .agg _ | .tuple _ | .complex .f32 _ 1=>false
 | _=>true
def az{α:Type}(P:Program):Sem α->St->Option (α×St)
 | .pure a,s=>some (a,s)
 | .load _ a k,s =>
  match a.spot,s.look a.block with
  | none,some (.cells c _ _) =>
   match c[a.off]? with
   | some v=>az P (k v) (s.touch a.block (some a.off) false)
   | none=>none
  | _,_=>none
 | .store _ a v k,s =>
  match oneCell v,a.spot,s.look a.block with
  | true,none,some (.cells c e (0,0)) =>
   if a.off<c.size/\a.block<lim then az P k ((s.put a.block (some (.cells (c.setIfInBounds a.off v) e (0,0)))).touch a.block (some a.off) true) else none
  | _,_,_=>none
 | .new o k,s =>
  if 4*s.next<lim then
   match o with
   | .cells c e (0,0)=>az P (k (4*s.next)) { (s.put (4*s.next) (some (.cells c e (0,0)))).touch (4*s.next) none true with next:=s.next+1 }
   | .map es n=>az P (k (4*s.next)) { (s.put (4*s.next) (some (.map es n))).touch (4*s.next) none true with next:=s.next+1 }
   | .mapIter m n se st=>az P (k (4*s.next)) { (s.put (4*s.next) (some (.mapIter m n se st))).touch (4*s.next) none true with next:=s.next+1 }
   | .stringIter st p=>az P (k (4*s.next)) { (s.put (4*s.next) (some (.stringIter st p))).touch (4*s.next) none true with next:=s.next+1 }
   | .loop l=>az P (k (4*s.next)) { (s.put (4*s.next) (some (.loop l))).touch (4*s.next) none true with next:=s.next+1 }
   | .deferred d=>az P (k (4*s.next)) { (s.put (4*s.next) (some (.deferred d))).touch (4*s.next) none true with next:=s.next+1 }
   | _=>none
  else none
 | .shape r k,s =>
  match iQ r,s.look r with
  | false,some (.cells c e (0,0))=>az P (k (some (e,c.size))) (s.touch r (some 0) false)
  | _,_=>none
 | .getObj r k,s =>
  match s.look r with
  | some (.map es n)=>az P (k (.map es n)) (s.touch r none false)
  | some (.mapIter m n se st)=>az P (k (.mapIter m n se st)) (s.touch r none false)
  | some (.stringIter st p)=>az P (k (.stringIter st p)) (s.touch r none false)
  | some (.loop l)=>az P (k (.loop l)) (s.touch r none false)
  | some (.deferred d)=>az P (k (.deferred d)) (s.touch r none false)
  | _=>none
 | .setObj r o k,s =>
  match s.look r,o with
  | some (.map _ _),.map es n=>if r<lim then az P k ((s.put r (some (.map es n))).touch r none true) else none
  | some (.mapIter _ _ _ _),.mapIter m n se st=>if r<lim then az P k ((s.put r (some (.mapIter m n se st))).touch r none true) else none
  | some (.stringIter _ _),.stringIter st p=>if r<lim then az P k ((s.put r (some (.stringIter st p))).touch r none true) else none
  | some (.loop _),.loop l=>if r<lim then az P k ((s.put r (some (.loop l))).touch r none true) else none
  | some (.deferred _),.deferred d=>if r<lim then az P k ((s.put r (some (.deferred d))).touch r none true) else none
  | _,_=>none
 | .choose q k,s=>if q.forced then az P (k 0) s else none
 | .program k,s=>az P (k P) s
 | .mark _ k,s=>az P k s
 | .frozen a k,s =>
  match s.look a.block with
  | some (.cells c e (0,0))=>az P (k false) (s.touch a.block (some 0) false)
  | _=>none
 | .freeze _ _ _,_=>none
 | .sys _ _,_=>none
 | .halt _,_=>none
def jU:Value->Bool
 | .int _ _ | .string _=>true
 | _=>false
def dO(ι:ag)(es es':Array MapEntry):Prop :=
 es.size=es'.size/\∀ (i:Nat) (e e':MapEntry),es[i]? = some e->es'[i]? = some e'->ao ι e.key e'.key/\ao ι e.val e'.val/\e.born=e'.born/\jU e.key=true
def bf(P:Program)(c:Code):Prop:=∃ fn bl lb,CheckCode.code P fn bl lb c=.ok ()
structure oN(P:Program)(ι:ag)(l l':Loop):Prop where
 state:l.state=l'.state
 pending:l.pending=l'.pending
 tmps:bh ι l.tmps l'.tmps
 params:l.params=l'.params
 assign:l.assign=l'.assign
 body:l.body=l'.body
 defers:ι l.defers=some l'.defers
 ok1:bf P l.assign
 FB:bf P l.body
def ib(P:Program)(ι:ag)(id:Nat):Obj->Obj->Prop
 | .cells c e f,o'=>f=(0,0)/\∃ c',o'=.cells c' e (0,0)/\c.size<=c'.size/\(iQ id=false->c.size=c'.size)/\(∀ (i:Nat) (v v':Value),c[i]? = some v->c'[i]? = some v'->ao ι v v')/\(iQ id=true->∃ n t,ι (id+1)=some n/\P.info? e=some t/\c'.size=n*t.size)
 | .map es n,o'=>∃ es',o'=.map es' n/\dO ι es es'
 | .mapIter none n se st,o'=>o'=.mapIter none n se st
 | .mapIter (some m) n se st,o'=>∃ m',ι m=some m'/\o'=.mapIter (some m') n se st
 | .stringIter st p,o'=>o'=.stringIter st p
 | .loop l,o'=>∃ l',o'=.loop l'/\oN P ι l l'
 | .deferred d,o'=>o'=.deferred d/\(d=none\/d=some [])
 | _,_=>False
def rH:Obj->Option Nat
 | .view a _=>some a.block
 | _=>none
structure dg(P:Program)(base:Nat->Prop)(ι:ag)(H:Nat->Option Obj)(w:World):Prop where
 inj:∀ id id' o o' b,H id=some o->H id'=some o'->ι id=some b->ι id'=some b->id=id'
 there:∀ id o,H id=some o->rH o=none->∃ b o',ι id=some b/\w.heap[b]? = some o'/\ib P ι id o o'/\¬ base b
 sz:∀ k,base k->k<w.heap.size
 gh:∀ id o g,H id=some o->rH o=some g->id=3/\ι 3=none/\∃ F:Nat->Prop,aP.GR g ι F w/\(∀ j,F j->j<w.heap.size/\¬ base j)/\∀ x ox b,H x=some ox->ι x=some b->¬ F b
structure Out(K:Nat->Prop)(w w':World):Prop where
 os:w'.os=w.os
 tape:w'.tape=w.tape
 output:w'.output=w.output
 size:w.heap.size<=w'.heap.size
 block:∀ k,K k->w'.heap[k]? = w.heap[k]?
theorem Out.refl(K:Nat->Prop)(w:World):Out K w w:=⟨rfl,rfl,rfl,Nat.le_refl _,λ_ _=>rfl⟩
theorem Out.trans{K:Nat->Prop}{a b c:World}(h:Out K a b)(k:Out K b c):Out K a c :=
 ⟨k.os.trans h.os,k.tape.trans h.tape,k.output.trans h.output,Nat.le_trans h.size k.size,λi hi=>(k.block i hi).trans (h.block i hi)⟩
theorem Out.mono{K K':Nat->Prop}{w w':World}(h:Out K w w')(hK:∀ k,K' k->K k):Out K' w w':=⟨h.os,h.tape,h.output,h.size,λk hk=>h.block k (hK k hk)⟩
theorem Out.drew{K:Nat->Prop}{a w:World}(h:Out K a w):Out K a w.drew:=⟨h.os,h.tape,h.output,h.size,h.block⟩
theorem Out.alloc{K:Nat->Prop}{a w:World}(h:Out K a w)(hK:∀ k,K k->k<w.heap.size)(o:Obj):Out K a (w.alloc o) :=
 h.trans ⟨rfl,rfl,rfl,by simp,λk hk=>Below.heap_alloc _ _ _ (hK k hk)⟩
theorem Out.setCell{K:Nat->Prop}{a w:World}(h:Out K a w){p:Addr}(hp:¬ K p.block)(u:Value):Out K a (w.setCell p u) :=
 h.trans ⟨rfl,rfl,rfl,by simp[World.setCell],λk hk=>Below.heap_setCell _ _ _ _ (λe=>hp (e▸hk))⟩
theorem Out.below{B:Nat}{w w':World}(h:Out (· < B) w w'):Below B w w':=⟨h.os,h.tape,h.output,h.size,λk hk=>h.block k hk⟩
theorem Below.out{B:Nat}{w w':World}(h:Below B w w'){K:Nat->Prop}(hK:∀ k,K k->k<B):Out K w w':=⟨h.os,h.tape,h.output,h.size,λk hk=>h.block k (hK k hk)⟩
theorem ib.mono{P:Program}{ι κ:ag}(hk:jT ι κ){id:Nat}{o o':Obj}(h:ib P ι id o o'):ib P κ id o o':=by
 cases o with
 | cells c e f =>
  obtain⟨h0,c',h1,h2,h3,h4,h5⟩:=h;exact⟨h0,c',h1,h2,h3,λi v v' a b=>(h4 i v v' a b).mono hk,λg=>by obtain⟨n,t,a,b⟩:=h5 g;exact⟨n,t,hk _ _ a,b⟩⟩
 | map es n =>
  obtain⟨es',h1,h2,h3⟩:=h;exact⟨es',h1,h2,λi e e' a b=>⟨(h3 i e e' a b).1.mono hk,(h3 i e e' a b).2.1.mono hk,(h3 i e e' a b).2.2⟩⟩
 | mapIter m n se st =>
  cases m with
  | none=>exact h
  | some m=>obtain⟨m',h1,h2⟩:=h;exact⟨m',hk _ _ h1,h2⟩
 | loop l=>obtain⟨l',h1,h2⟩:=h;exact⟨l',h1,h2.state,h2.pending,h2.tmps.mono hk,h2.params,h2.assign,h2.body,hk _ _ h2.defers,h2.ok1,h2.FB⟩
 | _=>exact h
theorem dg.real{P:Program}{base:Nat->Prop}{ι:ag}{H:Nat->Option Obj}{w:World}(hr:dg P base ι H w){id b:Nat}{o:Obj}(hl:H id=some o)(hb:ι id=some b):rH o=none:=by
 cases hg:rH o with
 | none=>rfl
 | some g =>
  obtain⟨rfl,h3,_⟩:=hr.gh id o g hl hg;rw[h3]at hb;cases hb
theorem dg.DU{P:Program}{ι:ag}{id:Nat}{o o':Obj}(h:ib P ι id o o'):rH o=none:=by
 cases o<;>first | rfl | exact h.elim
def aq{α β:Type}(P:Program)(base:Nat->Prop)(R:ag->α->β->Prop)(ι:ag)(m:Sem α)(m':Sem β):Prop :=
 ∀ (s:St) (w:World) (a:α) (s1:St),dg P base ι s.look w->az P m s=some (a,s1)->(∀ id,4*s.next<=id->id<4*s1.next->ι id=none)->
  ∃ (κ:ag) (b:β) (w1:World),m'.run P w=.ok b w1/\dg P base κ s1.look w1/\(∀ id,(id<4*s.next\/4*s1.next<=id)->κ id=ι id)/\R κ a b/\Out base w w1
theorem mR{α β:Type}(P:Program)(m:Sem α)(f:α->Sem β):∀ s:St,az P (m.bind f) s=(az P m s).bind λ(a,s1)=>az P (f a) s1:=by
 induction m with
 | pure a=>intro s;rfl
 | load md a k ih =>
  intro s;simp only[Sem.bind,az]
  split
  ·split
   ·exact ih _ _
   ·rfl
  ·rfl
 | store md a v k ih =>
  intro s;simp only[Sem.bind,az]
  split
  ·split
   ·exact ih _
   ·rfl
  ·rfl
 | new o k ih =>
  intro s;simp only[Sem.bind,az]
  split
  ·split<;>first | exact ih _ _ | rfl
  ·rfl
 | shape r k ih =>
  intro s;simp only[Sem.bind,az]
  split<;>first | exact ih _ _ | rfl
 | freeze a n k ih=>intro s;rfl
 | frozen a k ih =>
  intro s;simp only[Sem.bind,az]
  split<;>first | exact ih _ _ | rfl
 | getObj r k ih =>
  intro s;simp only[Sem.bind,az]
  split<;>first | exact ih _ _ | rfl
 | setObj r o k ih =>
  intro s;simp only[Sem.bind,az]
  split
  ·split<;>first | exact ih _ | rfl
  ·split<;>first | exact ih _ | rfl
  ·split<;>first | exact ih _ | rfl
  ·split<;>first | exact ih _ | rfl
  ·split<;>first | exact ih _ | rfl
  ·rfl
 | choose q k ih =>
  intro s;simp only[Sem.bind,az]
  split<;>first | exact ih _ _ | rfl
 | sys c k ih=>intro s;rfl
 | program k ih=>intro s;exact ih _ _
 | mark m k ih=>intro s;exact ih _
 | halt h=>intro s;rfl
theorem cV{α:Type}(P:Program)(m:Sem α):∀ (s s1:St) (a:α),az P m s=some (a,s1)->s.next<=s1.next:=by
 induction m with
 | pure a=>intro s s1 b h;simp only[az,Option.some.injEq,Prod.mk.injEq]at h;rw[← h.2];exact Nat.le_refl _
 | load md a k ih =>
  intro s s1 b h;simp only[az]at h
  split at h
  ·split at h
   ·(have hh:=ih _ _ _ _ h;exact hh)
   ·cases h
  ·cases h
 | store md a v k ih =>
  intro s s1 b h;simp only[az]at h
  split at h
  ·split at h
   ·(have hh:=ih _ _ _ h;exact hh)
   ·cases h
  ·cases h
 | new o k ih =>
  intro s s1 b h;simp only[az]at h
  split at h
  ·split at h<;>first | (have hh:=ih _ _ _ _ h;exact Nat.le_of_succ_le hh) | cases h
  ·cases h
 | shape r k ih =>
  intro s s1 b h;simp only[az]at h
  split at h<;>first | (have hh:=ih _ _ _ _ h;exact hh) | cases h
 | freeze a n k ih=>intro s s1 b h;cases h
 | frozen a k ih =>
  intro s s1 b h;simp only[az]at h
  split at h<;>first | (have hh:=ih _ _ _ _ h;exact hh) | cases h
 | getObj r k ih =>
  intro s s1 b h;simp only[az]at h
  split at h<;>first | (have hh:=ih _ _ _ _ h;exact hh) | cases h
 | setObj r o k ih =>
  intro s s1 b h;simp only[az]at h
  split at h
  ·split at h<;>first | (have hh:=ih _ _ _ h;exact hh) | cases h
  ·split at h<;>first | (have hh:=ih _ _ _ h;exact hh) | cases h
  ·split at h<;>first | (have hh:=ih _ _ _ h;exact hh) | cases h
  ·split at h<;>first | (have hh:=ih _ _ _ h;exact hh) | cases h
  ·split at h<;>first | (have hh:=ih _ _ _ h;exact hh) | cases h
  ·cases h
 | choose q k ih =>
  intro s s1 b h;simp only[az]at h
  split at h<;>first | (have hh:=ih _ _ _ _ h;exact hh) | cases h
 | sys c k ih=>intro s s1 b h;cases h
 | program k ih=>intro s s1 b h;(have hh:=ih _ _ _ _ h;exact hh)
 | mark m k ih=>intro s s1 b h;(have hh:=ih _ _ _ h;exact hh)
 | halt h=>intro s s1 b h;cases h
theorem aq.bind{α β γ δ:Type}{P:Program}{base:Nat->Prop}{R:ag->α->β->Prop}{R':ag->γ->δ->Prop}{ι:ag}{m:Sem α}{m':Sem β}{f:α->Sem γ}{f':β->Sem δ}
  (h:aq P base R ι m m') (hf:∀ κ a b,jT ι κ->R κ a b->aq P base R' κ (f a) (f' b)):aq P base R' ι (m.bind f) (m'.bind f'):=by
 intro s w c s2 hr ha hfr;rw[mR]at ha;cases hm:az P m s with
 | none=>rw[hm]at ha;cases ha
 | some x =>
  obtain⟨a,s1⟩:=x;rw[hm]at ha;have ha':az P (f a) s1=some (c,s2):=ha;have n1:=cV P m _ _ _ hm;have n2:=cV P (f a) _ _ _ ha';obtain⟨κ,b,w1,r1,p1,e1,q1,k1⟩:=h s w a s1 hr hm (λid x y=>hfr id x (by omega));have Tc:jT ι κ:=by
   intro id b' hb
   by_cases hx:id<4*s.next\/4*s1.next<=id
   ·rw[e1 id hx];exact hb
   ·rw[hfr id (by omega) (by omega)]at hb;cases hb
  obtain⟨μ,d,w2,r2,p2,e2,q2,k2⟩:=hf κ a b Tc q1 s1 w1 c s2 p1 ha' (λid x y=>by rw[e1 id (by omega)];exact hfr id (by omega) y);refine⟨μ,d,w2,?_,p2,?_,q2,k1.trans k2⟩
  ·show(m' >>= f').run P w=_
   rw[Sem.run_bind,r1];exact r2
  ·intro id hx
   rw[e2 id (by omega),e1 id (by omega)]
theorem aq.pure{α β:Type}{P:Program}{base:Nat->Prop}{R:ag->α->β->Prop}{ι:ag}{a:α}{b:β}(h:R ι a b):aq P base R ι (.pure a) (.pure b):=by
 intro s w c s1 hr ha hfr;simp only[az,Option.some.injEq,Prod.mk.injEq]at ha;obtain⟨rfl,rfl⟩:=ha;exact⟨ι,b,w,rfl,hr,λ_ _=>rfl,h,Out.refl _ _⟩
theorem aq.program{α β:Type}{P:Program}{base:Nat->Prop}{R:ag->α->β->Prop}{ι:ag}{k:Program->Sem α}{k':Program->Sem β}(h:aq P base R ι (k P) (k' P)):aq P base R ι (.program k) (.program k') :=
 λs w c s1 hr ha hfr=>h s w c s1 hr ha hfr
theorem aq.halt{α β:Type}{P:Program}{base:Nat->Prop}{R:ag->α->β->Prop}{ι:ag}{h:Halt}{m':Sem β} : aq P base R ι (Sem.halt h:Sem α) m':=by
 intro s w c s1 hr ha hfr;cases ha
theorem aq.mark{α β:Type}{P:Program}{base:Nat->Prop}{R:ag->α->β->Prop}{ι:ag}{m m2:Mark}{k:Sem α}{k':Sem β}(h:aq P base R ι k k'):aq P base R ι (.mark m k) (.mark m2 k') :=
 λs w c s1 hr ha hfr=>h s w c s1 hr ha hfr
theorem aq.choose{α β:Type}{P:Program}{base:Nat->Prop}{R:ag->α->β->Prop}{ι:ag}{q q':Question}{k:Nat->Sem α}{k':Nat->Sem β}(hq:q.forced=true->q'.forced=true)(h:aq P base R ι (k 0) (k' 0)):aq P base R ι (.choose q k) (.choose q' k'):=by
 intro s w c s1 hr ha hfr;simp only[az]at ha
 split at ha
 ·rename_i hf
  obtain⟨κ,b,w1,r1,rest⟩:=h s w c s1 hr ha hfr;exact⟨κ,b,w1,by simp only[Sem.run,hq hf,if_true];exact r1,rest⟩
 ·cases ha
theorem run_load{β:Type}{P:Program}{w:World}{md:Mode}{a:Addr}{k:Value->Sem β}{v:Value}(h:w.cell? a=some v):(Sem.load md a k).run P w=(k v).run P w:=by
 simp only[Sem.run,h]
theorem aq.load{α β:Type}{P:Program}{base:Nat->Prop}{R:ag->α->β->Prop}{ι:ag}{md Tz:Mode}{id off b:Nat}{k:Value->Sem α}{k':Value->Sem β}(hb:ι id=some b)
  (h:∀ v v',ao ι v v'->aq P base R ι (k v) (k' v')):aq P base R ι (.load md ⟨id,off,none⟩ k) (.load Tz ⟨b,off,none⟩ k'):=by
 intro s w c s1 hr ha hfr;simp only[az]at ha;cases hl:s.look id with
 | none=>simp[hl]at ha
 | some o =>
  cases o with
  | cells c0 e0 f0 =>
   simp only[hl]at ha;cases hv:c0[off]? with
   | none=>simp[hv]at ha
   | some v =>
    simp only[hv]at ha;obtain⟨b',o',i1,i2,i3,i4⟩:=hr.there id _ hl (hr.real hl hb);rw[hb]at i1;cases i1;obtain⟨hf,c',rfl,j1,j2,j3,j4⟩:=i3;have hlt:off<c0.size:=by
     rcases Nat.lt_or_ge off c0.size with g | g
     ·exact g
     ·rw[Array.getElem?_eq_none g]at hv;cases hv
    have hv':c'[off]? = some (c'[off]'(by omega)):=Array.getElem?_eq_getElem (by omega);have hcell:w.cell? ⟨b,off,none⟩=some (c'[off]'(by omega)):=by
     simp[World.cell?,i2,hv']
    rw[run_load hcell];exact h v _ (j3 off v _ hv hv') (s.touch id (some off) false) w c s1 hr ha hfr
  | _=>simp[hl]at ha
theorem heap_setCell_same{w:World}{b off:Nat}{v:Value}{c:Array Value}{e:TypeId}(h:w.heap[b]? = some (.cells c e (0,0))):(w.setCell ⟨b,off,none⟩ v).heap[b]? = some (.cells (c.setIfInBounds off v) e (0,0)):=by
 simp[World.setCell,Array.getElem?_modify,h]
theorem dg.look_eq{P:Program}{base:Nat->Prop}{ι:ag}{H H':Nat->Option Obj}{w:World}(h:dg P base ι H w)(e:∀ id,H' id=H id):dg P base ι H' w:=by
 have:H'=H:=funext e;rw[this];exact h
theorem dg.N'{P:Program}{base:Nat->Prop}{ι κ:ag}{H H':Nat->Option Obj}{w w1:World}(hr:dg P base ι H w)(h3:∀ id o g,H' id=some o->rH o=some g->H id=some o)(hle:jT ι κ)(hk3:κ 3=ι 3)(hsz:w.heap.size<=w1.heap.size)
  (hkeep:∀ j,(∀ x ox b,H x=some ox->ι x=some b->j≠b)->j<w.heap.size->w1.heap[j]? = w.heap[j]?) (hnm:∀ x ox b,H' x=some ox->κ x=some b->(∃ y oy,H y=some oy/\ι y=some b)\/w.heap.size<=b) :
  ∀ id o g,H' id=some o->rH o=some g->id=3/\κ 3=none/\∃ F:Nat->Prop,aP.GR g κ F w1/\(∀ j,F j->j<w1.heap.size/\¬ base j)/\∀ x ox b,H' x=some ox->κ x=some b->¬ F b:=by
 intro id o g hx hg;obtain⟨e,n3,F,q1,q2,q3⟩:=hr.gh id o g (h3 id o g hx hg) hg;refine⟨e,by rw[hk3];exact n3,F,aP.rO _ _ _ _ _ hle (aP.rN _ _ _ _ _ (λj hj=>?_) q1),λj hj=>⟨Nat.lt_of_lt_of_le (q2 j hj).1 hsz,(q2 j hj).2⟩,λx ox b h1 h2 hb=>?_⟩
 ·exact hkeep j (λx ox b h1 h2 e=>q3 x ox b h1 h2 (e▸hj)) (q2 j hj).1
 ·rcases hnm x ox b h1 h2 with ⟨y,oy,g1,g2⟩ | g1
  ·exact q3 y oy b g1 g2 hb
  ·have:=(q2 b hb).1
   omega
theorem dg.put{P:Program}{base:Nat->Prop}{ι:ag}{s:St}{w w1:World}{id b:Nat}{o o1 DV:Obj}(hr:dg P base ι s.look w)(hlim:id<lim)(hl:s.look id=some o)(hb:ι id=some b)
  (hw:w1.heap[b]? = some DV) (ho:ib P ι id o1 DV) (hoth:∀ j,j≠b->w1.heap[j]? = w.heap[j]?) (hsz:w1.heap.size=w.heap.size):dg P base ι (s.put id (some o1)).look w1:=by
 refine⟨?_,?_,λk hk=>by have:=hr.sz k hk;omega,?_⟩
 ·intro x y ox oy bb hx hy h1 h2
  have live:∀ z oz,(s.put id (some o1)).look z=some oz->∃ V_,s.look z=some V_:=by
   intro z oz hz
   by_cases e:z=id
   ·subst e;exact⟨o,hl⟩
   ·rw[St.aW _ _ _ _ e]at hz;exact⟨oz,hz⟩
  obtain⟨V',hx'⟩:=live x ox hx;obtain⟨Wa,hy'⟩:=live y oy hy;exact hr.inj x y V' Wa bb hx' hy' h1 h2
 ·intro x ox hx hrl
  by_cases e:x=id
  ·subst e
   rw[St.bK _ _ _ hlim]at hx;cases hx;obtain⟨b9,o9,g1,g2,g3,g4⟩:=hr.there x o hl (hr.real hl hb);rw[hb]at g1;cases g1;exact⟨b,DV,hb,hw,ho,g4⟩
  ·rw[St.aW _ _ _ _ e]at hx
   obtain⟨b2,o2,g1,g2,g3,g4⟩:=hr.there x ox hx hrl;have hne:b2≠b:=by
    intro eb;subst eb;exact e (hr.inj x id ox o b2 hx hl g1 hb)
   exact⟨b2,o2,g1,by rw[hoth b2 hne];exact g2,g3,g4⟩
 ·refine hr.N' (λx ox g hx hg=>?_) (jT.refl _) rfl (by omega) (λj hj _=>hoth j (hj id o b hl hb)) (λx ox bb hx hbb=>?_)
  ·by_cases e:x=id
   ·subst e
    rw[St.bK _ _ _ hlim]at hx;cases hx;rw[dg.DU ho]at hg;cases hg
   ·rw[St.aW _ _ _ _ e]at hx
    exact hx
  ·by_cases e:x=id
   ·subst e
    exact .inl ⟨x,o,hl,hbb⟩
   ·rw[St.aW _ _ _ _ e]at hx
    exact .inl ⟨x,ox,hx,hbb⟩
theorem run_store{β:Type}{P:Program}{w:World}{md:Mode}{a:Addr}{k:Sem β}{v u:Value}(h:w.cell? a=some u)(hf:w.frozen? a=false)(h1:oneCell v=true):(Sem.store md a v k).run P w=k.run P (w.setCell a v):=by
 cases v<;>first | (simp[oneCell]at h1;done) | simp[Sem.run,h,hf]
theorem sF{v:Value}(h:ai v=true):oneCell v=true:=by cases v<;>first | rfl | cases h
theorem ao.one{ι:ag}{v v':Value}(h:ao ι v v')(h1:oneCell v=true):oneCell v'=true:=by
 cases h with
 | sym n m _ h=>rw[← h];exact sF (aP.leaf n)
 | dyn id c _ h h'=>rw[← h'];exact sF (aV c)
 | sE id c j _ h h'=>rw[← h'];exact sF (p_ j (dec c))
 | junk n v' h=>cases h1
 | agg=>cases h1
 | tuple=>cases h1
 | _=>rfl
theorem aq.store{α β:Type}{P:Program}{base:Nat->Prop}{R:ag->α->β->Prop}{ι:ag}{md Tz:Mode}{id off b:Nat}{v v':Value}{k:Sem α}{k':Sem β}(hb:ι id=some b)(hv:ao ι v v')
  (h:aq P base R ι k k'):aq P base R ι (.store md ⟨id,off,none⟩ v k) (.store Tz ⟨b,off,none⟩ v' k'):=by
 intro s w c s1 hr ha hfr;have e0:∃ c0 t,s.look id=some (.cells c0 t (0,0))/\oneCell v=true/\off<c0.size/\id<lim/\az P k ((s.put id (some (.cells (c0.setIfInBounds off v) t (0,0)))).touch id (some off) true)=some (c,s1):=by
  simp only[az]at ha;cases h1:oneCell v with
  | false=>simp[h1]at ha
  | true =>
   cases hl:s.look id with
   | none=>simp[hl]at ha
   | some o =>
    cases o with
    | cells c0 e0 f0 =>
     obtain⟨f1,f2⟩:=f0;simp only[h1,hl]at ha
     split at ha
     ·rename_i heq
      cases heq
      split at ha
      ·rename_i hlt
       exact⟨_,_,rfl,rfl,hlt.1,hlt.2,ha⟩
      ·cases ha
     ·cases ha
    | _=>simp[h1,hl]at ha
 obtain⟨c0,t,hl,h1,hlt,hlim,ha'⟩:=e0;obtain⟨b',o',i1,i2,i3,i4⟩:=hr.there id _ hl (hr.real hl hb);rw[hb]at i1;cases i1;obtain⟨hf,c',rfl,j1,j2,j3,j4⟩:=i3;have hcell:w.cell? ⟨b,off,none⟩=some (c'[off]'(by omega)):=by
  have hv':c'[off]? = some (c'[off]'(by omega)):=Array.getElem?_eq_getElem (by omega);simp[World.cell?,i2,hv']
 have hfz:w.frozen? ⟨b,off,none⟩=false:=by simp[World.frozen?,i2]
 rw[run_store hcell hfz (hv.one h1)];have hrep:dg P base ι ((s.put id (some (.cells (c0.setIfInBounds off v) t (0,0)))).touch id (some off) true).look (w.setCell ⟨b,off,none⟩ v'):=by
  refine dg.put (o:=.cells c0 t (0,0)) (b:=b) hr hlim hl hb (heap_setCell_same i2) ?_ ?_ ?_
  ·refine⟨rfl,_,rfl,by simpa using j1,by simpa using j2,?_,by simpa using j4⟩
   intro i x x' hx hx';rw[Array.getElem?_setIfInBounds]at hx hx'
   by_cases e:off=i
   ·subst e
    simp only[if_true]at hx hx';rw[if_pos hlt]at hx;rw[if_pos (by omega)]at hx';cases hx;cases hx';exact hv
   ·simp only[e,if_false]at hx hx'
    exact j3 i x x' hx hx'
  ·intro j hj
   exact Below.heap_setCell _ _ _ _ hj
  ·simp[World.setCell]
 obtain⟨κ,bb,w1,r1,p1,e1,q1,k1⟩:=h _ _ c s1 hrep ha' hfr;exact⟨κ,bb,w1,r1,p1,e1,q1,((Out.refl base w).setCell (p:=⟨b,off,none⟩) i4 v').trans k1⟩
def ag.upd(ι:ag)(id b:Nat):ag:=λx=>if x=id then some b else ι x
theorem ag.dE{ι:ag}{id b:Nat}(h:ι id=none):jT ι (ι.upd id b):=by
 intro x y hx;unfold ag.upd
 by_cases e:x=id
 ·subst e;rw[h]at hx;cases hx
 ·rw[if_neg e];exact hx
theorem ib.even{P:Program}{ι:ag}{id:Nat}(h:iQ id=false){o o':Obj}(ho:ib P ι 0 o o'):ib P ι id o o':=by
 cases o with
 | cells c e f =>
  obtain⟨h0,c',h1,h2,h3,h4,_⟩:=ho;exact⟨h0,c',h1,h2,λ_=>h3 (by decide),h4,λg=>by rw[h]at g;cases g⟩
 | map es n=>exact ho
 | mapIter m n se st=>cases m<;>exact ho
 | _=>exact ho
theorem dg.new{P:Program}{base:Nat->Prop}{ι:ag}{s:St}{w:World}{id:Nat}{o o':Obj}(hr:dg P base ι s.look w)(hlim:id<lim)(hi3:id%4≠3)(hn:ι id=none)(ho:ib P ι id o o') :
  dg P base (ι.upd id w.heap.size) (s.put id (some o)).look { w with heap:=w.heap.push o' }:=by
 have hle:=ag.dE (b:=w.heap.size) hn;have hnot:s.look id=none:=by
  cases hl:s.look id with
  | none=>rfl
  | some x =>
   cases hg:rH x with
   | none =>
    obtain⟨b,o2,g1,_⟩:=hr.there id x hl hg;rw[hn]at g1;cases g1
   | some g =>
    obtain⟨e,_⟩:=hr.gh id x g hl hg;omega
 have hlt:∀ x ox b,s.look x=some ox->ι x=some b->b<w.heap.size:=by
  intro x ox b hx hb;obtain⟨b2,o2,g1,g2,_⟩:=hr.there x ox hx (hr.real hx hb);rw[hb]at g1;cases g1;rcases Nat.lt_or_ge b w.heap.size with g | g
  ·exact g
  ·rw[Array.getElem?_eq_none g]at g2;cases g2
 have hother:∀ x b,x≠id->(ι.upd id w.heap.size) x=some b->ι x=some b:=by
  intro x b e hx;unfold ag.upd at hx;rw[if_neg e]at hx;exact hx
 have hbase:=hr.sz;refine⟨?_,?_,λk hk=>by have:=hr.sz k hk;simp;omega,?_⟩
 ·intro x y ox oy bb hx hy h1 h2
  by_cases ex:x=id
  ·by_cases ey:y=id
   ·rw[ex,ey]
   ·have hy':=hother y bb ey h2
    rw[St.aW _ _ _ _ ey]at hy;have:=hlt y oy bb hy hy';subst ex;simp only[ag.upd,if_true,Option.some.injEq]at h1;omega
  ·by_cases ey:y=id
   ·have hx':=hother x bb ex h1
    rw[St.aW _ _ _ _ ex]at hx;have:=hlt x ox bb hx hx';subst ey;simp only[ag.upd,if_true,Option.some.injEq]at h2;omega
   ·rw[St.aW _ _ _ _ ex]at hx
    rw[St.aW _ _ _ _ ey]at hy;exact hr.inj x y ox oy bb hx hy (hother x bb ex h1) (hother y bb ey h2)
 ·intro x ox hx hrl
  by_cases ex:x=id
  ·subst ex
   rw[St.bK _ _ _ hlim]at hx;cases hx;exact⟨w.heap.size,o',by simp[ag.upd],by simp,ho.mono hle,λhk=>Nat.lt_irrefl _ (hbase _ hk)⟩
  ·rw[St.aW _ _ _ _ ex]at hx
   obtain⟨b,o2,g1,g2,g3,g4⟩:=hr.there x ox hx hrl;have:=hlt x ox b hx g1;exact⟨b,o2,hle _ _ g1,by simp only[Array.getElem?_push];rw[if_neg (by omega)];exact g2,g3.mono hle,g4⟩
 ·refine hr.N' (λx ox g hx hg=>?_) hle (by unfold ag.upd;rw[if_neg (by omega)]) (by simp) (λj _ hj=>?_) (λx ox bb hx hbb=>?_)
  ·by_cases e:x=id
   ·subst e
    rw[St.bK _ _ _ hlim]at hx;cases hx;rw[dg.DU ho]at hg;cases hg
   ·rw[St.aW _ _ _ _ e]at hx
    exact hx
  ·simp only[Array.getElem?_push]
   rw[if_neg (by omega)]
  ·by_cases e:x=id
   ·subst e
    simp only[ag.upd,if_true,Option.some.injEq]at hbb;exact .inr (by omega)
   ·rw[St.aW _ _ _ _ e]at hx
    exact .inl ⟨x,ox,hx,hother x bb e hbb⟩
theorem zf(n:Nat):iQ (4*n)=false:=by
 simp[iQ]
theorem aq.new{α β:Type}{P:Program}{base:Nat->Prop}{R:ag->α->β->Prop}{ι:ag}{o o':Obj}{k:Nat->Sem α}{k':Nat->Sem β}(ho:ib P ι 0 o o')
  (h:∀ κ id b,jT ι κ->κ id=some b->iQ id=false->aq P base R κ (k id) (k' b)):aq P base R ι (.new o k) (.new o' k'):=by
 intro s w c s1 hr ha hfr;have e0:4*s.next<lim/\az P (k (4*s.next)) { (s.put (4*s.next) (some o)).touch (4*s.next) none true with next:=s.next+1 }=some (c,s1):=by
  simp only[az]at ha
  split at ha
  ·rename_i hlt
   refine⟨hlt,?_⟩;cases o with
   | cells c0 e0 f0 =>
    obtain⟨hf,_⟩:=ho;subst hf;exact ha
   | map es n=>exact ha
   | mapIter m n se st=>exact ha
   | stringIter st p=>exact ha
   | loop l=>exact ha
   | deferred d=>exact ha
   | _=>exact ho.elim
  ·cases ha
 obtain⟨hlim,ha'⟩:=e0;have n1:=cV P _ _ _ _ ha';have n2:s.next+1<=s1.next:=n1
 have hn:ι (4*s.next)=none:=hfr _ (Nat.le_refl _) (by omega);have hrep:=dg.new hr hlim (by omega) hn (ho.even (zf _));have Ri:dg P base (ι.upd (4*s.next) w.heap.size) ({ (s.put (4*s.next) (some o)).touch (4*s.next) none true with next:=s.next+1 } : St).look { w with heap:=w.heap.push o' }:=hrep
 obtain⟨κ,bb,w1,r1,p1,e1,q1,k1⟩:=h (ι.upd (4*s.next) w.heap.size) (4*s.next) w.heap.size (ag.dE hn) (by simp[ag.upd]) (zf _) _ _ c s1 Ri ha' (by
  intro id h1 h2;have h1':4*(s.next+1)<=id:=h1;unfold ag.upd;rw[if_neg (by omega)]
  exact hfr id (by omega) h2)
 refine⟨κ,bb,w1,r1,p1,?_,q1,?_⟩
 ·intro id hx
  rw[e1 id (by show id<4*(s.next+1)\/4*s1.next<=id;omega)];unfold ag.upd;rw[if_neg (by omega)]
 ·exact((Out.refl base w).alloc hr.sz o').trans k1
theorem aq.getObj{α β:Type}{P:Program}{base:Nat->Prop}{R:ag->α->β->Prop}{ι:ag}{id b:Nat}{k:Obj->Sem α}{k':Obj->Sem β}(hb:ι id=some b)
  (h:∀ o o',ib P ι id o o'->(∀ c e f,o≠.cells c e f)->aq P base R ι (k o) (k' o')):aq P base R ι (.getObj id k) (.getObj b k'):=by
 intro s w c s1 hr ha hfr;have e0:∃ o,s.look id=some o/\(∀ c e f,o≠.cells c e f)/\az P (k o) (s.touch id none false)=some (c,s1):=by
  simp only[az]at ha
  split at ha
  ·rename_i hl
   exact⟨_,hl,(λ_ _ _ e=>by cases e),ha⟩
  ·rename_i hl
   exact⟨_,hl,(λ_ _ _ e=>by cases e),ha⟩
  ·rename_i hl
   exact⟨_,hl,(λ_ _ _ e=>by cases e),ha⟩
  ·rename_i hl
   exact⟨_,hl,(λ_ _ _ e=>by cases e),ha⟩
  ·rename_i hl
   exact⟨_,hl,(λ_ _ _ e=>by cases e),ha⟩
  ·cases ha
 obtain⟨o,hl,hne,ha'⟩:=e0;obtain⟨b',o',i1,i2,i3,i4⟩:=hr.there id _ hl (hr.real hl hb);rw[hb]at i1;cases i1;have hne':∀ c e f,o'≠.cells c e f:=by
  intro c e f e';subst e';cases o with
  | cells c0 e0 f0=>exact hne _ _ _ rfl
  | map es n=>obtain⟨es',h1,_⟩:=i3;cases h1
  | mapIter m n se st=>cases m with
   | none=>cases i3
   | some m=>obtain⟨m',_,h1⟩:=i3;cases h1
  | stringIter st p=>cases i3
  | loop l=>obtain⟨l',h1,_⟩:=i3;cases h1
  | deferred d=>cases i3.1
  | _=>exact i3
 have hrun:(Sem.getObj b k').run P w=(k' o').run P w:=by
  simp only[Sem.run,i2]
 rw[hrun];exact h o o' i3 hne (s.touch id none false) w c s1 hr ha' hfr
theorem aq.setObj{α β:Type}{P:Program}{base:Nat->Prop}{R:ag->α->β->Prop}{ι:ag}{id b:Nat}{o o':Obj}{k:Sem α}{k':Sem β}(hb:ι id=some b)(ho:ib P ι id o o')(hc:∀ c e f,o≠.cells c e f)
  (h:aq P base R ι k k'):aq P base R ι (.setObj id o k) (.setObj b o' k'):=by
 intro s w c s1 hr ha hfr;have e0:∃ o0,s.look id=some o0/\(∀ c e f,o0≠.cells c e f)/\id<lim/\az P k ((s.put id (some o)).touch id none true)=some (c,s1):=by
  simp only[az]at ha
  split at ha
  ·rename_i hl
   split at ha
   ·rename_i hlt
    exact⟨_,hl,(λ_ _ _ e=>by cases e),hlt,ha⟩
   ·cases ha
  ·rename_i hl
   split at ha
   ·rename_i hlt
    exact⟨_,hl,(λ_ _ _ e=>by cases e),hlt,ha⟩
   ·cases ha
  ·rename_i hl
   split at ha
   ·rename_i hlt
    exact⟨_,hl,(λ_ _ _ e=>by cases e),hlt,ha⟩
   ·cases ha
  ·rename_i hl
   split at ha
   ·rename_i hlt
    exact⟨_,hl,(λ_ _ _ e=>by cases e),hlt,ha⟩
   ·cases ha
  ·rename_i hl
   split at ha
   ·rename_i hlt
    exact⟨_,hl,(λ_ _ _ e=>by cases e),hlt,ha⟩
   ·cases ha
  ·cases ha
 obtain⟨o0,hl,hne,hlim,ha'⟩:=e0;obtain⟨b',o2,i1,i2,i3,i4⟩:=hr.there id _ hl (hr.real hl hb);rw[hb]at i1;cases i1;have hne':∀ c e f,o2≠.cells c e f:=by
  intro c e f e';subst e';cases o0 with
  | cells c0 e0 f0=>exact hne _ _ _ rfl
  | map es n=>obtain⟨es',h1,_⟩:=i3;cases h1
  | mapIter m n se st=>cases m with
   | none=>cases i3
   | some m=>obtain⟨m',_,h1⟩:=i3;cases h1
  | stringIter st p=>cases i3
  | loop l=>obtain⟨l',h1,_⟩:=i3;cases h1
  | deferred d=>cases i3.1
  | _=>exact i3
 have hrun:(Sem.setObj b o' k').run P w=k'.run P { w with heap:=w.heap.setIfInBounds b o' }:=by
  simp only[Sem.run,i2]
 rw[hrun];have hrep:dg P base ι ((s.put id (some o)).touch id none true).look { w with heap:=w.heap.setIfInBounds b o' }:=by
  refine dg.put (o:=o0) (b:=b) hr hlim hl hb ?_ ho ?_ ?_
  ·have hlt:b<w.heap.size:=by
    rcases Nat.lt_or_ge b w.heap.size with g | g
    ·exact g
    ·rw[Array.getElem?_eq_none g]at i2;cases i2
   simp[Array.getElem?_setIfInBounds,hlt]
  ·intro j hj
   simp only[Array.getElem?_setIfInBounds];rw[if_neg (λe=>hj e.symm)]
  ·simp
 obtain⟨κ,bb,w1,r1,p1,e1,q1,k1⟩:=h _ _ c s1 hrep ha' hfr;have hbl:Out base w { w with heap:=w.heap.setIfInBounds b o' }:=by
  refine⟨rfl,rfl,rfl,by simp,?_⟩;intro j hj;simp only[Array.getElem?_setIfInBounds];rw[if_neg (λe=>by subst e;exact i4 hj)]
 exact⟨κ,bb,w1,r1,p1,e1,q1,hbl.trans k1⟩
theorem aq.shape{α β:Type}{P:Program}{base:Nat->Prop}{R:ag->α->β->Prop}{ι:ag}{id b:Nat}{k:Option (TypeId×Nat)->Sem α}{k':Option (TypeId×Nat)->Sem β}(hb:ι id=some b)
  (h:∀ x,aq P base R ι (k x) (k' x)):aq P base R ι (.shape id k) (.shape b k'):=by
 intro s w c s1 hr ha hfr;have e0:∃ c0 t,s.look id=some (.cells c0 t (0,0))/\iQ id=false/\az P (k (some (t,c0.size))) (s.touch id (some 0) false)=some (c,s1):=by
  simp only[az]at ha
  split at ha
  ·rename_i hg hl
   exact⟨_,_,hl,hg,ha⟩
  ·cases ha
 obtain⟨c0,t,hl,hg,ha'⟩:=e0;obtain⟨b',o',i1,i2,i3,i4⟩:=hr.there id _ hl (hr.real hl hb);rw[hb]at i1;cases i1;obtain⟨hf,c',rfl,j1,j2,j3,j4⟩:=i3;have hrun:(Sem.shape b k').run P w=(k' (some (t,c0.size))).run P w:=by
  simp only[Sem.run,World.shape?,i2,j2 hg]
 rw[hrun];exact h _ (s.touch id (some 0) false) w c s1 hr ha' hfr
theorem aq.frozen{α β:Type}{P:Program}{base:Nat->Prop}{R:ag->α->β->Prop}{ι:ag}{id off b off':Nat}{sp sp':Option Nat}{k:Bool->Sem α}{k':Bool->Sem β}(hb:ι id=some b)
  (h:aq P base R ι (k false) (k' false)):aq P base R ι (.frozen ⟨id,off,sp⟩ k) (.frozen ⟨b,off',sp'⟩ k'):=by
 intro s w c s1 hr ha hfr;have e0:∃ c0 t,s.look id=some (.cells c0 t (0,0))/\az P (k false) (s.touch id (some 0) false)=some (c,s1):=by
  simp only[az]at ha
  split at ha
  ·rename_i hl
   exact⟨_,_,hl,ha⟩
  ·cases ha
 obtain⟨c0,t,hl,ha'⟩:=e0;obtain⟨b',o',i1,i2,i3,i4⟩:=hr.there id _ hl (hr.real hl hb);rw[hb]at i1;cases i1;obtain⟨hf,c',rfl,j1,j2,j3,j4⟩:=i3;have hrun:(Sem.frozen ⟨b,off',sp'⟩ k').run P w=(k' false).run P w:=by
  simp[Sem.run,World.frozen?,i2]
 rw[hrun];exact h (s.touch id (some 0) false) w c s1 hr ha' hfr
end Go.Ev
