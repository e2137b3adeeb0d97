/- Part of a proof: see the last text. -/
import Derived.Test.YtimhpaijbbegaaaRows
import Derived.WalkKit
import Derived.ProofKit
import Derived.OpenShut
import Derived.Carry
import Derived.Deep.Fields
namespace Go.Proofs.Ytimhpaijbbegaaa
open Go.ChangeShapes Go.WideShapes Go.ChangeAt Go.RowKit Go.Deep
set_option linter.unusedVariables false
section
variable {H:Type} {enc:TypeId×Value→H} {P:Program}
theorem trodAll_below (hl:laidOutB P=true) {W W':World} (hb:Below W.heap.size W W') : ∀ (ts:List TypeId) (vs:List Value) (ds:List (DataW H)) (ps:List MemPlace),
  DataW.TrodAll enc P W 0 (fun _=>true) true ts vs ds ps→(∀ t ∈ ts,P.readableRec t=true∧t < P.types.size)→(∀ x ∈ ps,x.block < W.heap.size) →
  DataW.TrodAll enc P W' 0 (fun b=>decide (b < W.heap.size)) true ts vs ds ps:=by
 intro ts
 induction ts with
 | nil =>
  intro vs ds ps h _ _
  obtain ⟨rfl,rfl,rfl⟩:=trodAll_nil h
  exact trodAll_mk0
 | cons t ts ih =>
  intro vs ds ps h hr hlt
  obtain ⟨v,vs',d,ds',p,q,rfl,rfl,rfl,h1,h2⟩:=trodAll_cons h
  exact trodAll_cons_mk ((hb.trod hl (hr t (List.mem_cons_self ..)).1 (hr t (List.mem_cons_self ..)).2 h1 (fun x hx=>hlt x (List.mem_append_left _ hx))))
   (ih vs' ds' q h2 (fun t' ht'=>hr t' (List.mem_cons_of_mem _ ht')) (fun x hx=>hlt x (List.mem_append_right _ hx)))
theorem law_post {f:Func} {s:ChangeSpec} {W W':World} {args:Array Value} {ds gs:List (DataW H)} {before:List MemPlace} {tb:TypeId} (hl:laidOutB P=true)
  (hW:DataW.Whole enc P f.params.toList s.vars false W args.toList ds gs before) (hvars:s.vars=[]) (hres:f.resultTypes = #[tb]) (hbool:P.underlying tb=some .bool)
  (hfn:s.fn H ds = { results:=[.lit (.bool true)],args:=ds }) (hread:∀ t ∈ f.params.toList,P.readableRec t=true∧t < P.types.size) (hb:Below W.heap.size W W') :
  s.post enc P f false true false false W args (.bool true) W':=by
 have hW0:=hW
 obtain ⟨p,q,hA,hV,hpq,hz,hn⟩:=hW
 rw [hvars] at hV
 obtain ⟨rfl,rfl⟩:=trodVars_none hV
 have hlt:∀ x ∈ before,x.block < W.heap.size:=fun x hx=>hW0.lt x hx
 have hpl:before=p:=by rw [hpq,List.append_nil]
 refine ⟨ds,[],before,[],p,[],hW0,?_,?_,?_,?_,fun h=>by cases h⟩
 ·rw [List.append_nil,hfn,hres]
  exact trodAll_mk1 (shut_bool hbool true)
 ·rw [List.append_nil,hfn]
  exact trodAll_below hl hb _ _ _ _ hA hread (fun x hx=>hlt x (by rw [hpl]; exact hx))
 ·rw [hvars,List.append_nil,hfn]
  rfl
 ·exact World.keptBut_mono (fun x hx=>⟨hx,.inr (.inl (by rw [hpl] at hx; exact hx))⟩) (hb.frame (· ∈ before))
theorem open_cells {W:World} {base b0:Nat} {spare:Nat→Bool} {held:Bool} {r:Reach} {t:TypeId} {fs:Array Field} {v:Value} {d:DataW H} {p:List MemPlace} (hs:P.underlying t=some (.struct fs)) (hone:oneCellFields P fs=true) (hC:P.cellsOf t=fs.size)
  (hv:Value.okWide P W r b0 t v) (h:DataW.Trod enc P W base spare held t v d p) :
  ∃ cs:Array Value,v=.agg cs∧cs.size=fs.size∧∀ (j:Nat) (f:Field),fs[j]? = some f→∃ n x y,cs[j]? = some x∧DataW.trod enc P W base spare held n f.type [x]=some y:=by
 obtain ⟨cs,rfl,hsz⟩:=okWide_struct hs hv
 obtain ⟨fuel,hf⟩:=h
 obtain ⟨ys,n,hn,hy,hlen,hyl,hfs⟩:=DataW.trod_struct hs hf
 rw [hC] at hsz
 refine ⟨cs,rfl,hsz,fun j f hj=>?_⟩
 obtain ⟨ho,hk⟩:=hone_of hone j f hj
 have hjl:j < cs.size:=by rw [hsz]; exact (Array.getElem?_eq_some_iff.1 hj).1
 have h1:=hfs j f hj
 have hjy:j < ys.length:=by rw [hyl]; exact (Array.getElem?_eq_some_iff.1 hj).1
 have hys:ys[j]? = some (ys[j]'hjy):=List.getElem?_eq_getElem hjy
 have hc:(((Value.agg cs).cells.toList.drop f.offset).take (P.cellsOf f.type))=[cs[j]]:=by
  rw [ho,hk]
  show ((cs.toList.drop j).take 1)=_
  rw [List.drop_eq_getElem_cons (by simpa using hjl)]
  rfl
 refine ⟨n,cs[j],ys[j]'hjy,Array.getElem?_eq_getElem hjl,?_⟩
 rw [← hc,← hys]
 exact h1
end
end Go.Proofs.Ytimhpaijbbegaaa
namespace Go.Ev
open Go.RowKit
set_option linter.unusedVariables false
set_option linter.unusedSimpArgs false
set_option linter.unusedSectionVars false
abbrev Ren:=Nat→Option Nat
def gro (id:Nat) : Bool:=id % 4 == 1
def RLe (ι κ:Ren) : Prop:=∀ id b,ι id=some b→κ id=some b
theorem RLe.refl (ι:Ren) : RLe ι ι:=fun _ _ h=>h
theorem RLe.trans {ι κ μ:Ren} (h:RLe ι κ) (k:RLe κ μ) : RLe ι μ:=fun _ _ x=>k _ _ (h _ _ x)
def unpF:Nat→Nat→Nat×Nat
 | 0,n=>(0,n)
 | f+1,n=>if n % 2=1 then (0,n / 2) else ((unpF f (n / 2)).1+1,(unpF f (n / 2)).2)
def unp (n:Nat) : Nat×Nat:=unpF n n
def dec (c:Nat) : Value :=
 match (unp c).1 with
 | 0=>.slice (some ⟨(unp (unp c).2).1,(unp (unp (unp c).2).2).1,none⟩) (unp (unp (unp (unp c).2).2).2).1 (unp (unp (unp (unp c).2).2).2).2
 | 1=>.pointer (some ⟨(unp (unp c).2).1,(unp (unp c).2).2,none⟩)
 | 2=>.map (some (unp c).2)
 | 3=>.slice none 0 0
 | 4=>.pointer none
 | 5=>.map none
 | 6=>.int .i64 (if (unp c).2 % 2=0 then (((unp c).2 / 2:Nat) : Int) else - (((unp c).2 / 2:Nat) : Int) - 1)
 | _=>.int .u64 ((unp c).2:Nat)
def leafV:Value→Bool
 | .bool _ | .agg _ | .tuple _ | .complex _ _ _=>false
 | _=>true
def plainV:Value→Bool
 | .bool _ | .agg _ | .tuple _=>false
 | _=>true
theorem dec_leaf (c:Nat) : leafV (dec c)=true:=by
 unfold dec
 split <;> rfl
def sub3 (j n:Nat) : Nat :=
 match j with
 | 0=>(unp n).1
 | 1=>(unp (unp n).2).1
 | 2=>(unp (unp n).2).2
 | 3=>(unp (unp (unp n).2).2).1
 | _=>(unp (unp (unp n).2).2).2
def subV (j:Nat) (v:Value) : Value :=
 match v with
 | .int _ n=>dec (sub3 j n.toNat)
 | _=>.nilIface
theorem subV_leaf (j:Nat) (v:Value) : leafV (subV j v)=true:=by
 unfold subV
 split
 ·exact dec_leaf _
 ·rfl
def cvV (val:Nat→Value) : Value→Value
 | .complex .f64 n _=>val n
 | v=>v
def symV:Value→Bool
 | .bool _ | .int _ _ | .float _ _ | .string _ | .complex .f64 _ _=>true
 | .pointer none | .slice none 0 0 | .map none | .nilFunc | .nilIface=>true
 | _=>false
abbrev GQ:=Nat→Nat→Option (Value×Option Nat)
inductive GReq where
 | now (q:GQ)
 | src (sz j:Nat) (q:List Value→GQ)
 | stay (r:Value)
def GReq.q:GReq→List Value→GQ
 | .now q,_=>q
 | .src _ _ q,c=>q c
 | .stay r,_=>fun _ _=>some (r,none)
class Sig where
  val:Nat→Value
  leaf:∀ n,leafV (val n)=true
  bin:BinOp→Value→Value→Option Value
  bin_ok:∀ op x y r,bin op x y=some r→symV x=true∧symV y=true∧symV r=true∧∀ t ox oy,(do eqGuard op t ox oy (cvV val x) (cvV val y); binOp op t (cvV val x) (cvV val y) : Sem Value)=pure (cvV val r)
  una:UnOp→Value→Option Value
  una_ok:∀ op x r,una op x=some r→symV x=true∧symV r=true∧Op.unary op (cvV val x)=pure (cvV val r)
  cnv:IntKind→Value→Option Value
  cnv_ok:∀ k x r,cnv k x=some r→symV x=true∧symV r=true∧∃ k0 n,cvV val x=.int k0 n∧cvV val r=.int k (k.wrap n)
  cal:FuncId→List Value→Option Value
  cal_sym:∀ f l r,cal f l=some r→symV r=true
  GR:Nat→Ren→(Nat→Prop)→World→Prop
  GR_keep:∀ g ι F w w',(∀ j,F j→w'.heap[j]? = w.heap[j]?)→GR g ι F w→GR g ι F w'
  GR_mono:∀ g ι κ F w,RLe ι κ→GR g ι F w→GR g κ F w
  gop:Op→List Value→Option GReq
  gcal:FuncId→List Value→Option GQ
variable [Sig]
inductive VRel (ι:Ren) : Value→Value→Prop
 | bool (b:Bool) : VRel ι (.bool b) (.bool b)
 | int (k:IntKind) (n:Int) : VRel ι (.int k n) (.int k n)
 | float (k:FloatKind) (n:Nat) : VRel ι (.float k n) (.float k n)
 | sym (n m:Nat) (v':Value) (h:Sig.val n=v') : VRel ι (.complex .f64 n m) v'
 | dyn (id c:Nat) (v':Value) (h:ι id=some c) (h':dec c=v') : VRel ι (.complex .f32 id 0) v'
 | junk (n:Nat) (v':Value) (h:plainV v'=true) : VRel ι (.complex .f32 n 1) v'
 | dyn3 (id c j:Nat) (v':Value) (h:ι id=some c) (h':subV j (dec c)=v') : VRel ι (.complex .f32 id (j+2)) v'
 | string (s:ByteArray) : VRel ι (.string s) (.string s)
 | ptr0:VRel ι (.pointer none) (.pointer none)
 | ptr (id off b:Nat) (h:ι id=some b) : VRel ι (.pointer (some ⟨id,off,none⟩)) (.pointer (some ⟨b,off,none⟩))
 | slice0:VRel ι (.slice none 0 0) (.slice none 0 0)
 | slice (id off b n c c':Nat) (h:ι id=some b) (h0:gro id=false→c=c') (h1:gro id=true→c≤c'∧(off=0→ι (id+1)=some c')) (h2:0 < c) (h3:n≤c) : VRel ι (.slice (some ⟨id,off,none⟩) n c) (.slice (some ⟨b,off,none⟩) n c')
 | sliceE (id off b:Nat) (h:ι id=some b) (h0:gro id=false) : VRel ι (.slice (some ⟨id,off,none⟩) 0 0) (.slice (some ⟨b,off,none⟩) 0 0)
 | map0:VRel ι (.map none) (.map none)
 | map (id b:Nat) (h:ι id=some b) : VRel ι (.map (some id)) (.map (some b))
 | func (fn:Fn) (f f' c c':Array Value) (hy:∀ l,fn ≠ .yield l) (hf:f.size=f'.size) (hc:c.size=c'.size)
   (h:∀ (i:Nat) (v v':Value),f[i]? = some v→f'[i]? = some v'→VRel ι v v') (h':∀ (i:Nat) (v v':Value),c[i]? = some v→c'[i]? = some v'→VRel ι v v') : VRel ι (.func fn f c) (.func fn f' c')
 | yield (id b:Nat) (h:ι id=some b) : VRel ι (.func (.yield id) #[] #[]) (.func (.yield b) #[] #[])
 | nilFunc:VRel ι .nilFunc .nilFunc
 | iface (t:TypeId) (v v':Value) (h:VRel ι v v') : VRel ι (.iface t v) (.iface t v')
 | nilIface:VRel ι .nilIface .nilIface
 | agg (f f':Array Value) (hf:f.size=f'.size) (h:∀ (i:Nat) (v v':Value),f[i]? = some v→f'[i]? = some v'→VRel ι v v') : VRel ι (.agg f) (.agg f')
 | tuple (f f':Array Value) (hf:f.size=f'.size) (h:∀ (i:Nat) (v v':Value),f[i]? = some v→f'[i]? = some v'→VRel ι v v') : VRel ι (.tuple f) (.tuple f')
def ARel (ι:Ren) (f f':Array Value) : Prop:=f.size=f'.size∧∀ (i:Nat) (v v':Value),f[i]? = some v→f'[i]? = some v'→VRel ι v v'
theorem VRel.mono {ι κ:Ren} (hk:RLe ι κ) {v v':Value} (h:VRel ι v v') : VRel κ v v':=by
 induction h with
 | bool b=>exact .bool b
 | int k n=>exact .int k n
 | float k n=>exact .float k n
 | sym n m v' h=>exact .sym n m v' h
 | dyn id c v' h h'=>exact .dyn id c v' (hk _ _ h) h'
 | junk n v' h=>exact .junk n v' h
 | dyn3 id c j v' h h'=>exact .dyn3 id c j v' (hk _ _ h) h'
 | string s=>exact .string s
 | ptr0=>exact .ptr0
 | ptr id off b h=>exact .ptr id off b (hk _ _ h)
 | slice0=>exact .slice0
 | slice id off b n c c' h h0 h1 h2 h3=>exact .slice id off b n c c' (hk _ _ h) h0 (fun g=>⟨(h1 g).1,fun e=>hk _ _ ((h1 g).2 e)⟩) h2 h3
 | sliceE id off b h h0=>exact .sliceE id off b (hk _ _ h) h0
 | map0=>exact .map0
 | map id b h=>exact .map id b (hk _ _ h)
 | func fn f f' c c' hy hf hc h h' ih ih'=>exact .func fn f f' c c' hy hf hc ih ih'
 | yield id b h=>exact .yield id b (hk _ _ h)
 | nilFunc=>exact .nilFunc
 | iface t v v' h ih=>exact .iface t v v' ih
 | nilIface=>exact .nilIface
 | agg f f' hf h ih=>exact .agg f f' hf ih
 | tuple f f' hf h ih=>exact .tuple f f' hf ih
theorem ARel.mono {ι κ:Ren} (hk:RLe ι κ) {f f':Array Value} (h:ARel ι f f') : ARel κ f f':=⟨h.1,fun i v v' a b=>(h.2 i v v' a b).mono hk⟩
inductive Tr where
 | leaf
 | node (v:Option Obj) (l r:Tr)
def Tr.get:Nat→Tr→Nat→Option Obj
 | 0,_,_=>none
 | _+1,.leaf,_=>none
 | d+1,.node v l r,n=>if n=0 then v else if n % 2=0 then l.get d (n / 2) else r.get d (n / 2)
def Tr.val:Tr→Option Obj
 | .leaf=>none
 | .node v _ _=>v
def Tr.lef:Tr→Tr
 | .leaf=>.leaf
 | .node _ l _=>l
def Tr.rig:Tr→Tr
 | .leaf=>.leaf
 | .node _ _ r=>r
def Tr.set:Nat→Tr→Nat→Option Obj→Tr
 | 0,t,_,_=>t
 | d+1,t,n,x=>if n=0 then .node x t.lef t.rig else if n % 2=0 then .node t.val (t.lef.set d (n / 2) x) t.rig else .node t.val t.lef (t.rig.set d (n / 2) x)
theorem Tr.get_leaf (d n:Nat) : Tr.leaf.get d n=none:=by cases d <;> rfl
theorem Tr.get_def (d:Nat) (t:Tr) (n:Nat) : t.get (d+1) n=if n=0 then t.val else if n % 2=0 then t.lef.get d (n / 2) else t.rig.get d (n / 2):=by
 cases t with
 | leaf=>simp [Tr.get,Tr.val,Tr.lef,Tr.rig,Tr.get_leaf]
 | node v l r=>rfl
theorem Tr.get_set_same (d:Nat) : ∀ (t:Tr) (n:Nat) (x:Option Obj),n < 2 ^ d→(t.set (d+1) n x).get (d+1) n=x:=by
 induction d with
 | zero =>
  intro t n x h
  obtain rfl:n=0:=by simp at h; exact h
  rfl
 | succ d ih =>
  intro t n x h
  have hp:2 ^ (d+1)=2 * 2 ^ d:=by rw [Nat.pow_succ,Nat.mul_comm]
  rw [Tr.get_def]
  by_cases h0:n=0
  ·subst h0
   simp [Tr.set,Tr.val]
  ·simp only [Tr.set,h0,if_false]
   by_cases h1:n % 2=0
   ·simp only [h1,if_true,Tr.lef]
    exact ih _ _ _ (by omega)
   ·simp only [h1,if_false,Tr.rig]
    exact ih _ _ _ (by omega)
theorem Tr.get_set_other (d:Nat) : ∀ (t:Tr) (n m:Nat) (x:Option Obj),m ≠ n→(t.set d n x).get d m=t.get d m:=by
 induction d with
 | zero=>intro t n m x h; rfl
 | succ d ih =>
  intro t n m x h
  rw [Tr.get_def,Tr.get_def d t]
  by_cases h0:n=0
  ·subst h0
   simp [Tr.set,h,Tr.lef,Tr.rig]
  ·simp only [Tr.set,h0,if_false]
   by_cases hm:m=0
   ·subst hm
    by_cases h1:n % 2=0 <;> simp [h1,Tr.val]
   ·by_cases h1:n % 2=0
    ·simp only [h1,if_true,Tr.lef,Tr.rig,hm,if_false]
     by_cases h2:m % 2=0
     ·simp only [h2,if_true]
      exact ih _ _ _ _ (by omega)
     ·simp only [h2,if_false]
    ·simp only [h1,if_false,Tr.lef,Tr.rig,hm]
     by_cases h2:m % 2=0
     ·simp only [h2,if_true]
     ·simp only [h2,if_false]
      exact ih _ _ _ _ (by omega)
structure Touch where
 id:Nat
 at_:Option Nat
 wr:Bool
def deep:Nat:=30
def lim:Nat:=536870912
structure St where
 heap:Tr
 next:Nat
 log:List Touch
def St.look (s:St) (id:Nat) : Option Obj:=s.heap.get deep id
def St.touch (s:St) (id:Nat) (a:Option Nat) (wr:Bool) : St:={ s with log:=⟨id,a,wr⟩::s.log }
def St.put (s:St) (id:Nat) (o:Option Obj) : St:={ s with heap:=s.heap.set deep id o }
theorem St.look_put_same (s:St) (id:Nat) (o:Option Obj) (h:id < lim) : (s.put id o).look id=o:=by
 unfold St.look St.put
 exact Tr.get_set_same 29 _ _ _ h
theorem St.look_put_other (s:St) (id j:Nat) (o:Option Obj) (h:j ≠ id) : (s.put id o).look j=s.look j:=by
 unfold St.look St.put
 rw [Tr.get_set_other _ _ _ _ _ h]
def oneCell:Value→Bool
 | .agg _ | .tuple _ | .complex .f32 _ 1=>false
 | _=>true
def arun {α:Type} (P:Program) : Sem α→St→Option (α×St)
 | .pure a,s=>some (a,s)
 | .load _ a k,s =>
  match a.spot,s.look a.block with
  | none,some (.cells c _ _) =>
   match c[a.off]? with
   | some v=>arun P (k v) (s.touch a.block (some a.off) false)
   | none=>none
  | _,_=>none
 | .store _ a v k,s =>
  match oneCell v,a.spot,s.look a.block with
  | true,none,some (.cells c e (0,0)) =>
   if a.off < c.size∧a.block < lim then arun P k ((s.put a.block (some (.cells (c.setIfInBounds a.off v) e (0,0)))).touch a.block (some a.off) true) else none
  | _,_,_=>none
 | .new o k,s =>
  if 4 * s.next < lim then
   match o with
   | .cells c e (0,0)=>arun P (k (4 * s.next)) { (s.put (4 * s.next) (some (.cells c e (0,0)))).touch (4 * s.next) none true with next:=s.next+1 }
   | .map es n=>arun P (k (4 * s.next)) { (s.put (4 * s.next) (some (.map es n))).touch (4 * s.next) none true with next:=s.next+1 }
   | .mapIter m n se st=>arun P (k (4 * s.next)) { (s.put (4 * s.next) (some (.mapIter m n se st))).touch (4 * s.next) none true with next:=s.next+1 }
   | .stringIter st p=>arun P (k (4 * s.next)) { (s.put (4 * s.next) (some (.stringIter st p))).touch (4 * s.next) none true with next:=s.next+1 }
   | .loop l=>arun P (k (4 * s.next)) { (s.put (4 * s.next) (some (.loop l))).touch (4 * s.next) none true with next:=s.next+1 }
   | .deferred d=>arun P (k (4 * s.next)) { (s.put (4 * s.next) (some (.deferred d))).touch (4 * s.next) none true with next:=s.next+1 }
   | _=>none
  else none
 | .shape r k,s =>
  match gro r,s.look r with
  | false,some (.cells c e (0,0))=>arun P (k (some (e,c.size))) (s.touch r (some 0) false)
  | _,_=>none
 | .getObj r k,s =>
  match s.look r with
  | some (.map es n)=>arun P (k (.map es n)) (s.touch r none false)
  | some (.mapIter m n se st)=>arun P (k (.mapIter m n se st)) (s.touch r none false)
  | some (.stringIter st p)=>arun P (k (.stringIter st p)) (s.touch r none false)
  | some (.loop l)=>arun P (k (.loop l)) (s.touch r none false)
  | some (.deferred d)=>arun P (k (.deferred d)) (s.touch r none false)
  | _=>none
 | .setObj r o k,s =>
  match s.look r,o with
  | some (.map _ _),.map es n=>if r < lim then arun P k ((s.put r (some (.map es n))).touch r none true) else none
  | some (.mapIter _ _ _ _),.mapIter m n se st=>if r < lim then arun P k ((s.put r (some (.mapIter m n se st))).touch r none true) else none
  | some (.stringIter _ _),.stringIter st p=>if r < lim then arun P k ((s.put r (some (.stringIter st p))).touch r none true) else none
  | some (.loop _),.loop l=>if r < lim then arun P k ((s.put r (some (.loop l))).touch r none true) else none
  | some (.deferred _),.deferred d=>if r < lim then arun P k ((s.put r (some (.deferred d))).touch r none true) else none
  | _,_=>none
 | .choose q k,s=>if q.forced then arun P (k 0) s else none
 | .program k,s=>arun P (k P) s
 | .mark _ k,s=>arun P k s
 | .frozen a k,s =>
  match s.look a.block with
  | some (.cells c e (0,0))=>arun P (k false) (s.touch a.block (some 0) false)
  | _=>none
 | .freeze _ _ _,_=>none
 | .sys _ _,_=>none
 | .halt _,_=>none
def keyV:Value→Bool
 | .int _ _ | .string _=>true
 | _=>false
def ERel (ι:Ren) (es es':Array MapEntry) : Prop :=
 es.size=es'.size∧∀ (i:Nat) (e e':MapEntry),es[i]? = some e→es'[i]? = some e'→VRel ι e.key e'.key∧VRel ι e.val e'.val∧e.born=e'.born∧keyV e.key=true
def CodeOK (P:Program) (c:Code) : Prop:=∃ fn bl lb,CheckCode.code P fn bl lb c=.ok ()
structure LoopRel (P:Program) (ι:Ren) (l l':Loop) : Prop where
 state:l.state=l'.state
 pending:l.pending=l'.pending
 tmps:ARel ι l.tmps l'.tmps
 params:l.params=l'.params
 assign:l.assign=l'.assign
 body:l.body=l'.body
 defers:ι l.defers=some l'.defers
 ok1:CodeOK P l.assign
 ok2:CodeOK P l.body
def ORel (P:Program) (ι:Ren) (id:Nat) : Obj→Obj→Prop
 | .cells c e f,o'=>f=(0,0)∧∃ c',o'=.cells c' e (0,0)∧c.size≤c'.size∧(gro id=false→c.size=c'.size)∧(∀ (i:Nat) (v v':Value),c[i]? = some v→c'[i]? = some v'→VRel ι v v')∧(gro id=true→∃ n t,ι (id+1)=some n∧P.info? e=some t∧c'.size=n * t.size)
 | .map es n,o'=>∃ es',o'=.map es' n∧ERel ι es es'
 | .mapIter none n se st,o'=>o'=.mapIter none n se st
 | .mapIter (some m) n se st,o'=>∃ m',ι m=some m'∧o'=.mapIter (some m') n se st
 | .stringIter st p,o'=>o'=.stringIter st p
 | .loop l,o'=>∃ l',o'=.loop l'∧LoopRel P ι l l'
 | .deferred d,o'=>o'=.deferred d∧(d=none∨d=some [])
 | _,_=>False
def gnum:Obj→Option Nat
 | .view a _=>some a.block
 | _=>none
structure Rep (P:Program) (base:Nat→Prop) (ι:Ren) (H:Nat→Option Obj) (w:World) : Prop where
 inj:∀ id id' o o' b,H id=some o→H id'=some o'→ι id=some b→ι id'=some b→id=id'
 there:∀ id o,H id=some o→gnum o=none→∃ b o',ι id=some b∧w.heap[b]? = some o'∧ORel P ι id o o'∧¬ base b
 sz:∀ k,base k→k < w.heap.size
 gh:∀ id o g,H id=some o→gnum o=some g→id=3∧ι 3=none∧∃ F:Nat→Prop,Sig.GR g ι F w∧(∀ j,F j→j < w.heap.size∧¬ base j)∧∀ x ox b,H x=some ox→ι x=some b→¬ F b
structure Out (K:Nat→Prop) (w w':World) : Prop where
 os:w'.os=w.os
 tape:w'.tape=w.tape
 output:w'.output=w.output
 size:w.heap.size≤w'.heap.size
 block:∀ k,K k→w'.heap[k]? = w.heap[k]?
theorem Out.refl (K:Nat→Prop) (w:World) : Out K w w:=⟨rfl,rfl,rfl,Nat.le_refl _,fun _ _=>rfl⟩
theorem Out.trans {K:Nat→Prop} {a b c:World} (h:Out K a b) (k:Out K b c) : Out K a c :=
 ⟨k.os.trans h.os,k.tape.trans h.tape,k.output.trans h.output,Nat.le_trans h.size k.size,fun i hi=>(k.block i hi).trans (h.block i hi)⟩
theorem Out.mono {K K':Nat→Prop} {w w':World} (h:Out K w w') (hK:∀ k,K' k→K k) : Out K' w w':=⟨h.os,h.tape,h.output,h.size,fun k hk=>h.block k (hK k hk)⟩
theorem Out.drew {K:Nat→Prop} {a w:World} (h:Out K a w) : Out K a w.drew:=⟨h.os,h.tape,h.output,h.size,h.block⟩
theorem Out.alloc {K:Nat→Prop} {a w:World} (h:Out K a w) (hK:∀ k,K k→k < w.heap.size) (o:Obj) : Out K a (w.alloc o) :=
 h.trans ⟨rfl,rfl,rfl,by simp,fun k hk=>Below.heap_alloc _ _ _ (hK k hk)⟩
theorem Out.setCell {K:Nat→Prop} {a w:World} (h:Out K a w) {p:Addr} (hp:¬ K p.block) (u:Value) : Out K a (w.setCell p u) :=
 h.trans ⟨rfl,rfl,rfl,by simp [World.setCell],fun k hk=>Below.heap_setCell _ _ _ _ (fun e=>hp (e ▸ hk))⟩
theorem Out.below {B:Nat} {w w':World} (h:Out (· < B) w w') : Below B w w':=⟨h.os,h.tape,h.output,h.size,fun k hk=>h.block k hk⟩
theorem Below.out {B:Nat} {w w':World} (h:Below B w w') {K:Nat→Prop} (hK:∀ k,K k→k < B) : Out K w w':=⟨h.os,h.tape,h.output,h.size,fun k hk=>h.block k (hK k hk)⟩
theorem ORel.mono {P:Program} {ι κ:Ren} (hk:RLe ι κ) {id:Nat} {o o':Obj} (h:ORel P ι id o o') : ORel P κ id o o':=by
 cases o with
 | cells c e f =>
  obtain ⟨h0,c',h1,h2,h3,h4,h5⟩:=h
  exact ⟨h0,c',h1,h2,h3,fun i v v' a b=>(h4 i v v' a b).mono hk,fun g=>by obtain ⟨n,t,a,b⟩:=h5 g; exact ⟨n,t,hk _ _ a,b⟩⟩
 | map es n =>
  obtain ⟨es',h1,h2,h3⟩:=h
  exact ⟨es',h1,h2,fun i e e' a b=>⟨(h3 i e e' a b).1.mono hk,(h3 i e e' a b).2.1.mono hk,(h3 i e e' a b).2.2⟩⟩
 | mapIter m n se st =>
  cases m with
  | none=>exact h
  | some m=>obtain ⟨m',h1,h2⟩:=h; exact ⟨m',hk _ _ h1,h2⟩
 | loop l=>obtain ⟨l',h1,h2⟩:=h; exact ⟨l',h1,h2.state,h2.pending,h2.tmps.mono hk,h2.params,h2.assign,h2.body,hk _ _ h2.defers,h2.ok1,h2.ok2⟩
 | _=>exact h
theorem Rep.real {P:Program} {base:Nat→Prop} {ι:Ren} {H:Nat→Option Obj} {w:World} (hr:Rep P base ι H w) {id b:Nat} {o:Obj} (hl:H id=some o) (hb:ι id=some b) : gnum o=none:=by
 cases hg:gnum o with
 | none=>rfl
 | some g =>
  obtain ⟨rfl,h3,_⟩:=hr.gh id o g hl hg
  rw [h3] at hb
  cases hb
theorem Rep.real_of {P:Program} {ι:Ren} {id:Nat} {o o':Obj} (h:ORel P ι id o o') : gnum o=none:=by
 cases o <;> first | rfl | exact h.elim
def Sim {α β:Type} (P:Program) (base:Nat→Prop) (R:Ren→α→β→Prop) (ι:Ren) (m:Sem α) (m':Sem β) : Prop :=
 ∀ (s:St) (w:World) (a:α) (s1:St),Rep P base ι s.look w→arun P m s=some (a,s1)→(∀ id,4 * s.next≤id→id < 4 * s1.next→ι id=none) →
  ∃ (κ:Ren) (b:β) (w1:World),m'.run P w=.ok b w1∧Rep P base κ s1.look w1∧(∀ id,(id < 4 * s.next∨4 * s1.next≤id)→κ id=ι id)∧R κ a b∧Out base w w1
theorem arun_bind {α β:Type} (P:Program) (m:Sem α) (f:α→Sem β) : ∀ s:St,arun P (m.bind f) s=(arun P m s).bind fun (a,s1)=>arun P (f a) s1:=by
 induction m with
 | pure a=>intro s; rfl
 | load md a k ih =>
  intro s
  simp only [Sem.bind,arun]
  split
  ·split
   ·exact ih _ _
   ·rfl
  ·rfl
 | store md a v k ih =>
  intro s
  simp only [Sem.bind,arun]
  split
  ·split
   ·exact ih _
   ·rfl
  ·rfl
 | new o k ih =>
  intro s
  simp only [Sem.bind,arun]
  split
  ·split <;> first | exact ih _ _ | rfl
  ·rfl
 | shape r k ih =>
  intro s
  simp only [Sem.bind,arun]
  split <;> first | exact ih _ _ | rfl
 | freeze a n k ih=>intro s; rfl
 | frozen a k ih =>
  intro s
  simp only [Sem.bind,arun]
  split <;> first | exact ih _ _ | rfl
 | getObj r k ih =>
  intro s
  simp only [Sem.bind,arun]
  split <;> first | exact ih _ _ | rfl
 | setObj r o k ih =>
  intro s
  simp only [Sem.bind,arun]
  split
  ·split <;> first | exact ih _ | rfl
  ·split <;> first | exact ih _ | rfl
  ·split <;> first | exact ih _ | rfl
  ·split <;> first | exact ih _ | rfl
  ·split <;> first | exact ih _ | rfl
  ·rfl
 | choose q k ih =>
  intro s
  simp only [Sem.bind,arun]
  split <;> first | exact ih _ _ | rfl
 | sys c k ih=>intro s; rfl
 | program k ih=>intro s; exact ih _ _
 | mark m k ih=>intro s; exact ih _
 | halt h=>intro s; rfl
theorem arun_next {α:Type} (P:Program) (m:Sem α) : ∀ (s s1:St) (a:α),arun P m s=some (a,s1)→s.next≤s1.next:=by
 induction m with
 | pure a=>intro s s1 b h; simp only [arun,Option.some.injEq,Prod.mk.injEq] at h; rw [← h.2]; exact Nat.le_refl _
 | load md a k ih =>
  intro s s1 b h
  simp only [arun] at h
  split at h
  ·split at h
   ·(have hh:=ih _ _ _ _ h; exact hh)
   ·cases h
  ·cases h
 | store md a v k ih =>
  intro s s1 b h
  simp only [arun] at h
  split at h
  ·split at h
   ·(have hh:=ih _ _ _ h; exact hh)
   ·cases h
  ·cases h
 | new o k ih =>
  intro s s1 b h
  simp only [arun] at h
  split at h
  ·split at h <;> first | (have hh:=ih _ _ _ _ h; exact Nat.le_of_succ_le hh) | cases h
  ·cases h
 | shape r k ih =>
  intro s s1 b h
  simp only [arun] at h
  split at h <;> first | (have hh:=ih _ _ _ _ h; exact hh) | cases h
 | freeze a n k ih=>intro s s1 b h; cases h
 | frozen a k ih =>
  intro s s1 b h
  simp only [arun] at h
  split at h <;> first | (have hh:=ih _ _ _ _ h; exact hh) | cases h
 | getObj r k ih =>
  intro s s1 b h
  simp only [arun] at h
  split at h <;> first | (have hh:=ih _ _ _ _ h; exact hh) | cases h
 | setObj r o k ih =>
  intro s s1 b h
  simp only [arun] at h
  split at h
  ·split at h <;> first | (have hh:=ih _ _ _ h; exact hh) | cases h
  ·split at h <;> first | (have hh:=ih _ _ _ h; exact hh) | cases h
  ·split at h <;> first | (have hh:=ih _ _ _ h; exact hh) | cases h
  ·split at h <;> first | (have hh:=ih _ _ _ h; exact hh) | cases h
  ·split at h <;> first | (have hh:=ih _ _ _ h; exact hh) | cases h
  ·cases h
 | choose q k ih =>
  intro s s1 b h
  simp only [arun] at h
  split at h <;> first | (have hh:=ih _ _ _ _ h; exact hh) | cases h
 | sys c k ih=>intro s s1 b h; cases h
 | program k ih=>intro s s1 b h; (have hh:=ih _ _ _ _ h; exact hh)
 | mark m k ih=>intro s s1 b h; (have hh:=ih _ _ _ h; exact hh)
 | halt h=>intro s s1 b h; cases h
theorem Sim.bind {α β γ δ:Type} {P:Program} {base:Nat→Prop} {R:Ren→α→β→Prop} {R':Ren→γ→δ→Prop} {ι:Ren} {m:Sem α} {m':Sem β} {f:α→Sem γ} {f':β→Sem δ}
  (h:Sim P base R ι m m') (hf:∀ κ a b,RLe ι κ→R κ a b→Sim P base R' κ (f a) (f' b)) : Sim P base R' ι (m.bind f) (m'.bind f'):=by
 intro s w c s2 hr ha hfr
 rw [arun_bind] at ha
 cases hm:arun P m s with
 | none=>rw [hm] at ha; cases ha
 | some x =>
  obtain ⟨a,s1⟩:=x
  rw [hm] at ha
  have ha':arun P (f a) s1=some (c,s2):=ha
  have n1:=arun_next P m _ _ _ hm
  have n2:=arun_next P (f a) _ _ _ ha'
  obtain ⟨κ,b,w1,r1,p1,e1,q1,k1⟩:=h s w a s1 hr hm (fun id x y=>hfr id x (by omega))
  have le1:RLe ι κ:=by
   intro id b' hb
   by_cases hx:id < 4 * s.next∨4 * s1.next≤id
   ·rw [e1 id hx]; exact hb
   ·rw [hfr id (by omega) (by omega)] at hb; cases hb
  obtain ⟨μ,d,w2,r2,p2,e2,q2,k2⟩:=hf κ a b le1 q1 s1 w1 c s2 p1 ha' (fun id x y=>by rw [e1 id (by omega)]; exact hfr id (by omega) y)
  refine ⟨μ,d,w2,?_,p2,?_,q2,k1.trans k2⟩
  ·show (m' >>= f').run P w=_
   rw [Sem.run_bind,r1]; exact r2
  ·intro id hx
   rw [e2 id (by omega),e1 id (by omega)]
theorem Sim.pure {α β:Type} {P:Program} {base:Nat→Prop} {R:Ren→α→β→Prop} {ι:Ren} {a:α} {b:β} (h:R ι a b) : Sim P base R ι (.pure a) (.pure b):=by
 intro s w c s1 hr ha hfr
 simp only [arun,Option.some.injEq,Prod.mk.injEq] at ha
 obtain ⟨rfl,rfl⟩:=ha
 exact ⟨ι,b,w,rfl,hr,fun _ _=>rfl,h,Out.refl _ _⟩
theorem Sim.program {α β:Type} {P:Program} {base:Nat→Prop} {R:Ren→α→β→Prop} {ι:Ren} {k:Program→Sem α} {k':Program→Sem β} (h:Sim P base R ι (k P) (k' P)) : Sim P base R ι (.program k) (.program k') :=
 fun s w c s1 hr ha hfr=>h s w c s1 hr ha hfr
theorem Sim.halt {α β:Type} {P:Program} {base:Nat→Prop} {R:Ren→α→β→Prop} {ι:Ren} {h:Halt} {m':Sem β} : Sim P base R ι (Sem.halt h:Sem α) m':=by
 intro s w c s1 hr ha hfr
 cases ha
theorem Sim.mark {α β:Type} {P:Program} {base:Nat→Prop} {R:Ren→α→β→Prop} {ι:Ren} {m m2:Mark} {k:Sem α} {k':Sem β} (h:Sim P base R ι k k') : Sim P base R ι (.mark m k) (.mark m2 k') :=
 fun s w c s1 hr ha hfr=>h s w c s1 hr ha hfr
theorem Sim.choose {α β:Type} {P:Program} {base:Nat→Prop} {R:Ren→α→β→Prop} {ι:Ren} {q q':Question} {k:Nat→Sem α} {k':Nat→Sem β} (hq:q.forced=true→q'.forced=true) (h:Sim P base R ι (k 0) (k' 0)) : Sim P base R ι (.choose q k) (.choose q' k'):=by
 intro s w c s1 hr ha hfr
 simp only [arun] at ha
 split at ha
 ·rename_i hf
  obtain ⟨κ,b,w1,r1,rest⟩:=h s w c s1 hr ha hfr
  exact ⟨κ,b,w1,by simp only [Sem.run,hq hf,if_true]; exact r1,rest⟩
 ·cases ha
theorem run_load {β:Type} {P:Program} {w:World} {md:Mode} {a:Addr} {k:Value→Sem β} {v:Value} (h:w.cell? a=some v) : (Sem.load md a k).run P w=(k v).run P w:=by
 simp only [Sem.run,h]
theorem Sim.load {α β:Type} {P:Program} {base:Nat→Prop} {R:Ren→α→β→Prop} {ι:Ren} {md md2:Mode} {id off b:Nat} {k:Value→Sem α} {k':Value→Sem β} (hb:ι id=some b)
  (h:∀ v v',VRel ι v v'→Sim P base R ι (k v) (k' v')) : Sim P base R ι (.load md ⟨id,off,none⟩ k) (.load md2 ⟨b,off,none⟩ k'):=by
 intro s w c s1 hr ha hfr
 simp only [arun] at ha
 cases hl:s.look id with
 | none=>simp [hl] at ha
 | some o =>
  cases o with
  | cells c0 e0 f0 =>
   simp only [hl] at ha
   cases hv:c0[off]? with
   | none=>simp [hv] at ha
   | some v =>
    simp only [hv] at ha
    obtain ⟨b',o',i1,i2,i3,i4⟩:=hr.there id _ hl (hr.real hl hb)
    rw [hb] at i1
    cases i1
    obtain ⟨hf,c',rfl,j1,j2,j3,j4⟩:=i3
    have hlt:off < c0.size:=by
     rcases Nat.lt_or_ge off c0.size with g | g
     ·exact g
     ·rw [Array.getElem?_eq_none g] at hv; cases hv
    have hv':c'[off]? = some (c'[off]'(by omega)):=Array.getElem?_eq_getElem (by omega)
    have hcell:w.cell? ⟨b,off,none⟩=some (c'[off]'(by omega)):=by
     simp [World.cell?,i2,hv']
    rw [run_load hcell]
    exact h v _ (j3 off v _ hv hv') (s.touch id (some off) false) w c s1 hr ha hfr
  | _=>simp [hl] at ha
theorem heap_setCell_same {w:World} {b off:Nat} {v:Value} {c:Array Value} {e:TypeId} (h:w.heap[b]? = some (.cells c e (0,0))) : (w.setCell ⟨b,off,none⟩ v).heap[b]? = some (.cells (c.setIfInBounds off v) e (0,0)):=by
 simp [World.setCell,Array.getElem?_modify,h]
theorem Rep.look_eq {P:Program} {base:Nat→Prop} {ι:Ren} {H H':Nat→Option Obj} {w:World} (h:Rep P base ι H w) (e:∀ id,H' id=H id) : Rep P base ι H' w:=by
 have:H'=H:=funext e
 rw [this]; exact h
theorem Rep.ghk {P:Program} {base:Nat→Prop} {ι κ:Ren} {H H':Nat→Option Obj} {w w1:World} (hr:Rep P base ι H w) (h3:∀ id o g,H' id=some o→gnum o=some g→H id=some o) (hle:RLe ι κ) (hk3:κ 3=ι 3) (hsz:w.heap.size≤w1.heap.size)
  (hkeep:∀ j,(∀ x ox b,H x=some ox→ι x=some b→j ≠ b)→j < w.heap.size→w1.heap[j]? = w.heap[j]?) (hnm:∀ x ox b,H' x=some ox→κ x=some b→(∃ y oy,H y=some oy∧ι y=some b)∨w.heap.size≤b) :
  ∀ id o g,H' id=some o→gnum o=some g→id=3∧κ 3=none∧∃ F:Nat→Prop,Sig.GR g κ F w1∧(∀ j,F j→j < w1.heap.size∧¬ base j)∧∀ x ox b,H' x=some ox→κ x=some b→¬ F b:=by
 intro id o g hx hg
 obtain ⟨e,n3,F,q1,q2,q3⟩:=hr.gh id o g (h3 id o g hx hg) hg
 refine ⟨e,by rw [hk3]; exact n3,F,Sig.GR_mono _ _ _ _ _ hle (Sig.GR_keep _ _ _ _ _ (fun j hj=>?_) q1),fun j hj=>⟨Nat.lt_of_lt_of_le (q2 j hj).1 hsz,(q2 j hj).2⟩,fun x ox b h1 h2 hb=>?_⟩
 ·exact hkeep j (fun x ox b h1 h2 e=>q3 x ox b h1 h2 (e ▸ hj)) (q2 j hj).1
 ·rcases hnm x ox b h1 h2 with ⟨y,oy,g1,g2⟩ | g1
  ·exact q3 y oy b g1 g2 hb
  ·have:=(q2 b hb).1
   omega
theorem Rep.put {P:Program} {base:Nat→Prop} {ι:Ren} {s:St} {w w1:World} {id b:Nat} {o o1 o1':Obj} (hr:Rep P base ι s.look w) (hlim:id < lim) (hl:s.look id=some o) (hb:ι id=some b)
  (hw:w1.heap[b]? = some o1') (ho:ORel P ι id o1 o1') (hoth:∀ j,j ≠ b→w1.heap[j]? = w.heap[j]?) (hsz:w1.heap.size=w.heap.size) : Rep P base ι (s.put id (some o1)).look w1:=by
 refine ⟨?_,?_,fun k hk=>by have:=hr.sz k hk; omega,?_⟩
 ·intro x y ox oy bb hx hy h1 h2
  have live:∀ z oz,(s.put id (some o1)).look z=some oz→∃ oz',s.look z=some oz':=by
   intro z oz hz
   by_cases e:z=id
   ·subst e; exact ⟨o,hl⟩
   ·rw [St.look_put_other _ _ _ _ e] at hz; exact ⟨oz,hz⟩
  obtain ⟨ox',hx'⟩:=live x ox hx
  obtain ⟨oy',hy'⟩:=live y oy hy
  exact hr.inj x y ox' oy' bb hx' hy' h1 h2
 ·intro x ox hx hrl
  by_cases e:x=id
  ·subst e
   rw [St.look_put_same _ _ _ hlim] at hx
   cases hx
   obtain ⟨b9,o9,g1,g2,g3,g4⟩:=hr.there x o hl (hr.real hl hb)
   rw [hb] at g1
   cases g1
   exact ⟨b,o1',hb,hw,ho,g4⟩
  ·rw [St.look_put_other _ _ _ _ e] at hx
   obtain ⟨b2,o2,g1,g2,g3,g4⟩:=hr.there x ox hx hrl
   have hne:b2 ≠ b:=by
    intro eb
    subst eb
    exact e (hr.inj x id ox o b2 hx hl g1 hb)
   exact ⟨b2,o2,g1,by rw [hoth b2 hne]; exact g2,g3,g4⟩
 ·refine hr.ghk (fun x ox g hx hg=>?_) (RLe.refl _) rfl (by omega) (fun j hj _=>hoth j (hj id o b hl hb)) (fun x ox bb hx hbb=>?_)
  ·by_cases e:x=id
   ·subst e
    rw [St.look_put_same _ _ _ hlim] at hx
    cases hx
    rw [Rep.real_of ho] at hg
    cases hg
   ·rw [St.look_put_other _ _ _ _ e] at hx
    exact hx
  ·by_cases e:x=id
   ·subst e
    exact .inl ⟨x,o,hl,hbb⟩
   ·rw [St.look_put_other _ _ _ _ e] at hx
    exact .inl ⟨x,ox,hx,hbb⟩
theorem run_store {β:Type} {P:Program} {w:World} {md:Mode} {a:Addr} {k:Sem β} {v u:Value} (h:w.cell? a=some u) (hf:w.frozen? a=false) (h1:oneCell v=true) : (Sem.store md a v k).run P w=k.run P (w.setCell a v):=by
 cases v <;> first | (simp [oneCell] at h1; done) | simp [Sem.run,h,hf]
theorem leaf_one {v:Value} (h:leafV v=true) : oneCell v=true:=by cases v <;> first | rfl | cases h
theorem VRel.one {ι:Ren} {v v':Value} (h:VRel ι v v') (h1:oneCell v=true) : oneCell v'=true:=by
 cases h with
 | sym n m _ h=>rw [← h]; exact leaf_one (Sig.leaf n)
 | dyn id c _ h h'=>rw [← h']; exact leaf_one (dec_leaf c)
 | dyn3 id c j _ h h'=>rw [← h']; exact leaf_one (subV_leaf j (dec c))
 | junk n v' h=>cases h1
 | agg=>cases h1
 | tuple=>cases h1
 | _=>rfl
theorem Sim.store {α β:Type} {P:Program} {base:Nat→Prop} {R:Ren→α→β→Prop} {ι:Ren} {md md2:Mode} {id off b:Nat} {v v':Value} {k:Sem α} {k':Sem β} (hb:ι id=some b) (hv:VRel ι v v')
  (h:Sim P base R ι k k') : Sim P base R ι (.store md ⟨id,off,none⟩ v k) (.store md2 ⟨b,off,none⟩ v' k'):=by
 intro s w c s1 hr ha hfr
 have e0:∃ c0 t,s.look id=some (.cells c0 t (0,0))∧oneCell v=true∧off < c0.size∧id < lim∧arun P k ((s.put id (some (.cells (c0.setIfInBounds off v) t (0,0)))).touch id (some off) true)=some (c,s1):=by
  simp only [arun] at ha
  cases h1:oneCell v with
  | false=>simp [h1] at ha
  | true =>
   cases hl:s.look id with
   | none=>simp [hl] at ha
   | some o =>
    cases o with
    | cells c0 e0 f0 =>
     obtain ⟨f1,f2⟩:=f0
     simp only [h1,hl] at ha
     split at ha
     ·rename_i heq
      cases heq
      split at ha
      ·rename_i hlt
       exact ⟨_,_,rfl,rfl,hlt.1,hlt.2,ha⟩
      ·cases ha
     ·cases ha
    | _=>simp [h1,hl] at ha
 obtain ⟨c0,t,hl,h1,hlt,hlim,ha'⟩:=e0
 obtain ⟨b',o',i1,i2,i3,i4⟩:=hr.there id _ hl (hr.real hl hb)
 rw [hb] at i1
 cases i1
 obtain ⟨hf,c',rfl,j1,j2,j3,j4⟩:=i3
 have hcell:w.cell? ⟨b,off,none⟩=some (c'[off]'(by omega)):=by
  have hv':c'[off]? = some (c'[off]'(by omega)):=Array.getElem?_eq_getElem (by omega)
  simp [World.cell?,i2,hv']
 have hfz:w.frozen? ⟨b,off,none⟩=false:=by simp [World.frozen?,i2]
 rw [run_store hcell hfz (hv.one h1)]
 have hrep:Rep P base ι ((s.put id (some (.cells (c0.setIfInBounds off v) t (0,0)))).touch id (some off) true).look (w.setCell ⟨b,off,none⟩ v'):=by
  refine Rep.put (o:=.cells c0 t (0,0)) (b:=b) hr hlim hl hb (heap_setCell_same i2) ?_ ?_ ?_
  ·refine ⟨rfl,_,rfl,by simpa using j1,by simpa using j2,?_,by simpa using j4⟩
   intro i x x' hx hx'
   rw [Array.getElem?_setIfInBounds] at hx hx'
   by_cases e:off=i
   ·subst e
    simp only [if_true] at hx hx'
    rw [if_pos hlt] at hx
    rw [if_pos (by omega)] at hx'
    cases hx
    cases hx'
    exact hv
   ·simp only [e,if_false] at hx hx'
    exact j3 i x x' hx hx'
  ·intro j hj
   exact Below.heap_setCell _ _ _ _ hj
  ·simp [World.setCell]
 obtain ⟨κ,bb,w1,r1,p1,e1,q1,k1⟩:=h _ _ c s1 hrep ha' hfr
 exact ⟨κ,bb,w1,r1,p1,e1,q1,((Out.refl base w).setCell (p:=⟨b,off,none⟩) i4 v').trans k1⟩
def Ren.upd (ι:Ren) (id b:Nat) : Ren:=fun x=>if x=id then some b else ι x
theorem Ren.upd_le {ι:Ren} {id b:Nat} (h:ι id=none) : RLe ι (ι.upd id b):=by
 intro x y hx
 unfold Ren.upd
 by_cases e:x=id
 ·subst e; rw [h] at hx; cases hx
 ·rw [if_neg e]; exact hx
theorem ORel.even {P:Program} {ι:Ren} {id:Nat} (h:gro id=false) {o o':Obj} (ho:ORel P ι 0 o o') : ORel P ι id o o':=by
 cases o with
 | cells c e f =>
  obtain ⟨h0,c',h1,h2,h3,h4,_⟩:=ho
  exact ⟨h0,c',h1,h2,fun _=>h3 (by decide),h4,fun g=>by rw [h] at g; cases g⟩
 | map es n=>exact ho
 | mapIter m n se st=>cases m <;> exact ho
 | _=>exact ho
theorem Rep.new {P:Program} {base:Nat→Prop} {ι:Ren} {s:St} {w:World} {id:Nat} {o o':Obj} (hr:Rep P base ι s.look w) (hlim:id < lim) (hi3:id % 4 ≠ 3) (hn:ι id=none) (ho:ORel P ι id o o') :
  Rep P base (ι.upd id w.heap.size) (s.put id (some o)).look { w with heap:=w.heap.push o' }:=by
 have hle:=Ren.upd_le (b:=w.heap.size) hn
 have hnot:s.look id=none:=by
  cases hl:s.look id with
  | none=>rfl
  | some x =>
   cases hg:gnum x with
   | none =>
    obtain ⟨b,o2,g1,_⟩:=hr.there id x hl hg
    rw [hn] at g1; cases g1
   | some g =>
    obtain ⟨e,_⟩:=hr.gh id x g hl hg
    omega
 have hlt:∀ x ox b,s.look x=some ox→ι x=some b→b < w.heap.size:=by
  intro x ox b hx hb
  obtain ⟨b2,o2,g1,g2,_⟩:=hr.there x ox hx (hr.real hx hb)
  rw [hb] at g1
  cases g1
  rcases Nat.lt_or_ge b w.heap.size with g | g
  ·exact g
  ·rw [Array.getElem?_eq_none g] at g2; cases g2
 have hother:∀ x b,x ≠ id→(ι.upd id w.heap.size) x=some b→ι x=some b:=by
  intro x b e hx
  unfold Ren.upd at hx
  rw [if_neg e] at hx
  exact hx
 have hbase:=hr.sz
 refine ⟨?_,?_,fun k hk=>by have:=hr.sz k hk; simp; omega,?_⟩
 ·intro x y ox oy bb hx hy h1 h2
  by_cases ex:x=id
  ·by_cases ey:y=id
   ·rw [ex,ey]
   ·have hy':=hother y bb ey h2
    rw [St.look_put_other _ _ _ _ ey] at hy
    have:=hlt y oy bb hy hy'
    subst ex
    simp only [Ren.upd,if_true,Option.some.injEq] at h1
    omega
  ·by_cases ey:y=id
   ·have hx':=hother x bb ex h1
    rw [St.look_put_other _ _ _ _ ex] at hx
    have:=hlt x ox bb hx hx'
    subst ey
    simp only [Ren.upd,if_true,Option.some.injEq] at h2
    omega
   ·rw [St.look_put_other _ _ _ _ ex] at hx
    rw [St.look_put_other _ _ _ _ ey] at hy
    exact hr.inj x y ox oy bb hx hy (hother x bb ex h1) (hother y bb ey h2)
 ·intro x ox hx hrl
  by_cases ex:x=id
  ·subst ex
   rw [St.look_put_same _ _ _ hlim] at hx
   cases hx
   exact ⟨w.heap.size,o',by simp [Ren.upd],by simp,ho.mono hle,fun hk=>Nat.lt_irrefl _ (hbase _ hk)⟩
  ·rw [St.look_put_other _ _ _ _ ex] at hx
   obtain ⟨b,o2,g1,g2,g3,g4⟩:=hr.there x ox hx hrl
   have:=hlt x ox b hx g1
   exact ⟨b,o2,hle _ _ g1,by simp only [Array.getElem?_push]; rw [if_neg (by omega)]; exact g2,g3.mono hle,g4⟩
 ·refine hr.ghk (fun x ox g hx hg=>?_) hle (by unfold Ren.upd; rw [if_neg (by omega)]) (by simp) (fun j _ hj=>?_) (fun x ox bb hx hbb=>?_)
  ·by_cases e:x=id
   ·subst e
    rw [St.look_put_same _ _ _ hlim] at hx
    cases hx
    rw [Rep.real_of ho] at hg
    cases hg
   ·rw [St.look_put_other _ _ _ _ e] at hx
    exact hx
  ·simp only [Array.getElem?_push]
   rw [if_neg (by omega)]
  ·by_cases e:x=id
   ·subst e
    simp only [Ren.upd,if_true,Option.some.injEq] at hbb
    exact .inr (by omega)
   ·rw [St.look_put_other _ _ _ _ e] at hx
    exact .inl ⟨x,ox,hx,hother x bb e hbb⟩
theorem even_gro (n:Nat) : gro (4 * n)=false:=by
 simp [gro]
theorem Sim.new {α β:Type} {P:Program} {base:Nat→Prop} {R:Ren→α→β→Prop} {ι:Ren} {o o':Obj} {k:Nat→Sem α} {k':Nat→Sem β} (ho:ORel P ι 0 o o')
  (h:∀ κ id b,RLe ι κ→κ id=some b→gro id=false→Sim P base R κ (k id) (k' b)) : Sim P base R ι (.new o k) (.new o' k'):=by
 intro s w c s1 hr ha hfr
 have e0:4 * s.next < lim∧arun P (k (4 * s.next)) { (s.put (4 * s.next) (some o)).touch (4 * s.next) none true with next:=s.next+1 }=some (c,s1):=by
  simp only [arun] at ha
  split at ha
  ·rename_i hlt
   refine ⟨hlt,?_⟩
   cases o with
   | cells c0 e0 f0 =>
    obtain ⟨hf,_⟩:=ho
    subst hf
    exact ha
   | map es n=>exact ha
   | mapIter m n se st=>exact ha
   | stringIter st p=>exact ha
   | loop l=>exact ha
   | deferred d=>exact ha
   | _=>exact ho.elim
  ·cases ha
 obtain ⟨hlim,ha'⟩:=e0
 have n1:=arun_next P _ _ _ _ ha'
 have n2:s.next+1≤s1.next:=n1
 have hn:ι (4 * s.next)=none:=hfr _ (Nat.le_refl _) (by omega)
 have hrep:=Rep.new hr hlim (by omega) hn (ho.even (even_gro _))
 have hrep':Rep P base (ι.upd (4 * s.next) w.heap.size) ({ (s.put (4 * s.next) (some o)).touch (4 * s.next) none true with next:=s.next+1 } : St).look { w with heap:=w.heap.push o' }:=hrep
 obtain ⟨κ,bb,w1,r1,p1,e1,q1,k1⟩:=h (ι.upd (4 * s.next) w.heap.size) (4 * s.next) w.heap.size (Ren.upd_le hn) (by simp [Ren.upd]) (even_gro _) _ _ c s1 hrep' ha' (by
  intro id h1 h2
  have h1':4 * (s.next+1)≤id:=h1
  unfold Ren.upd
  rw [if_neg (by omega)]
  exact hfr id (by omega) h2)
 refine ⟨κ,bb,w1,r1,p1,?_,q1,?_⟩
 ·intro id hx
  rw [e1 id (by show id < 4 * (s.next+1)∨4 * s1.next≤id; omega)]
  unfold Ren.upd
  rw [if_neg (by omega)]
 ·exact ((Out.refl base w).alloc hr.sz o').trans k1
theorem Sim.getObj {α β:Type} {P:Program} {base:Nat→Prop} {R:Ren→α→β→Prop} {ι:Ren} {id b:Nat} {k:Obj→Sem α} {k':Obj→Sem β} (hb:ι id=some b)
  (h:∀ o o',ORel P ι id o o'→(∀ c e f,o ≠ .cells c e f)→Sim P base R ι (k o) (k' o')) : Sim P base R ι (.getObj id k) (.getObj b k'):=by
 intro s w c s1 hr ha hfr
 have e0:∃ o,s.look id=some o∧(∀ c e f,o ≠ .cells c e f)∧arun P (k o) (s.touch id none false)=some (c,s1):=by
  simp only [arun] at ha
  split at ha
  ·rename_i hl
   exact ⟨_,hl,(fun _ _ _ e=>by cases e),ha⟩
  ·rename_i hl
   exact ⟨_,hl,(fun _ _ _ e=>by cases e),ha⟩
  ·rename_i hl
   exact ⟨_,hl,(fun _ _ _ e=>by cases e),ha⟩
  ·rename_i hl
   exact ⟨_,hl,(fun _ _ _ e=>by cases e),ha⟩
  ·rename_i hl
   exact ⟨_,hl,(fun _ _ _ e=>by cases e),ha⟩
  ·cases ha
 obtain ⟨o,hl,hne,ha'⟩:=e0
 obtain ⟨b',o',i1,i2,i3,i4⟩:=hr.there id _ hl (hr.real hl hb)
 rw [hb] at i1
 cases i1
 have hne':∀ c e f,o' ≠ .cells c e f:=by
  intro c e f e'
  subst e'
  cases o with
  | cells c0 e0 f0=>exact hne _ _ _ rfl
  | map es n=>obtain ⟨es',h1,_⟩:=i3; cases h1
  | mapIter m n se st=>cases m with
   | none=>cases i3
   | some m=>obtain ⟨m',_,h1⟩:=i3; cases h1
  | stringIter st p=>cases i3
  | loop l=>obtain ⟨l',h1,_⟩:=i3; cases h1
  | deferred d=>cases i3.1
  | _=>exact i3
 have hrun:(Sem.getObj b k').run P w=(k' o').run P w:=by
  simp only [Sem.run,i2]
 rw [hrun]
 exact h o o' i3 hne (s.touch id none false) w c s1 hr ha' hfr
theorem Sim.setObj {α β:Type} {P:Program} {base:Nat→Prop} {R:Ren→α→β→Prop} {ι:Ren} {id b:Nat} {o o':Obj} {k:Sem α} {k':Sem β} (hb:ι id=some b) (ho:ORel P ι id o o') (hc:∀ c e f,o ≠ .cells c e f)
  (h:Sim P base R ι k k') : Sim P base R ι (.setObj id o k) (.setObj b o' k'):=by
 intro s w c s1 hr ha hfr
 have e0:∃ o0,s.look id=some o0∧(∀ c e f,o0 ≠ .cells c e f)∧id < lim∧arun P k ((s.put id (some o)).touch id none true)=some (c,s1):=by
  simp only [arun] at ha
  split at ha
  ·rename_i hl
   split at ha
   ·rename_i hlt
    exact ⟨_,hl,(fun _ _ _ e=>by cases e),hlt,ha⟩
   ·cases ha
  ·rename_i hl
   split at ha
   ·rename_i hlt
    exact ⟨_,hl,(fun _ _ _ e=>by cases e),hlt,ha⟩
   ·cases ha
  ·rename_i hl
   split at ha
   ·rename_i hlt
    exact ⟨_,hl,(fun _ _ _ e=>by cases e),hlt,ha⟩
   ·cases ha
  ·rename_i hl
   split at ha
   ·rename_i hlt
    exact ⟨_,hl,(fun _ _ _ e=>by cases e),hlt,ha⟩
   ·cases ha
  ·rename_i hl
   split at ha
   ·rename_i hlt
    exact ⟨_,hl,(fun _ _ _ e=>by cases e),hlt,ha⟩
   ·cases ha
  ·cases ha
 obtain ⟨o0,hl,hne,hlim,ha'⟩:=e0
 obtain ⟨b',o2,i1,i2,i3,i4⟩:=hr.there id _ hl (hr.real hl hb)
 rw [hb] at i1
 cases i1
 have hne':∀ c e f,o2 ≠ .cells c e f:=by
  intro c e f e'
  subst e'
  cases o0 with
  | cells c0 e0 f0=>exact hne _ _ _ rfl
  | map es n=>obtain ⟨es',h1,_⟩:=i3; cases h1
  | mapIter m n se st=>cases m with
   | none=>cases i3
   | some m=>obtain ⟨m',_,h1⟩:=i3; cases h1
  | stringIter st p=>cases i3
  | loop l=>obtain ⟨l',h1,_⟩:=i3; cases h1
  | deferred d=>cases i3.1
  | _=>exact i3
 have hrun:(Sem.setObj b o' k').run P w=k'.run P { w with heap:=w.heap.setIfInBounds b o' }:=by
  simp only [Sem.run,i2]
 rw [hrun]
 have hrep:Rep P base ι ((s.put id (some o)).touch id none true).look { w with heap:=w.heap.setIfInBounds b o' }:=by
  refine Rep.put (o:=o0) (b:=b) hr hlim hl hb ?_ ho ?_ ?_
  ·have hlt:b < w.heap.size:=by
    rcases Nat.lt_or_ge b w.heap.size with g | g
    ·exact g
    ·rw [Array.getElem?_eq_none g] at i2; cases i2
   simp [Array.getElem?_setIfInBounds,hlt]
  ·intro j hj
   simp only [Array.getElem?_setIfInBounds]
   rw [if_neg (fun e=>hj e.symm)]
  ·simp
 obtain ⟨κ,bb,w1,r1,p1,e1,q1,k1⟩:=h _ _ c s1 hrep ha' hfr
 have hbl:Out base w { w with heap:=w.heap.setIfInBounds b o' }:=by
  refine ⟨rfl,rfl,rfl,by simp,?_⟩
  intro j hj
  simp only [Array.getElem?_setIfInBounds]
  rw [if_neg (fun e=>by subst e; exact i4 hj)]
 exact ⟨κ,bb,w1,r1,p1,e1,q1,hbl.trans k1⟩
theorem Sim.shape {α β:Type} {P:Program} {base:Nat→Prop} {R:Ren→α→β→Prop} {ι:Ren} {id b:Nat} {k:Option (TypeId×Nat)→Sem α} {k':Option (TypeId×Nat)→Sem β} (hb:ι id=some b)
  (h:∀ x,Sim P base R ι (k x) (k' x)) : Sim P base R ι (.shape id k) (.shape b k'):=by
 intro s w c s1 hr ha hfr
 have e0:∃ c0 t,s.look id=some (.cells c0 t (0,0))∧gro id=false∧arun P (k (some (t,c0.size))) (s.touch id (some 0) false)=some (c,s1):=by
  simp only [arun] at ha
  split at ha
  ·rename_i hg hl
   exact ⟨_,_,hl,hg,ha⟩
  ·cases ha
 obtain ⟨c0,t,hl,hg,ha'⟩:=e0
 obtain ⟨b',o',i1,i2,i3,i4⟩:=hr.there id _ hl (hr.real hl hb)
 rw [hb] at i1
 cases i1
 obtain ⟨hf,c',rfl,j1,j2,j3,j4⟩:=i3
 have hrun:(Sem.shape b k').run P w=(k' (some (t,c0.size))).run P w:=by
  simp only [Sem.run,World.shape?,i2,j2 hg]
 rw [hrun]
 exact h _ (s.touch id (some 0) false) w c s1 hr ha' hfr
theorem Sim.frozen {α β:Type} {P:Program} {base:Nat→Prop} {R:Ren→α→β→Prop} {ι:Ren} {id off b off':Nat} {sp sp':Option Nat} {k:Bool→Sem α} {k':Bool→Sem β} (hb:ι id=some b)
  (h:Sim P base R ι (k false) (k' false)) : Sim P base R ι (.frozen ⟨id,off,sp⟩ k) (.frozen ⟨b,off',sp'⟩ k'):=by
 intro s w c s1 hr ha hfr
 have e0:∃ c0 t,s.look id=some (.cells c0 t (0,0))∧arun P (k false) (s.touch id (some 0) false)=some (c,s1):=by
  simp only [arun] at ha
  split at ha
  ·rename_i hl
   exact ⟨_,_,hl,ha⟩
  ·cases ha
 obtain ⟨c0,t,hl,ha'⟩:=e0
 obtain ⟨b',o',i1,i2,i3,i4⟩:=hr.there id _ hl (hr.real hl hb)
 rw [hb] at i1
 cases i1
 obtain ⟨hf,c',rfl,j1,j2,j3,j4⟩:=i3
 have hrun:(Sem.frozen ⟨b,off',sp'⟩ k').run P w=(k' false).run P w:=by
  simp [Sem.run,World.frozen?,i2]
 rw [hrun]
 exact h (s.touch id (some 0) false) w c s1 hr ha' hfr
end Go.Ev
