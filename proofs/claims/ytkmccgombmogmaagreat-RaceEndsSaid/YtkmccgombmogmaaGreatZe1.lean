/- Part of a proof: see the last text. -/
import Derived.Test.YtkmccgombmogmaaGreatZe0
set_option linter.unusedSectionVars false
set_option linter.unusedSimpArgs false
set_option linter.unusedVariables false
namespace Go.Ev
open Go.RowKit
variable[bg]
def bW:Nat->Value->Bool
 | _,.bool _ | _,.int _ _ | _,.float _ _ | _,.string _ | _,.pointer none | _,.slice none 0 0 | _,.map none | _,.nilFunc | _,.nilIface=>true
 | n+1,.iface _ v=>bW n v
 | n+1,.agg vs=>vs.toList.all (bW n)
 | n+1,.tuple vs=>vs.toList.all (bW n)
 | n+1,.func (.func _) f c=>f.isEmpty&&c.isEmpty
 | _,_=>false
theorem iG(ι:am):∀ (n:Nat) (v:Value),bW n v=true->ao ι v v:=by
 intro n
 induction n with
 | zero =>
  intro v h;cases v with
  | bool b=>exact .bool b
  | int k n=>exact .int k n
  | float k b=>exact .float k b
  | string s=>exact .string s
  | complex k a b=>simp[bW]at h
  | pointer a=>cases a with | none=>exact .oX | some a=>simp[bW]at h
  | slice a n c =>
   cases a with
   | none =>
    match n,c with
    | 0,0=>exact .dn
    | 0,c+1=>simp[bW]at h
    | n+1,c=>simp[bW]at h
   | some a=>simp[bW]at h
  | map r=>cases r with | none=>exact .mX | some r=>simp[bW]at h
  | nilFunc=>exact .nilFunc
  | nilIface=>exact .nilIface
  | _=>simp[bW]at h
 | succ n ih =>
  intro v h;cases v with
  | bool b=>exact .bool b
  | int k n=>exact .int k n
  | float k b=>exact .float k b
  | string s=>exact .string s
  | complex k a b=>simp[bW]at h
  | pointer a=>cases a with | none=>exact .oX | some a=>simp[bW]at h
  | slice a n c =>
   cases a with
   | none =>
    match n,c with
    | 0,0=>exact .dn
    | 0,c+1=>simp[bW]at h
    | n+1,c=>simp[bW]at h
   | some a=>simp[bW]at h
  | map r=>cases r with | none=>exact .mX | some r=>simp[bW]at h
  | nilFunc=>exact .nilFunc
  | nilIface=>exact .nilIface
  | iface t v=>exact .iface t v v (ih v h)
  | agg vs =>
   refine .agg vs vs rfl (λi v v' h1 h2=>?_);rw[h1]at h2;cases h2;simp only[bW,List.all_eq_true]at h;exact ih v (h v (by rw[Array.mem_toList_iff];exact Array.mem_of_getElem? h1))
  | tuple vs =>
   refine .tuple vs vs rfl (λi v v' h1 h2=>?_);rw[h1]at h2;cases h2;simp only[bW,List.all_eq_true]at h;exact ih v (h v (by rw[Array.mem_toList_iff];exact Array.mem_of_getElem? h1))
  | func fn f c =>
   cases fn with
   | func g =>
    simp only[bW,Bool.and_eq_true,Array.isEmpty_iff]at h;obtain⟨rfl,rfl⟩:=h;exact .func _ _ _ _ _ (by intro l e;cases e) rfl rfl (by intro i v v' h;simp at h) (by intro i v v' h;simp at h)
   | _=>simp[bW]at h
  | chan r=>simp[bW]at h
theorem DS{f f':Array Value}(hf:f.size=f'.size)(h:∀ (i:Nat) (v v':Value),f[i]? = some v->f'[i]? = some v'->v=v'):f=f':=by
 apply Array.ext hf;intro i h1 h2;exact h i _ _ (Array.getElem?_eq_getElem h1) (Array.getElem?_eq_getElem h2)
theorem H4{ι:am} : ∀ (n:Nat) (v v':Value),bW n v=true->ao ι v v'->v'=v:=by
 intro n
 induction n with
 | zero =>
  intro v v' h r;cases r<;>first | rfl | simp[bW]at h
 | succ n ih =>
  intro v v' h r;cases r with
  | iface t v v' r=>rw[ih v v' h r]
  | agg f f' hf hr =>
   simp only[bW,List.all_eq_true]at h;rw[DS hf.symm (λi a b h1 h2=>ih b a (h b (by rw[Array.mem_toList_iff];exact Array.mem_of_getElem? h2)) (hr i b a h2 h1))]
  | tuple f f' hf hr =>
   simp only[bW,List.all_eq_true]at h;rw[DS hf.symm (λi a b h1 h2=>ih b a (h b (by rw[Array.mem_toList_iff];exact Array.mem_of_getElem? h2)) (hr i b a h2 h1))]
  | func fn f f' c c' hy hf hc h1 h2 =>
   cases fn with
   | func g =>
    simp only[bW,Bool.and_eq_true,Array.isEmpty_iff]at h;obtain⟨rfl,rfl⟩:=h;have e1:f' = #[]:=Array.eq_empty_of_size_eq_zero hf.symm;have e2:c' = #[]:=Array.eq_empty_of_size_eq_zero hc.symm;rw[e1,e2]
   | _=>simp[bW]at h
  | _=>first | rfl | simp[bW]at h
def iT{α:Type}(P:Program):Sem α->Option α
 | .pure a=>some a
 | .choose q k=>if q.forced then iT P (k 0) else none
 | .program k=>iT P (k P)
 | .mark _ k=>iT P k
 | _=>none
theorem DT{α:Type}{P:Program}(m:Sem α):∀ a,iT P m=some a->∀ w,m.run P w=.ok a w:=by
 induction m with
 | pure a=>intro b h w;cases h;rfl
 | choose q k ih =>
  intro b h w;simp only[iT]at h
  split at h
  ·rename_i hf
   simp only[Sem.run,hf,if_true];exact ih 0 b h w
  ·cases h
 | program k ih=>intro b h w;exact ih P b h w
 | mark m k ih=>intro b h w;exact ih b h w
 | _=>intro b h w;cases h
def H5(P:Program)(ι:am):Next->Next->Prop
 | .value v,.value v'=>ao ι v v'
 | .skip,.skip=>True
 | .enter f args,.enter f' args'=>f=f'/\bN ι args args'
 | .round l _ tmps assign body,.round l' _ mH assign' body'=>ι l=some l'/\bN ι tmps mH/\assign=assign'/\body=body'/\bL P assign/\bL P body
 | _,_=>False
inductive mD(ι:am):List Deferred->List Deferred->Prop
 | nil:mD ι [] []
 | cons (r r':Nat) (l l':List Deferred) (h:ι r=some r') (t:mD ι l l'):mD ι ({ target:=.collected r,args:=#[] }::l) ({ target:=.collected r',args:=#[] }::l')
theorem mD.mono{ι κ:am}(hk:jf ι κ){l l':List Deferred}(h:mD ι l l'):mD κ l l':=by
 induction h with
 | nil=>exact .nil
 | cons r r' l l' h t ih=>exact .cons r r' l l' (hk _ _ h) ih
theorem mD.append{ι:am}{l l' m m':List Deferred}(h:mD ι l l')(k:mD ι m m'):mD ι (l++m) (l'++m'):=by
 induction h with
 | nil=>exact k
 | cons r r' l l' h t ih=>exact .cons r r' _ _ h ih
structure cn(ι:am)(a A:Act):Prop where
 tmps:bN ι a.tmps A.tmps
 H6:mD ι a.defers A.defers
theorem eV(ι:am):ao ι undef undef:=.tuple _ _ rfl (by intro i v v' h;simp at h)
def bH:Operand->Bool
 | .tmp _=>true
 | .const v=>bW 5 v
 | .global _=>false
 | .func _=>true
theorem aD{ι:am}{a A:Act}(h:cn ι a A)(x:Operand)(hx:bH x=true):ao ι (a.eval x) (A.eval x):=by
 cases x with
 | tmp t =>
  show ao ι (a.tmps.getD t undef) (A.tmps.getD t undef)
  by_cases hlt:t<a.tmps.size
  ·have h2:t<A.tmps.size:=by rw[← h.tmps.1];exact hlt
   rw[Array.getD_eq_getD_getElem?,Array.getD_eq_getD_getElem?,Array.getElem?_eq_getElem hlt,Array.getElem?_eq_getElem h2];exact h.tmps.2 t _ _ (Array.getElem?_eq_getElem hlt) (Array.getElem?_eq_getElem h2)
  ·have h2:¬ t<A.tmps.size:=by rw[← h.tmps.1];exact hlt
   rw[Array.getD_eq_getD_getElem?,Array.getD_eq_getD_getElem?,Array.getElem?_eq_none (Nat.le_of_not_lt hlt),Array.getElem?_eq_none (Nat.le_of_not_lt h2)];exact eV ι
 | const v=>exact iG ι 5 v hx
 | global g=>cases hx
 | func f=>exact .func _ _ _ _ _ (by intro l e;cases e) rfl rfl (by intro i v v' h;simp at h) (by intro i v v' h;simp at h)
theorem aq.bnd{α β γ δ:Type}{P:Program}{base:Nat->Prop}{R:am->α->β->Prop}{R':am->γ->δ->Prop}{ι:am}{m:Sem α}{m':Sem β}{f:α->Sem γ}{f':β->Sem δ}
  (h:aq P base R ι m m') (hf:∀ κ a b,jf ι κ->R κ a b->aq P base R' κ (f a) (f' b)):aq P base R' ι (m >>= f) (m' >>= f'):=aq.bind h hf
theorem aq.ret{α β:Type}{P:Program}{base:Nat->Prop}{R:am->α->β->Prop}{ι:am}{a:α}{b:β}(h:R ι a b):aq P base R ι (Pure.pure a) (Pure.pure b):=aq.pure h
theorem aq.stuck{α β:Type}{P:Program}{base:Nat->Prop}{R:am->α->β->Prop}{ι:am}{s:String}{m':Sem β} : aq P base R ι (Go.stuck s:Sem α) m':=aq.halt
theorem aq.mono{α β:Type}{P:Program}{base:Nat->Prop}{R R':am->α->β->Prop}{ι:am}{m:Sem α}{m':Sem β}(h:aq P base R ι m m')(hr:∀ κ a b,R κ a b->R' κ a b):aq P base R' ι m m':=by
 intro s w a s1 x y z;obtain⟨κ,b,w1,r1,p1,e1,q1,k1⟩:=h s w a s1 x y z;exact⟨κ,b,w1,r1,p1,e1,hr _ _ _ q1,k1⟩
theorem aM{P:Program}{base:Nat->Prop}{ι:am}(t:TypeId):aq P base (λ_ d d'=>d'=d/\P.underlying t=some d) ι (Go.underlying t) (Go.underlying t):=by
 unfold Go.underlying;refine aq.program ?_;show aq P base _ ι (match P.underlying t with | some d=>Pure.pure d | none=>Go.stuck "no such type") (match P.underlying t with | some d=>Pure.pure d | none=>Go.stuck "no such type");cases h:P.underlying t with
 | none=>exact aq.halt
 | some d=>exact aq.ret ⟨rfl,rfl⟩
theorem ef{P:Program}{base:Nat->Prop}{ι:am}(t:TypeId):aq P base (λ_ d d'=>d'=d/\P.info? t=some d) ι (Go.typeInfo t) (Go.typeInfo t):=by
 unfold Go.typeInfo;refine aq.program ?_;show aq P base _ ι (match P.info? t with | some d=>Pure.pure d | none=>Go.stuck "no such type") (match P.info? t with | some d=>Pure.pure d | none=>Go.stuck "no such type");cases h:P.info? t with
 | none=>exact aq.halt
 | some d=>exact aq.ret ⟨rfl,rfl⟩
theorem cX{P:Program}{base:Nat->Prop}{ι:am}(t:TypeId):aq P base (λ_ d d'=>d'=d) ι (Go.sizeOf t) (Go.sizeOf t):=by
 unfold Go.sizeOf;exact aq.bnd (ef t) (λκ a b _ h=>aq.ret (by rw[h.1]))
theorem tD{P:Program}{base:Nat->Prop}{ι:am}(t:TypeId):aq P base (λ_ d d'=>d'=d) ι (Go.isAgg t) (Go.isAgg t):=by
 unfold Go.isAgg;refine aq.bnd (aM t) (λκ a b _ h=>?_);rw[h.1]
 split<;>exact aq.ret rfl
def sx(P:Program)(t:TypeId):Bool :=
 match P.info? t with
 | some i=>(match i.zero with | some v=>bW 6 v | none=>true)
 | none=>true
theorem jz{P:Program}{base:Nat->Prop}{ι:am}(t:TypeId)(hz:sx P t=true):aq P base (λκ d d'=>d'=d/\ao κ d d) ι (Go.zeroValue t) (Go.zeroValue t):=by
 unfold Go.zeroValue;refine aq.bnd (ef t) (λκ a b _ h=>?_);obtain⟨rfl,h2⟩:=h;unfold sx at hz;cases hv:b.zero with
 | none=>exact aq.halt
 | some v =>
  simp only[h2,hv]at hz;exact aq.ret ⟨rfl,iG _ 6 v hz⟩
theorem Addr.fL(b off n:Nat):(⟨b,off,none⟩:Addr).add n=⟨b,off+n,none⟩:=by
 unfold Addr.add
 split
 ·subst_vars;rfl
 ·rfl
theorem wH{P:Program}{base:Nat->Prop}{ι:am}{id off b:Nat}(hb:ι id=some b):aq P base (λκ v v'=>ao κ v v') ι (Go.load ⟨id,off,none⟩) (Go.load ⟨b,off,none⟩) :=
 aq.load hb (λv v' h=>aq.pure h)
theorem bN.push{ι:am}{f f':Array Value}{v v':Value}(h:bN ι f f')(hv:ao ι v v'):bN ι (f.push v) (f'.push v'):=by
 refine⟨by simp[h.1],λi x x' h1 h2=>?_⟩;rw[Array.getElem?_push]at h1 h2;rw[h.1]at h1
 by_cases e:i=f'.size
 ·rw[if_pos e]at h1 h2;cases h1;cases h2;exact hv
 ·rw[if_neg e]at h1 h2;exact h.2 i x x' h1 h2
theorem bN.empty(ι:am):bN ι #[] #[]:=⟨rfl,λi v v' h=>by simp at h⟩
theorem fM{P:Program}{base:Nat->Prop}{id off b:Nat} : ∀ (n i:Nat) (ι:am) (acc acc':Array Value),ι id=some b->bN ι acc acc'->
  aq P base (λκ v v'=>bN κ v v') ι (Go.loadCellsFrom ⟨id,off,none⟩ i n acc) (Go.loadCellsFrom ⟨b,off,none⟩ i n acc'):=by
 intro n
 induction n with
 | zero=>intro i ι acc acc' hb ha;exact aq.ret ha
 | succ n ih =>
  intro i ι acc acc' hb ha;simp only[Go.loadCellsFrom,Addr.fL];exact aq.bnd (wH hb) (λκ v v' hle hv=>ih (i+1) κ _ _ (hle _ _ hb) ((ha.mono hle).push hv))
theorem pK{P:Program}{base:Nat->Prop}{ι:am}{id off b:Nat}(t:TypeId)(hb:ι id=some b):aq P base (λκ v v'=>ao κ v v') ι (Go.loadVar t ⟨id,off,none⟩) (Go.loadVar t ⟨b,off,none⟩):=by
 unfold Go.loadVar;refine aq.bnd (tD t) (λκ x y hle hx=>?_);rw[hx]
 split
 ·refine aq.bnd (cX t) (λκ2 n n' hle2 hn=>?_)
  rw[hn];exact aq.bnd (fM n 0 κ2 #[] #[] (hle2 _ _ (hle _ _ hb)) (bN.empty κ2)) (λκ3 v v' _ hv=>aq.ret (.agg v v' hv.1 hv.2))
 ·exact wH (hle _ _ hb)
def dL(ι:am)(l l':List Value):Prop:=l.length=l'.length/\∀ (i:Nat) (v v':Value),l[i]? = some v->l'[i]? = some v'->ao ι v v'
theorem dL.mono{ι κ:am}(hk:jf ι κ){f f':List Value}(h:dL ι f f'):dL κ f f':=⟨h.1,λi v v' a b=>(h.2 i v v' a b).mono hk⟩
theorem bN.list{ι:am}{f f':Array Value}(h:bN ι f f'):dL ι f.toList f'.toList:=⟨by simpa using h.1,λi v v' h1 h2=>h.2 i v v' (by simpa using h1) (by simpa using h2)⟩
theorem iU{P:Program}{base:Nat->Prop}{id off b:Nat} : ∀ (l l':List Value) (i:Nat) (ι:am),ι id=some b->dL ι l l'->
  aq P base (λκ _ _=>True) ι (Go.storeCells ⟨id,off,none⟩ l i) (Go.storeCells ⟨b,off,none⟩ l' i):=by
 intro l
 induction l with
 | nil =>
  intro l' i ι hb h;have:l'=[]:=List.eq_nil_of_length_eq_zero h.1.symm;subst this;exact aq.ret trivial
 | cons v l ih =>
  intro l' i ι hb h;cases l' with
  | nil=>simp[dL]at h
  | cons v' l' =>
   simp only[Go.storeCells,Addr.fL];refine aq.bnd (R:=λ_ _ _=>True) (aq.store hb (h.2 0 v v' rfl rfl) (aq.pure trivial)) (λκ _ _ hle _=>?_);exact ih l' (i+1) κ (hle _ _ hb) ⟨by simpa using h.1,λj x x' h1 h2=>(h.2 (j+1) x x' h1 h2).mono hle⟩
theorem fZ{ι:am}{v v':Value}(h:ao ι v v'):bN ι v.cells v'.cells:=by
 have one:∀ {x x':Value},ao ι x x'->bN ι #[x] #[x']:=by
  intro x x' hx;refine⟨rfl,λi y y' h1 h2=>?_⟩
  match i with
  | 0=>simp at h1 h2;subst h1;subst h2;exact hx
  | i+1=>simp at h1
 cases h with
 | agg f f' hf hr=>exact⟨hf,hr⟩
 | bool b=>exact one (.bool b)
 | int k n=>exact one (.int k n)
 | float k n=>exact one (.float k n)
 | sym n m _ h =>
  have hl:=bg.leaf n;rw[h]at hl;have hc:v'.cells = #[v']:=by cases v'<;>first | rfl | cases hl
  rw[hc];exact one (.sym n m v' h)
 | dyn id c _ h h' =>
  have hl:=nI c;rw[h']at hl;have hc:v'.cells = #[v']:=by cases v'<;>first | rfl | cases hl
  rw[hc];exact one (.dyn id c v' h h')
 | junk n v' h =>
  have hc:v'.cells = #[v']:=by cases v'<;>first | rfl | cases h
  rw[hc];exact one (.junk n v' h)
 | qD id c j _ h h' =>
  have hl:=oW j (dec c);rw[h']at hl;have hc:v'.cells = #[v']:=by cases v'<;>first | rfl | cases hl
  rw[hc];exact one (.qD id c j v' h h')
 | string s=>exact one (.string s)
 | oX=>exact one .oX
 | ptr id off b h=>exact one (.ptr id off b h)
 | dn=>exact one .dn
 | slice id off b n c c' h h0 h1 h2 h3=>exact one (.slice id off b n c c' h h0 h1 h2 h3)
 | dz id off b h h0=>exact one (.dz id off b h h0)
 | mX=>exact one .mX
 | map id b h=>exact one (.map id b h)
 | func fn f f' c c' hy hf hc h h'=>exact one (.func fn f f' c c' hy hf hc h h')
 | yield id b h=>exact one (.yield id b h)
 | nilFunc=>exact one .nilFunc
 | iface t v v' h=>exact one (.iface t v v' h)
 | nilIface=>exact one .nilIface
 | tuple f f' hf h=>exact one (.tuple f f' hf h)
theorem uE{P:Program}{base:Nat->Prop}{ι:am}{id off b:Nat}{v v':Value}(t:TypeId)(hb:ι id=some b)(hv:ao ι v v'):aq P base (λ_ _ _=>True) ι (Go.storeVar t ⟨id,off,none⟩ v) (Go.storeVar t ⟨b,off,none⟩ v'):=by
 unfold Go.storeVar;refine aq.bnd (cX t) (λκ n n' hle hn=>?_);rw[hn];have hc:=fZ (hv.mono hle);rw[← hc.1]
 split
 ·exact aq.halt
 ·exact iU _ _ 0 κ (hle _ _ hb) hc.list
theorem mY{P:Program}{base:Nat->Prop}{ι:am}{c c':Array Value}(e:TypeId)(h:bN ι c c') :
  aq P base (λκ a a'=>∃ id b,a=⟨id,0,none⟩/\a'=⟨b,0,none⟩/\κ id=some b/\iF id=false) ι (Go.newRow e c) (Go.newRow e c'):=by
 unfold Go.newRow Go.newObj;refine aq.bnd (R:=λκ id b=>κ id=some b/\iF id=false) (aq.new ⟨rfl,c',rfl,Nat.le_of_eq h.1,λ_=>h.1,h.2,λg=>by cases g⟩ (λκ id b hle hb hg=>aq.pure ⟨hb,hg⟩)) (λκ id b hle hb=>aq.ret ⟨id,b,rfl,rfl,hb.1,hb.2⟩)
theorem qF{P:Program}{base:Nat->Prop}{ι:am}{v v':Value}(e:TypeId)(h:ao ι v v') :
  aq P base (λκ a a'=>∃ id b,a=⟨id,0,none⟩/\a'=⟨b,0,none⟩/\κ id=some b/\iF id=false) ι (Go.newVar e v) (Go.newVar e v') :=
 mY e (fZ h)
theorem ij{P:Program}{base:Nat->Prop}{ι:am}{v v':Value}(h:ao ι v v') :
  aq P base (λκ a a'=>∃ id off b,a=⟨id,off,none⟩/\a'=⟨b,off,none⟩/\κ id=some b) ι (Instr.sureAddr v) (Instr.sureAddr v'):=by
 cases h with
 | ptr id off b h=>exact aq.ret ⟨id,off,b,rfl,rfl,h⟩
 | _=>exact aq.halt
theorem zk{P:Program}{base:Nat->Prop}{ι:am}{v v':Value}(t:TypeId)(h:ao ι v v'):aq P base (λκ v v'=>ao κ v v') ι (Instr.loadAt t v) (Instr.loadAt t v'):=by
 unfold Instr.loadAt;refine aq.bnd (ij h) (λκ a a' hle ha=>?_);obtain⟨id,off,b,rfl,rfl,hb⟩:=ha;exact pK t hb
theorem wI{P:Program}{base:Nat->Prop}{ι:am}{v v' x x':Value}(t:TypeId)(h:ao ι v v')(hx:ao ι x x'):aq P base (λ_ _ _=>True) ι (Instr.storeAt t v x) (Instr.storeAt t v' x'):=by
 unfold Instr.storeAt;refine aq.bnd (ij h) (λκ a a' hle ha=>?_);obtain⟨id,off,b,rfl,rfl,hb⟩:=ha;exact uE t hb (hx.mono hle)
theorem H7{P:Program}{base:Nat->Prop}{ι:am}{v v':Value}(t:TypeId)(h:ao ι v v'):aq P base (λκ v v'=>ao κ v v') ι (Instr.box t v) (Instr.box t v'):=by
 unfold Instr.box;refine aq.bnd (qF t h) (λκ a a' hle ha=>?_);obtain⟨id,b,rfl,rfl,hb,_⟩:=ha;exact aq.ret (.ptr id 0 b hb)
theorem Cg{P:Program}{base:Nat->Prop}{ι:am}(t:TypeId)(hz:sx P t=true):aq P base (λκ v v'=>ao κ v v') ι (Instr.alloc t true (.tuple #[])) (Instr.alloc t true (.tuple #[])):=by
 unfold Instr.alloc;refine aq.bnd (jz t hz) (λκ a a' hle ha=>?_);obtain⟨rfl,hv⟩:=ha;refine aq.bnd (qF t hv) (λκ a a' hle ha=>?_);obtain⟨id,b,rfl,rfl,hb,_⟩:=ha;exact aq.ret (.ptr id 0 b hb)
end Go.Ev
namespace Go.Ev
open Go.RowKit
variable[bg]
abbrev VV:am->Value->Value->Prop:=λκ v v'=>ao κ v v'
def tE(P:Program)(s:TypeId)(f:Nat):Bool :=
 match P.underlying s with
 | some (.struct fields) =>
  match fields[f]? with
  | some fd=>(match P.info? fd.type with | some i=>i.size != 0 | none=>true)
  | none=>true
 | _=>true
theorem qG{P:Program}{base:Nat->Prop}{ι:am}{id off b:Nat}(f:Field)(hb:ι id=some b)(hz:(match P.info? f.type with | some i=>i.size != 0 | none=>true)=true) :
  aq P base (λκ a a'=>∃ off,a=⟨id,off,none⟩/\a'=⟨b,off,none⟩/\κ id=some b) ι (Go.fieldPlace ⟨id,off,none⟩ f) (Go.fieldPlace ⟨b,off,none⟩ f):=by
 unfold Go.fieldPlace Go.sizeOf;simp only[bind_assoc,pure_bind];refine aq.bnd (ef f.type) (λκ i i' hle hi=>?_);obtain⟨rfl,h2⟩:=hi;simp only[h2,bne_iff_ne,ne_eq]at hz;rw[if_neg hz,if_neg hz,Addr.fL,Addr.fL];exact aq.ret ⟨_,rfl,rfl,hle _ _ hb⟩
theorem wJ{P:Program}{base:Nat->Prop}{ι:am}{v v':Value}(s:TypeId)(f:Nat)(h:ao ι v v')(hz:tE P s f=true):aq P base VV ι (Instr.fieldAt s v f) (Instr.fieldAt s v' f):=by
 unfold Instr.fieldAt;refine aq.bnd (aM s) (λκ d d' hle hd=>?_);obtain⟨rfl,h2⟩:=hd;cases d' with
 | struct fields =>
  dsimp only;cases hf:fields[f]? with
  | none=>exact aq.halt
  | some fd =>
   dsimp only;refine aq.bnd (ij (h.mono hle)) (λκ2 a a' hle2 ha=>?_);obtain⟨id,off,b,rfl,rfl,hb⟩:=ha;unfold tE at hz;simp only[h2,hf]at hz;refine aq.bnd (qG fd hb hz) (λκ3 a a' hle3 ha=>?_);obtain⟨off,rfl,rfl,hb3⟩:=ha;exact aq.ret (.ptr id off b hb3)
 | _=>exact aq.halt
theorem jg{P:Program}{base:Nat->Prop}{ι:am}{v v':Value}(h:ao ι v v'):aq P base (λ_ x y=>y=x) ι (Go.asIntOf v) (Go.asIntOf v'):=by
 cases h<;>first | exact aq.ret rfl | exact aq.halt
theorem oY{P:Program}{base:Nat->Prop}{ι:am}{v v':Value}(h:ao ι v v'):aq P base (λ_ x y=>y=x) ι (Go.asInt v) (Go.asInt v'):=by
 unfold Go.asInt;exact aq.bnd (jg h) (λκ a b _ e=>aq.ret (by rw[e]))
theorem Ch{P:Program}{base:Nat->Prop}{ι:am}{v v':Value}(h:ao ι v v'):aq P base bN ι (Go.asAgg v) (Go.asAgg v'):=by
 cases h<;>first | exact aq.halt | exact aq.ret ⟨by assumption,by assumption⟩
theorem oZ{α:Type}(P:Program)(k:IntKind)(x y:Int)(c:BoundsCode)(s:St):aw P (Go.boundsPanic k x y c:Sem α) s=none:=by
 unfold Go.boundsPanic;have hp:∀ (e:RuntimeError) (s:St),(∀ i c a m,e≠.typeAssertion i c a m)->e≠.panicNil->aw P (Go.runtimePanic e:Sem α) s=none:=by
  intro e s h1 h2;cases e with
  | typeAssertion i c a m=>exact(h1 _ _ _ _ rfl).elim
  | panicNil=>exact(h2 rfl).elim
  | _=>rfl
 dsimp only
 split
 ·rfl
 ·refine hp (.bounds (IntKind.i64.wrap x) y (k != IntKind.u64) c) s ?_ ?_
  ·intro i c a m e;cases e
  ·intro e;cases e
theorem aq.bounds{α β:Type}{P:Program}{base:Nat->Prop}{R:am->α->β->Prop}{ι:am}{k:IntKind}{x y:Int}{c:BoundsCode}{m':Sem β} : aq P base R ι (Go.boundsPanic k x y c:Sem α) m':=by
 intro s w a s1 hr ha;rw[oZ]at ha;cases ha
def zl(κ:am)(p p':Option Addr×Nat×TypeId):Prop:=p'.2=p.2/\(p.1=none/\p'.1=none\/∃ id off b,p.1=some ⟨id,off,none⟩/\p'.1=some ⟨b,off,none⟩/\κ id=some b)
theorem wK{P:Program}{base:Nat->Prop}{ι:am}{v v' x x':Value}(t:TypeId)(h:ao ι v v')(hx:ao ι x x'):aq P base VV ι (Instr.indexAt t v x) (Instr.indexAt t v' x'):=by
 unfold Instr.indexAt;refine aq.bnd (jg hx) (λκ a a' hle ha=>?_);subst ha;obtain⟨k,i⟩:=a';dsimp only;refine aq.bnd (aM t) (λκ2 d d' hle2 hd=>?_);obtain⟨rfl,h2⟩:=hd;have hv:=(h.mono hle).mono hle2;have hend:∀ (κ:am) (p p':Option Addr×Nat×TypeId),zl κ p p'->∀ d d':TypeDesc,d'=d->aq P base VV κ
   (match p.fst with
    | some a =>
     if 0<=i/\i < ↑p.2.fst then do
      let n ← sizeOf p.2.snd
      pure (Value.pointer (some (a.add (i.toNat*n))))
     else
      if (decide (p.2.fst<=1)&&match d with | TypeDesc.array len elem=>true | x=>false)=true then
       unsupported (Unsupported.noEntry "op/indexAddr.an index out of range at an array of length 0 or 1 (ledger 616)")
      else boundsPanic k i (↑p.2.fst) BoundsCode.index
    | none=>boundsPanic k i 0 BoundsCode.index)
   (match p'.fst with
    | some a =>
     if 0<=i/\i < ↑p'.2.fst then do
      let n ← sizeOf p'.2.snd
      pure (Value.pointer (some (a.add (i.toNat*n))))
     else
      if (decide (p'.2.fst<=1)&&match d' with | TypeDesc.array len elem=>true | x=>false)=true then
       unsupported (Unsupported.noEntry "op/indexAddr.an index out of range at an array of length 0 or 1 (ledger 616)")
      else boundsPanic k i (↑p'.2.fst) BoundsCode.index
    | none=>boundsPanic k i 0 BoundsCode.index):=by
  rintro κ ⟨ba,len,elem⟩ ⟨ba',len',elem'⟩ ⟨he,hp⟩ d d' rfl;cases he;dsimp only at hp ⊢;rcases hp with ⟨rfl,rfl⟩ | ⟨id,off,b,rfl,rfl,hb⟩
  ·exact aq.bounds
  ·dsimp only
   split
   ·refine aq.bnd (cX _) (λκ4 n n' f6 hn=>?_)
    rw[hn,Addr.fL,Addr.fL];exact aq.ret (.ptr id _ b (f6 _ _ hb))
   ·by_cases hq:(decide (len<=1)&&match d' with | TypeDesc.array len elem=>true | x=>false)=true
    ·rw[if_pos hq];exact aq.halt
    ·rw[if_neg hq];exact aq.bounds
 have hbe:∀ (κ κ':am) (p p':Option Addr×Nat×TypeId),jf κ κ'->zl κ p p'->zl κ' p p':=by
  rintro κ κ' p p' hle ⟨h1,h2⟩;refine⟨h1,?_⟩;rcases h2 with h2 | ⟨id,off,b,e1,e2,e3⟩
  ·exact .inl h2
  ·exact .inr ⟨id,off,b,e1,e2,hle _ _ e3⟩
 cases d' with
 | array len elem =>
  dsimp only;refine aq.bnd (ij hv) (λκ3 a a' hle3 ha=>?_);obtain⟨id,off,b,rfl,rfl,hb⟩:=ha;refine aq.bnd (R:=zl) (aq.ret ⟨rfl,.inr ⟨id,off,b,rfl,rfl,hb⟩⟩) (λκ4 p p' f6 hp=>?_);exact aq.bnd (aM t) (λκ5 d d' nK hd=>hend κ5 p p' (hbe _ _ _ _ nK hp) d d' hd.1)
 | slice elem =>
  cases hv with
  | dn =>
   dsimp only;refine aq.bnd (R:=zl) (aq.ret ⟨rfl,.inl ⟨rfl,rfl⟩⟩) (λκ4 p p' f6 hp=>?_);exact aq.bnd (aM t) (λκ5 d d' nK hd=>hend κ5 p p' (hbe _ _ _ _ nK hp) d d' hd.1)
  | slice id off b n c c' hh h0 h1 h2 h3 =>
   dsimp only;refine aq.bnd (R:=zl) (aq.ret ⟨rfl,.inr ⟨id,off,b,rfl,rfl,hh⟩⟩) (λκ4 p p' f6 hp=>?_);exact aq.bnd (aM t) (λκ5 d d' nK hd=>hend κ5 p p' (hbe _ _ _ _ nK hp) d d' hd.1)
  | dz id off b hh h0 =>
   dsimp only;refine aq.bnd (R:=zl) (aq.ret ⟨rfl,.inr ⟨id,off,b,rfl,rfl,hh⟩⟩) (λκ4 p p' f6 hp=>?_);exact aq.bnd (aM t) (λκ5 d d' nK hd=>hend κ5 p p' (hbe _ _ _ _ nK hp) d d' hd.1)
  | _=>exact aq.halt
 | _=>exact aq.halt
theorem fN{P:Program}{base:Nat->Prop}{ι:am}{x x':Value}{y y':Nat}{c:BoundsCode}(hx:ao ι x x')(hy:y<=y'):aq P base (λ_ n n'=>n'=n/\n<=y) ι (Instr.sliceBound x y c) (Instr.sliceBound x' y' c):=by
 unfold Instr.sliceBound;refine aq.bnd (jg hx) (λκ a a' hle ha=>?_);subst ha;obtain⟨k,i⟩:=a';dsimp only
 by_cases h:0<=i/\i<=y
 ·rw[if_pos h,if_pos (by omega)]
  exact aq.ret ⟨rfl,by omega⟩
 ·rw[if_neg h]
  exact aq.bounds
def jG(ι:am):Option Value->Option Value->Prop
 | none,none=>True
 | some v,some v'=>ao ι v v'
 | _,_=>False
theorem jG.mono{ι κ:am}(hk:jf ι κ){v v':Option Value}(h:jG ι v v'):jG κ v v':=by
 cases v<;>cases v'<;>first | exact h | exact ao.mono hk h
theorem uF{P:Program}{base:Nat->Prop}{ι:am}{lo lo':Option Value}{h m m':Nat}{c:BoundsCode} : jG ι lo lo'->
  aq P base (λ_ (p p':Nat×Nat×Nat)=>p'.1=p.1/\p'.2.1=p.2.1/\p.2.2=m/\p'.2.2=m'/\p.1<=p.2.1/\p.2.1=h) ι
   (match lo with
    | some v=>do
     let l ← Instr.sliceBound v h c
     pure (l,h,m)
    | none=>do
     let l ← pure 0
     pure (l,h,m))
   (match lo' with
    | some v=>do
     let l ← Instr.sliceBound v h c
     pure (l,h,m')
    | none=>do
     let l ← pure 0
     pure (l,h,m')):=by
 intro hlo;cases lo with
 | none =>
  cases lo' with
  | none=>exact aq.ret ⟨rfl,rfl,rfl,rfl,Nat.zero_le _,rfl⟩
  | some v=>exact hlo.elim
 | some v =>
  cases lo' with
  | none=>exact hlo.elim
  | some v'=>exact aq.bnd (fN hlo (Nat.le_refl h)) (λκ l l' _ hl=>aq.ret ⟨hl.1,rfl,rfl,rfl,hl.2,rfl⟩)
theorem eu{P:Program}{base:Nat->Prop}{ι:am}{lo lo' hi hi' mx mx':Option Value}{sl:Bool}{len cap cap':Nat}(hlo:jG ι lo lo')(hhi:jG ι hi hi')(hmx:jG ι mx mx')(hc:cap<=cap')(hl:len<=cap)(hm:mx=none\/cap=cap') :
  aq P base (λ_ (p p':Nat×Nat×Nat)=>p'.1=p.1/\p'.2.1=p.2.1/\(p.2.2=cap/\p'.2.2=cap'\/p'.2.2=p.2.2/\p.2.2<=cap/\cap=cap'/\mx.isSome=true)/\p.1<=p.2.1/\p.2.1<=p.2.2) ι (Instr.sliceBounds sl len cap lo hi mx) (Instr.sliceBounds sl len cap' lo' hi' mx'):=by
 unfold Instr.sliceBounds;cases mx with
 | none =>
  cases mx' with
  | some v=>exact hmx.elim
  | none =>
   dsimp only;refine aq.bnd (R:=λ_ m m'=>m=cap/\m'=cap') (aq.ret ⟨rfl,rfl⟩) (λκ m m' hle h=>?_);obtain⟨rfl,rfl⟩:=h;cases hi with
   | none =>
    cases hi' with
    | some v=>exact hhi.elim
    | none =>
     dsimp only;refine aq.bnd (R:=λ_ h h'=>h=len/\h'=len) (aq.ret ⟨rfl,rfl⟩) (λκ2 h h' hle2 e=>?_);obtain⟨rfl,rfl⟩:=e;exact aq.mono (uF ((hlo.mono hle).mono hle2)) (λκ p p' ⟨a,b,c,d,e,f⟩=>⟨a,b,.inl ⟨c,d⟩,e,by omega⟩)
   | some v =>
    cases hi' with
    | none=>exact hhi.elim
    | some v' =>
     dsimp only;refine aq.bnd (fN (ao.mono hle hhi) hc) (λκ2 h h' hle2 e=>?_);obtain⟨rfl,hh⟩:=e;exact aq.mono (uF ((hlo.mono hle).mono hle2)) (λκ p p' ⟨a,b,c,d,e,f⟩=>⟨a,b,.inl ⟨c,d⟩,e,by omega⟩)
 | some x =>
  cases mx' with
  | none=>exact hmx.elim
  | some x' =>
   obtain rfl:cap=cap':=by rcases hm with h | h;cases h;exact h
   dsimp only;refine aq.bnd (fN hmx (Nat.le_refl cap)) (λκ m m' hle h=>?_);obtain⟨rfl,hmc⟩:=h;cases hi with
   | none=>exact aq.halt
   | some v =>
    cases hi' with
    | none=>exact hhi.elim
    | some v' =>
     dsimp only;refine aq.bnd (fN (ao.mono hle hhi) (Nat.le_refl m')) (λκ2 h h' hle2 e=>?_);obtain⟨rfl,hh⟩:=e;exact aq.mono (uF ((hlo.mono hle).mono hle2)) (λκ p p' ⟨a,b,c,d,e,f⟩=>⟨a,b,.inr ⟨by omega,by omega,rfl,rfl⟩,e,by omega⟩)
def nL:Value->Bool
 | .slice (some a) _ c=>!iF a.block||decide (0<c)
 | _=>true
theorem A3{κ:am}{id off b l h m m' sz:Nat}(hb:κ id=some b)(h0:iF id=false->m=m')(h1:m<=m')(hcap:iF id=true->off=0->κ (id+1)=some m')(hsz:0<sz)(hlh:l<=h)(hhm:h<=m)
  (hr:nL (.slice (some (if m=l then (⟨id,off,none⟩:Addr) else (⟨id,off,none⟩:Addr).add (l*sz))) (h-l) (m-l))=true) :
  ao κ (.slice (some (if m=l then (⟨id,off,none⟩:Addr) else (⟨id,off,none⟩:Addr).add (l*sz))) (h-l) (m-l)) (.slice (some (if m'=l then (⟨b,off,none⟩:Addr) else (⟨b,off,none⟩:Addr).add (l*sz))) (h-l) (m'-l)):=by
 rw[Addr.fL,Addr.fL]at *
 by_cases e:m=l
 ·rw[if_pos e]at hr ⊢
  simp only[nL,Bool.or_eq_true,Bool.not_eq_true',decide_eq_true_eq]at hr;rcases hr with hr | hr
  ·have:=h0 hr
   subst this;rw[if_pos e];have e1:h-l=0:=by omega
   have e2:m-l=0:=by omega
   rw[e1,e2];exact .dz id off b hb hr
  ·omega
 ·rw[if_neg e,if_neg (by omega)]
  refine .slice id (off+l*sz) b (h-l) (m-l) (m'-l) hb (λg=>by rw[h0 g]) (λg=>⟨by omega,λe=>?_⟩) (by omega) (by omega);have e2:l*sz=0:=by omega
  have e1:off=0:=by omega
  have e3:l=0:=by rcases Nat.mul_eq_zero.1 e2 with e3 | e3;exact e3;omega
  rw[e3,Nat.sub_zero];exact hcap g e1
def Ci(x:Value)(mx:Option Value):Bool :=
 match mx,x with
 | _,.pointer (some a)=>!iF a.block
 | none,_=>true
 | some _,.slice (some a) _ _=>!iF a.block
 | some _,.slice none _ _=>true
 | some _,_=>false
def wL(P:Program)(t:TypeId):Bool :=
 match P.info? t with
 | some i=>i.size != 0
 | none=>true
theorem pL{P:Program}{base:Nat->Prop}{ι:am}(t:TypeId)(h:wL P t=true):aq P base (λ_ d d'=>d'=d/\0<d) ι (Go.sizeOf t) (Go.sizeOf t):=by
 unfold Go.sizeOf;refine aq.bnd (ef t) (λκ a b _ hh=>?_);obtain⟨rfl,h2⟩:=hh;simp only[wL,h2,bne_iff_ne,ne_eq]at h;exact aq.ret ⟨rfl,by omega⟩
def Cj(P:Program)(t:TypeId):Bool :=
 match P.underlying t with
 | some (.array _ e) | some (.slice e)=>wL P e
 | some .string=>true
 | _=>false
theorem wM{P:Program}{base:Nat->Prop}{ι:am}{x x':Value}{lo lo' hi hi' mx mx':Option Value}(t:TypeId)(hx:ao ι x x')(hlo:jG ι lo lo')(hhi:jG ι hi hi')(hmx:jG ι mx mx')(hm:Ci x mx=true)(hs:Cj P t=true) :
    aq P base (λκ v v'=>nL v=true->ao κ v v') ι (Instr.sliceAt t x lo hi mx) (Instr.sliceAt t x' lo' hi' mx'):=by
  unfold Instr.sliceAt;refine aq.bnd (aM t) (λκ d d' hle hd=>?_);obtain⟨rfl,h2⟩:=hd;have harr:∀ (n:Nat) (elem:TypeId),wL P elem=true->aq P base (λκ v v'=>nL v=true->ao κ v v') κ
      (do let a ← Instr.sureAddr x
          let p ← Instr.sliceBounds false n n lo hi mx
          let size ← Go.sizeOf elem
          pure (.slice (some (if p.2.2=p.1 then a else a.add (p.1*size))) (p.2.1-p.1) (p.2.2-p.1)))
      (do let a ← Instr.sureAddr x'
          let p ← Instr.sliceBounds false n n lo' hi' mx'
          let size ← Go.sizeOf elem
          pure (.slice (some (if p.2.2=p.1 then a else a.add (p.1*size))) (p.2.1-p.1) (p.2.2-p.1))):=by
    intro n elem hpos;have MK:∀ id off,x=.pointer (some ⟨id,off,none⟩)->iF id=false:=by
      intro id off e;subst e;cases mx<;>simpa[Ci] using hm
    have hsa:aq P base (λκ a a'=>∃ id off b,a=⟨id,off,none⟩/\a'=⟨b,off,none⟩/\κ id=some b/\iF id=false) κ (Instr.sureAddr x) (Instr.sureAddr x'):=by
      have hx1:=hx.mono hle;cases hx1 with
      | ptr id off b h=>exact aq.ret ⟨id,off,b,rfl,rfl,h,MK id off rfl⟩
      | _=>exact aq.halt
    refine aq.bnd hsa (λκ2 a a' hle2 ha=>?_);obtain⟨id,off,b,rfl,rfl,hb,hgf⟩:=ha;refine aq.bnd (eu ((hlo.mono hle).mono hle2) ((hhi.mono hle).mono hle2) ((hmx.mono hle).mono hle2) (Nat.le_refl n) (Nat.le_refl n) (.inr rfl)) (λκ3 p p' hle3 hp=>?_);obtain⟨l,h,m⟩:=p;obtain⟨l',h',m'⟩:=p';obtain⟨p1,p2,p3,p4,p5⟩:=hp;dsimp only at p1 p2 p3 p4 p5 ⊢;subst p1 p2;refine aq.bnd (pL elem hpos) (λκ4 sz sz' f6 hs=>?_);obtain⟨rfl,hs0⟩:=hs;exact aq.ret (λhr=>A3 (f6 _ _ (hle3 _ _ hb)) (λ_=>by omega) (by omega) (λg=>by rw[hgf]at g;cases g) hs0 p4 p5 hr)
  have hsl:∀ (elem:TypeId),wL P elem=true->P.underlying t=some (.slice elem)->aq P base (λκ v v'=>nL v=true->ao κ v v') κ (Instr.slice t x lo hi mx) (Instr.slice t x' lo' hi' mx'):=by
    intro elem hpos hu;unfold Instr.slice;refine aq.bnd (aM t) (λκ2 d d' hle2 hd=>?_);obtain⟨rfl,h3⟩:=hd;rw[hu]at h3;cases h3;have hx2:=(hx.mono hle).mono hle2;cases hx2 with
    | dn =>
      dsimp only;refine aq.bnd (eu ((hlo.mono hle).mono hle2) ((hhi.mono hle).mono hle2) ((hmx.mono hle).mono hle2) (Nat.le_refl 0) (Nat.le_refl 0) (.inr rfl)) (λκ3 p p' hle3 hp=>?_);obtain⟨l,h,m⟩:=p;obtain⟨l',h',m'⟩:=p';obtain⟨p1,p2,p3,p4,p5⟩:=hp;dsimp only at p1 p2 p3 p4 p5 ⊢;subst p1 p2;refine aq.bnd (cX elem) (λκ4 sz sz' f6 hs=>?_);subst hs;obtain⟨rfl,rfl,rfl,rfl⟩:m'=0/\m=0/\h'=0/\l'=0:=by omega
      exact aq.ret (λhr=>.dn)
    | slice id off b n c c' hb h0 h1 h2 h3 =>
      dsimp only;have hcc:c<=c':=by
        cases hg:iF id with
        | false=>exact Nat.le_of_eq (h0 hg)
        | true=>exact(h1 hg).1
      refine aq.bnd (eu ((hlo.mono hle).mono hle2) ((hhi.mono hle).mono hle2) ((hmx.mono hle).mono hle2) hcc h3 ?_) (λκ3 p p' hle3 hp=>?_)
      · cases mx with
        | none=>exact .inl rfl
        | some y =>
          simp only[Ci,Bool.not_eq_true']at hm;exact .inr (h0 hm)
      · obtain⟨l,h,m⟩:=p
        obtain⟨l',h',m'⟩:=p';obtain⟨p1,p2,p3,p4,p5⟩:=hp;dsimp only at p1 p2 p3 p4 p5 ⊢;subst p1 p2;refine aq.bnd (pL elem hpos) (λκ4 sz sz' f6 hs=>?_);obtain⟨rfl,hs0⟩:=hs;have e1:(if m=l' then some (⟨id,off,none⟩:Addr) else (some (⟨id,off,none⟩:Addr)).map (·.add (l'*sz')))=some (if m=l' then (⟨id,off,none⟩:Addr) else (⟨id,off,none⟩:Addr).add (l'*sz')):=by split<;>rfl
        have e2:(if m'=l' then some (⟨b,off,none⟩:Addr) else (some (⟨b,off,none⟩:Addr)).map (·.add (l'*sz')))=some (if m'=l' then (⟨b,off,none⟩:Addr) else (⟨b,off,none⟩:Addr).add (l'*sz')):=by split<;>rfl
        rw[e1,e2];refine aq.ret (λhr=>A3 (f6 _ _ (hle3 _ _ hb)) (λg=>by have:=h0 g;omega) (by omega) (λg e=>?_) hs0 p4 p5 hr);have hm':m'=c':=by
          rcases p3 with p3 | p3
          · exact p3.2
          · cases mx with
            | none=>cases p3.2.2.2
            | some y=>simp only[Ci,Bool.not_eq_true']at hm;rw[hm]at g;cases g
        rw[hm'];exact f6 _ _ (hle3 _ _ ((h1 g).2 e))
    | dz id off b hb h0 =>
      dsimp only;refine aq.bnd (eu ((hlo.mono hle).mono hle2) ((hhi.mono hle).mono hle2) ((hmx.mono hle).mono hle2) (Nat.le_refl 0) (Nat.le_refl 0) (.inr rfl)) (λκ3 p p' hle3 hp=>?_);obtain⟨l,h,m⟩:=p;obtain⟨l',h',m'⟩:=p';obtain⟨p1,p2,p3,p4,p5⟩:=hp;dsimp only at p1 p2 p3 p4 p5 ⊢;subst p1 p2;refine aq.bnd (cX elem) (λκ4 sz sz' f6 hs=>?_);subst hs;obtain⟨rfl,rfl,rfl,rfl⟩:m'=0/\m=0/\h'=0/\l'=0:=by omega
      exact aq.ret (λhr=>.dz id off b (f6 _ _ (hle3 _ _ hb)) h0)
    | _=>exact aq.halt
  cases d' with
  | array n elem=>exact harr n elem (by simpa[Cj,h2] using hs)
  | slice elem=>exact hsl elem (by simpa[Cj,h2] using hs) h2
  | string =>
    dsimp only;unfold Instr.slice;refine aq.bnd (aM t) (λκ2 d d' hle2 hd=>?_);obtain⟨rfl,h3⟩:=hd;rw[h2]at h3;cases h3;have hx2:=(hx.mono hle).mono hle2;cases hx2 with
    | string s =>
      dsimp only;cases mx with
      | some y=>exact aq.halt
      | none =>
        cases mx' with
        | some y=>exact hmx.elim
        | none =>
          dsimp only[Option.isSome];refine aq.bnd (eu ((hlo.mono hle).mono hle2) ((hhi.mono hle).mono hle2) (show jG κ2 none none from trivial) (Nat.le_refl s.size) (Nat.le_refl s.size) (.inr rfl)) (λκ3 p p' hle3 hp=>?_);obtain⟨l,h,m⟩:=p;obtain⟨l',h',m'⟩:=p';obtain⟨p1,p2,p3,p4,p5⟩:=hp;dsimp only at p1 p2 ⊢;subst p1 p2;exact aq.ret (λ_=>.string _)
    | _=>exact aq.halt
  | _=>simp[Cj,h2]at hs
theorem f7{ι:am}{f f':Array Value}{v v':Value}(h:bN ι f f')(hv:ao ι v v')(k:Nat):bN ι (f.setIfInBounds k v) (f'.setIfInBounds k v'):=by
 refine⟨by simp[h.1],λi x x' h1 h2=>?_⟩;rw[Array.getElem?_setIfInBounds]at h1 h2
 by_cases e:k=i
 ·subst e
  rw[if_pos rfl]at h1 h2
  split at h1
  ·split at h2
   ·cases h1;cases h2;exact hv
   ·cases h2
  ·cases h1
 ·rw[if_neg e]at h1 h2
  exact h.2 i x x' h1 h2
theorem foldl_rel{ι:am}(off:Nat):∀ (l l':List (Value×Nat)) (f f':Array Value),bN ι f f'->l.length=l'.length->(∀ (i:Nat) x x',l[i]? = some x->l'[i]? = some x'->ao ι x.1 x'.1/\x.2=x'.2)->
  bN ι (l.foldl (λcs x=>cs.setIfInBounds (off+x.2) x.1) f) (l'.foldl (λcs x=>cs.setIfInBounds (off+x.2) x.1) f'):=by
 intro l
 induction l with
 | nil =>
  intro l' f f' h hl _;have:l'=[]:=List.eq_nil_of_length_eq_zero hl.symm;subst this;exact h
 | cons x l ih =>
  intro l' f f' h hl hr;cases l' with
  | nil=>cases hl
  | cons x' l' =>
   have h0:=hr 0 x x' rfl rfl;refine ih l' _ _ ?_ (by simpa using hl) (λi y y' h1 h2=>hr (i+1) y y' h1 h2);dsimp only;rw[h0.2];exact f7 h h0.1 _
def wO(ι:am)(l l':List (Nat×Value)):Prop:=l.length=l'.length/\∀ (i:Nat) x x',l[i]? = some x->l'[i]? = some x'->x.1=x'.1/\ao ι x.2 x'.2
theorem qH{ι:am}(place:Nat->Option (Nat×Nat)):∀ (l l':List (Nat×Value)) (f f':Array Value),bN ι f f'->wO ι l l'->∀ c,Instr.fill place f l=some c->∃ c',Instr.fill place f' l'=some c'/\bN ι c c':=by
 intro l
 induction l with
 | nil =>
  intro l' f f' h hp c hc;have:l'=[]:=List.eq_nil_of_length_eq_zero hp.1.symm;subst this;cases hc;exact⟨f',rfl,h⟩
 | cons x l ih =>
  intro l' f f' h hp c hc;cases l' with
  | nil=>cases hp.1
  | cons x' l' =>
   obtain⟨i,v⟩:=x;obtain⟨i',v'⟩:=x';have h0:=hp.2 0 _ _ rfl rfl;obtain⟨e0,hv⟩:=h0;dsimp only at e0 hv;subst e0;have hcs:=fZ hv;simp only[Instr.fill]at hc ⊢;cases hpl:place i with
   | none=>rw[hpl]at hc;cases hc
   | some os =>
    obtain⟨off,size⟩:=os;rw[hpl]at hc;dsimp only at hc ⊢;rw[← hcs.1,← h.1]
    split at hc
    ·cases hc
    ·rename_i hcond
     rw[if_neg hcond];refine ih l' _ _ ?_ ⟨by simpa using hp.1,λj y y' h1 h2=>hp.2 (j+1) y y' h1 h2⟩ c hc;rw[← Array.foldl_toList,← Array.foldl_toList];refine foldl_rel off _ _ _ _ h (by simp[hcs.1]) ?_;intro j y y' h1 h2;simp only[Array.toList_zipIdx,List.getElem?_zipIdx,Option.map_eq_some_iff]at h1 h2;obtain⟨z,z1,z2⟩:=h1;obtain⟨z',z1',z2'⟩:=h2;subst z2 z2';exact⟨hcs.2 j z z' (by simpa using z1) (by simpa using z1'),rfl⟩
end Go.Ev
namespace Go.Ev
open Go.RowKit
variable[bg]
theorem bN.of_flat{ι:am}{f:Array Value}(h:∀ (i:Nat) v,f[i]? = some v->ao ι v v):bN ι f f:=⟨rfl,λi v v' h1 h2=>by rw[h1]at h2;cases h2;exact h i v h1⟩
theorem uG{P:Program}{base:Nat->Prop}{ι:am}(fields:Array Field) :
    aq P base (λ_ p p'=>p'=p) ι (fields.mapM λf=>(do pure (f.offset,← Go.sizeOf f.type):Sem (Nat×Nat))) (fields.mapM λf=>(do pure (f.offset,← Go.sizeOf f.type):Sem (Nat×Nat))):=by
  rw[Array.mapM_eq_mapM_toList];refine aq.bnd (R:=λ_ p p'=>p'=p) ?_ (λκ a b _ h=>by rw[h];exact aq.ret rfl);generalize fields.toList=l
  induction l generalizing ι with
  | nil=>exact aq.ret rfl
  | cons f l ih =>
    rw[List.mapM_cons];refine aq.bnd (R:=λ_ p p'=>p'=p) (aq.bnd (cX f.type) (λκ a b _ h=>by rw[h];exact aq.ret rfl)) (λκ a b hle h=>?_);rw[h];exact aq.bnd ih (λκ2 a b _ h=>by rw[h];exact aq.ret rfl)
theorem Ck{P:Program}{base:Nat->Prop}{ι:am}{ps ps':Array (Nat×Value)}(t:TypeId)(hz:sx P t=true)(hp:wO ι ps.toList ps'.toList):aq P base VV ι (Instr.build t ps) (Instr.build t ps'):=by
 unfold Instr.build;refine aq.bnd (jz t hz) (λκ v v' hle hv=>?_);obtain⟨rfl,hv⟩:=hv;dsimp only;refine aq.bnd (aM t) (λκ2 d d' hle2 hd=>?_);obtain⟨rfl,h2⟩:=hd;have hp2:wO κ2 ps.toList ps'.toList:=⟨hp.1,λi x x' h1 h2=>⟨(hp.2 i x x' h1 h2).1,((hp.2 i x x' h1 h2).2.mono hle).mono hle2⟩⟩;cases d' with
 | struct fields =>
  dsimp only;refine aq.bnd (uG fields) (λκ3 p p' hle3 hpp=>?_);subst hpp;cases hf:Instr.fill (λx=>p'[x]?) v'.cells ps.toList with
  | none=>exact aq.halt
  | some c =>
   have hp3:wO κ3 ps.toList ps'.toList:=⟨hp2.1,λi x x' h1 h2=>⟨(hp2.2 i x x' h1 h2).1,(hp2.2 i x x' h1 h2).2.mono hle3⟩⟩;obtain⟨c',hc',hr⟩:=qH (ι:=κ3) (λx=>p'[x]?) ps.toList ps'.toList _ _ (fZ ((hv.mono hle2).mono hle3)) hp3 c hf;rw[hc'];exact aq.ret (.agg _ _ hr.1 hr.2)
 | array n elem =>
  dsimp only;refine aq.bnd (cX elem) (λκ3 p p' hle3 hpp=>?_);subst hpp;cases hf:Instr.fill (λi=>some (i*p',p')) v'.cells ps.toList with
  | none=>exact aq.halt
  | some c =>
   have hp3:wO κ3 ps.toList ps'.toList:=⟨hp2.1,λi x x' h1 h2=>⟨(hp2.2 i x x' h1 h2).1,(hp2.2 i x x' h1 h2).2.mono hle3⟩⟩;obtain⟨c',hc',hr⟩:=qH (ι:=κ3) (λi=>some (i*p',p')) ps.toList ps'.toList _ _ (fZ ((hv.mono hle2).mono hle3)) hp3 c hf;rw[hc'];exact aq.ret (.agg _ _ hr.1 hr.2)
 | _=>exact aq.halt
theorem bN.zeros{ι:am}{zero iV:Array Value}(h:bN ι zero iV)(n:Nat)(hz:n=0\/0<zero.size):bN ι ((Array.range n).map (zero[· % zero.size]!)) ((Array.range n).map (iV[· % iV.size]!)):=by
 refine⟨by simp,λi v v' h1 h2=>?_⟩;simp only[Array.getElem?_map,Option.map_eq_some_iff]at h1 h2;obtain⟨a,a1,a2⟩:=h1;obtain⟨b,b1,b2⟩:=h2;rw[a1]at b1;cases b1;have hlt:a<n:=by
  have:=Array.mem_of_getElem? a1;simpa using this
 have hpos:0<zero.size:=by omega
 have hm:a%zero.size<zero.size:=Nat.mod_lt _ hpos;have hm':a%zero.size<iV.size:=by rw[← h.1];exact hm
 rw[← h.1]at b2;rw[getElem!_pos zero _ hm]at a2;rw[getElem!_pos iV _ hm']at b2;exact h.2 (a%zero.size) v v' (by rw[Array.getElem?_eq_getElem hm,a2]) (by rw[Array.getElem?_eq_getElem hm',b2])
def wP(P:Program)(t:TypeId):Bool :=
 match P.info? t with
 | some i=>(match i.zero with | some v=>decide (0<v.cells.size) | none=>true)
 | none=>true
theorem pM{P:Program}{base:Nat->Prop}{ι:am}(t:TypeId)(hz:sx P t=true)(hp:wP P t=true):aq P base (λκ d d'=>d'=d/\ao κ d d/\0<d.cells.size) ι (Go.zeroValue t) (Go.zeroValue t):=by
 unfold Go.zeroValue;refine aq.bnd (ef t) (λκ a b _ h=>?_);obtain⟨rfl,h2⟩:=h;unfold sx at hz;unfold wP at hp;cases hv:b.zero with
 | none=>exact aq.halt
 | some v =>
  simp only[h2,hv]at hz hp;exact aq.ret ⟨rfl,iG _ 6 v hz,by simpa using hp⟩
def h_(P:Program)(t:TypeId):TypeId :=
 match P.underlying t with
 | some (.slice e)=>e
 | some (.map _ e)=>e
 | _=>0
theorem qI{P:Program}{base:Nat->Prop}{ι:am}{ps ps':Array (Nat×Value)}(t:TypeId)(len:Nat)(hz:sx P (h_ P t)=true)(hq:wP P (h_ P t)=true)(hp:wO ι ps.toList ps'.toList) :
    aq P base VV ι (Instr.buildSlice t len ps) (Instr.buildSlice t len ps'):=by
  unfold Instr.buildSlice;refine aq.bnd (aM t) (λκ2 d d' hle2 hd=>?_);obtain⟨rfl,h2⟩:=hd;cases d' with
  | slice elem =>
    dsimp only;have he:h_ P t=elem:=by simp[h_,h2]
    rw[he]at hz hq;refine aq.bnd (cX elem) (λκ3 sz sz' hle3 hs=>?_);subst hs;have fin:∀ (κ:am) (zero iV:Array Value),jf κ3 κ->bN κ zero iV->(len*sz'=0\/0<zero.size)->aq P base VV κ
        (match Instr.fill (λi=>some (i*sz',sz')) ((Array.range (len*sz')).map (zero[· % zero.size]!)) ps.toList with
          | some cells=>do pure (.slice (some (← Go.newRow elem cells)) len len)
          | _=>Go.stuck "buildSlice: a part of the wrong size")
        (match Instr.fill (λi=>some (i*sz',sz')) ((Array.range (len*sz')).map (iV[· % iV.size]!)) ps'.toList with
          | some cells=>do pure (.slice (some (← Go.newRow elem cells)) len len)
          | _=>Go.stuck "buildSlice: a part of the wrong size"):=by
      intro κ zero iV hle OJ hpos;cases hf:Instr.fill (λi=>some (i*sz',sz')) ((Array.range (len*sz')).map (zero[· % zero.size]!)) ps.toList with
      | none=>exact aq.halt
      | some c =>
        have hp3:wO κ ps.toList ps'.toList:=⟨hp.1,λi x x' h1 h2=>⟨(hp.2 i x x' h1 h2).1,(((hp.2 i x x' h1 h2).2.mono hle2).mono hle3).mono hle⟩⟩;obtain⟨c',hc',hr⟩:=qH (ι:=κ) (λi=>some (i*sz',sz')) ps.toList ps'.toList _ _ (OJ.zeros (len*sz') hpos) hp3 c hf;rw[hc'];refine aq.bnd (mY elem hr) (λκ4 a a' f6 ha=>?_);obtain⟨id,b,rfl,rfl,hb,hg⟩:=ha
        by_cases hlen:0<len
        · exact aq.ret (.slice id 0 b len len len hb (λ_=>rfl) (λg=>by rw[hg]at g;cases g) hlen (Nat.le_refl _))
        · obtain rfl:len=0:=by omega
          exact aq.ret (.dz id 0 b hb hg)
    by_cases hbig:len*sz'>2 ^ 24
    · rw[if_pos hbig];exact aq.halt
    · rw[if_neg hbig,if_neg hbig]
      by_cases h0:len*sz'=0
      · rw[if_pos h0,if_pos h0]
        refine aq.bnd (R:=λ_ p p'=>p = #[]/\p' = #[]) (aq.ret ⟨rfl,rfl⟩) (λκ z z' hle hz=>?_);obtain⟨rfl,rfl⟩:=hz;exact fin κ #[] #[] hle (bN.empty κ) (.inl h0)
      · rw[if_neg h0,if_neg h0]
        refine aq.bnd (pM elem hz hq) (λκ v v' hle hv=>?_);obtain⟨rfl,hv,hpos⟩:=hv;refine aq.bnd (R:=λκ p p'=>bN κ p p'/\0<p.size) (aq.ret ⟨fZ hv,hpos⟩) (λκ2 z z' hle2 hz=>?_);exact fin κ2 z z' (hle.trans hle2) hz.1 (.inr hz.2)
  | _=>exact aq.halt
theorem bN.extract{ι:am}{f f':Array Value}(h:bN ι f f')(a b:Nat):bN ι (f.extract a b) (f'.extract a b):=by
 refine⟨by simp[h.1],λi v v' h1 h2=>?_⟩;rw[Array.getElem?_extract]at h1 h2;rw[h.1]at h1
 split at h1
 ·rename_i hc
  rw[if_pos hc]at h2;exact h.2 _ v v' h1 h2
 ·cases h1
theorem bN.get{ι:am}{f f':Array Value}(h:bN ι f f')(i:Nat):(f[i]? = none/\f'[i]? = none)\/∃ v v',f[i]? = some v/\f'[i]? = some v'/\ao ι v v':=by
 by_cases hlt:i<f.size
 ·have hlt':i<f'.size:=by rw[← h.1];exact hlt
  exact .inr ⟨_,_,Array.getElem?_eq_getElem hlt,Array.getElem?_eq_getElem hlt',h.2 i _ _ (Array.getElem?_eq_getElem hlt) (Array.getElem?_eq_getElem hlt')⟩
 ·have hlt':¬ i<f'.size:=by rw[← h.1];exact hlt
  exact .inl ⟨Array.getElem?_eq_none (Nat.le_of_not_lt hlt),Array.getElem?_eq_none (Nat.le_of_not_lt hlt')⟩
theorem wQ{P:Program}{base:Nat->Prop}{ι:am}{f f':Array Value}(t:TypeId)(off:Nat)(h:bN ι f f'):aq P base VV ι (Go.part t f off) (Go.part t f' off):=by
 unfold Go.part;refine aq.bnd (tD t) (λκ a a' hle ha=>?_);subst ha
 split
 ·refine aq.bnd (cX t) (λκ2 n n' hle2 hn=>?_)
  subst hn;have:=((h.mono hle).mono hle2).extract off (off+n');exact aq.ret (.agg _ _ this.1 this.2)
 ·rcases(h.mono hle).get off with ⟨e1,e2⟩ | ⟨v,v',e1,e2,hv⟩
  ·rw[e1];exact aq.halt
  ·rw[e1,e2];exact aq.ret hv
theorem Cl{P:Program}{base:Nat->Prop}{ι:am}{v v':Value}(t:TypeId)(f:Nat)(h:ao ι v v'):aq P base VV ι (Instr.field t v f) (Instr.field t v' f):=by
 unfold Instr.field;refine aq.bnd (aM t) (λκ2 d d' hle2 hd=>?_);obtain⟨rfl,h2⟩:=hd;cases d' with
 | struct fields =>
  dsimp only;cases hf:fields[f]? with
  | none=>exact aq.halt
  | some fd=>exact aq.bnd (Ch (h.mono hle2)) (λκ a a' _ ha=>wQ fd.type fd.offset ha)
 | _=>exact aq.halt
theorem Cm{P:Program}{base:Nat->Prop}{ι:am}{v v' x x':Value}(t:TypeId)(h:ao ι v v')(hx:ao ι x x'):aq P base VV ι (Instr.index t v x) (Instr.index t v' x'):=by
 unfold Instr.index;refine aq.bnd (jg hx) (λκ a a' hle ha=>?_);subst ha;obtain⟨k,i⟩:=a';dsimp only;refine aq.bnd (aM t) (λκ2 d d' hle2 hd=>?_);obtain⟨rfl,h2⟩:=hd;have hv:=(h.mono hle).mono hle2;cases d' with
 | array n elem =>
  cases hv with
  | agg f f' hf hr =>
   dsimp only
   split
   ·exact aq.bnd (cX elem) (λκ3 z z' hle3 hz=>by subst hz;exact wQ elem _ ((show bN κ2 f f' from⟨hf,hr⟩).mono hle3))
   ·exact aq.bounds
  | _=>exact aq.halt
 | string =>
  cases hv with
  | string s =>
   dsimp only
   split
   ·exact aq.ret (.int _ _)
   ·exact aq.bounds
  | _=>exact aq.halt
 | _=>exact aq.halt
theorem wR{P:Program}{base:Nat->Prop}{ι:am}{v v':Value}(i:Nat)(h:ao ι v v'):aq P base VV ι (Instr.extract v i) (Instr.extract v' i):=by
 unfold Instr.extract;cases h with
 | tuple f f' hf hr =>
  dsimp only;rcases bN.get (ι:=ι) (f:=f) (f':=f') ⟨hf,hr⟩ i with ⟨e1,e2⟩ | ⟨v,v',e1,e2,hv⟩
  ·rw[e1];exact aq.halt
  ·rw[e1,e2];exact aq.ret hv
 | _=>exact aq.halt
theorem nM{P:Program}{base:Nat->Prop}{ι:am}{v v':Value}(t:TypeId)(h:ao ι v v'):aq P base VV ι (Instr.makeInterface t v) (Instr.makeInterface t v'):=by
 unfold Instr.makeInterface;refine aq.bnd (aM t) (λκ2 d d' hle2 hd=>?_);obtain⟨rfl,h2⟩:=hd;cases d'<;>first | exact aq.halt | exact aq.ret (.iface t v v' (h.mono hle2))
theorem pN{P:Program}{base:Nat->Prop}{ι:am}{r r':Option Value}(t:TypeId)(h:jG ι r r'):aq P base VV ι (Instr.makeMap t r) (Instr.makeMap t r'):=by
  have new:∀ κ:am,aq P base VV κ (do pure (Value.map (some (← Go.newObj (.map #[] 0))))) (do pure (Value.map (some (← Go.newObj (.map #[] 0))))):=by
    intro κ;unfold Go.newObj;exact aq.bnd (R:=λκ id b=>κ id=some b) (aq.new ⟨#[],rfl,rfl,λi e e' h=>by simp at h⟩ (λκ id b hle hb hg=>aq.pure hb)) (λκ id b hle hb=>aq.ret (.map id b hb))
  unfold Instr.makeMap;cases r with
  | none =>
    cases r' with
    | none=>exact new ι
    | some v=>exact h.elim
  | some v =>
    cases r' with
    | none=>exact h.elim
    | some v' =>
      dsimp only;refine aq.bnd (aM t) (λκ2 d d' hle2 hd=>?_);obtain⟨rfl,h2⟩:=hd;cases d' with
      | map k e =>
        dsimp only;exact aq.bnd (oY (ao.mono hle2 h)) (λκ3 _ _ _ _=>new κ3)
      | _=>exact aq.halt
end Go.Ev
