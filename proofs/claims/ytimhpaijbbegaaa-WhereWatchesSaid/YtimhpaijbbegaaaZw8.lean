/- Part of a proof: see the last text. -/
import Derived.Test.YtimhpaijbbegaaaZw7
namespace Go.Ev
open Go.RowKit
set_option linter.unusedVariables false
set_option linter.unusedSimpArgs false
set_option linter.unusedSectionVars false
variable [Sig]
def flatN:Nat→Value→Bool
 | _,.bool _ | _,.int _ _ | _,.float _ _ | _,.string _ | _,.pointer none | _,.slice none 0 0 | _,.map none | _,.nilFunc | _,.nilIface=>true
 | n+1,.iface _ v=>flatN n v
 | n+1,.agg vs=>vs.toList.all (flatN n)
 | n+1,.tuple vs=>vs.toList.all (flatN n)
 | n+1,.func (.func _) f c=>f.isEmpty && c.isEmpty
 | _,_=>false
theorem flat_refl (ι:Ren) : ∀ (n:Nat) (v:Value),flatN n v=true→VRel ι v v:=by
 intro n
 induction n with
 | zero =>
  intro v h
  cases v with
  | bool b=>exact .bool b
  | int k n=>exact .int k n
  | float k b=>exact .float k b
  | string s=>exact .string s
  | complex k a b=>simp [flatN] at h
  | pointer a=>cases a with | none=>exact .ptr0 | some a=>simp [flatN] at h
  | slice a n c =>
   cases a with
   | none =>
    match n,c with
    | 0,0=>exact .slice0
    | 0,c+1=>simp [flatN] at h
    | n+1,c=>simp [flatN] at h
   | some a=>simp [flatN] at h
  | map r=>cases r with | none=>exact .map0 | some r=>simp [flatN] at h
  | nilFunc=>exact .nilFunc
  | nilIface=>exact .nilIface
  | _=>simp [flatN] at h
 | succ n ih =>
  intro v h
  cases v with
  | bool b=>exact .bool b
  | int k n=>exact .int k n
  | float k b=>exact .float k b
  | string s=>exact .string s
  | complex k a b=>simp [flatN] at h
  | pointer a=>cases a with | none=>exact .ptr0 | some a=>simp [flatN] at h
  | slice a n c =>
   cases a with
   | none =>
    match n,c with
    | 0,0=>exact .slice0
    | 0,c+1=>simp [flatN] at h
    | n+1,c=>simp [flatN] at h
   | some a=>simp [flatN] at h
  | map r=>cases r with | none=>exact .map0 | some r=>simp [flatN] at h
  | nilFunc=>exact .nilFunc
  | nilIface=>exact .nilIface
  | iface t v=>exact .iface t v v (ih v h)
  | agg vs =>
   refine .agg vs vs rfl (fun i v v' h1 h2=>?_)
   rw [h1] at h2
   cases h2
   simp only [flatN,List.all_eq_true] at h
   exact ih v (h v (by rw [Array.mem_toList_iff]; exact Array.mem_of_getElem? h1))
  | tuple vs =>
   refine .tuple vs vs rfl (fun i v v' h1 h2=>?_)
   rw [h1] at h2
   cases h2
   simp only [flatN,List.all_eq_true] at h
   exact ih v (h v (by rw [Array.mem_toList_iff]; exact Array.mem_of_getElem? h1))
  | func fn f c =>
   cases fn with
   | func g =>
    simp only [flatN,Bool.and_eq_true,Array.isEmpty_iff] at h
    obtain ⟨rfl,rfl⟩:=h
    exact .func _ _ _ _ _ (by intro l e; cases e) rfl rfl (by intro i v v' h; simp at h) (by intro i v v' h; simp at h)
   | _=>simp [flatN] at h
  | chan r=>simp [flatN] at h
theorem arr_eq {f f':Array Value} (hf:f.size=f'.size) (h:∀ (i:Nat) (v v':Value),f[i]? = some v→f'[i]? = some v'→v=v') : f=f':=by
 apply Array.ext hf
 intro i h1 h2
 exact h i _ _ (Array.getElem?_eq_getElem h1) (Array.getElem?_eq_getElem h2)
theorem flat_eq {ι:Ren} : ∀ (n:Nat) (v v':Value),flatN n v=true→VRel ι v v'→v'=v:=by
 intro n
 induction n with
 | zero =>
  intro v v' h r
  cases r <;> first | rfl | simp [flatN] at h
 | succ n ih =>
  intro v v' h r
  cases r with
  | iface t v v' r=>rw [ih v v' h r]
  | agg f f' hf hr =>
   simp only [flatN,List.all_eq_true] at h
   rw [arr_eq hf.symm (fun i a b h1 h2=>ih b a (h b (by rw [Array.mem_toList_iff]; exact Array.mem_of_getElem? h2)) (hr i b a h2 h1))]
  | tuple f f' hf hr =>
   simp only [flatN,List.all_eq_true] at h
   rw [arr_eq hf.symm (fun i a b h1 h2=>ih b a (h b (by rw [Array.mem_toList_iff]; exact Array.mem_of_getElem? h2)) (hr i b a h2 h1))]
  | func fn f f' c c' hy hf hc h1 h2 =>
   cases fn with
   | func g =>
    simp only [flatN,Bool.and_eq_true,Array.isEmpty_iff] at h
    obtain ⟨rfl,rfl⟩:=h
    have e1:f' = #[]:=Array.eq_empty_of_size_eq_zero hf.symm
    have e2:c' = #[]:=Array.eq_empty_of_size_eq_zero hc.symm
    rw [e1,e2]
   | _=>simp [flatN] at h
  | _=>first | rfl | simp [flatN] at h
def qrun {α:Type} (P:Program) : Sem α→Option α
 | .pure a=>some a
 | .choose q k=>if q.forced then qrun P (k 0) else none
 | .program k=>qrun P (k P)
 | .mark _ k=>qrun P k
 | _=>none
theorem qrun_run {α:Type} {P:Program} (m:Sem α) : ∀ a,qrun P m=some a→∀ w,m.run P w=.ok a w:=by
 induction m with
 | pure a=>intro b h w; cases h; rfl
 | choose q k ih =>
  intro b h w
  simp only [qrun] at h
  split at h
  ·rename_i hf
   simp only [Sem.run,hf,if_true]
   exact ih 0 b h w
  ·cases h
 | program k ih=>intro b h w; exact ih P b h w
 | mark m k ih=>intro b h w; exact ih b h w
 | _=>intro b h w; cases h
def NRel (P:Program) (ι:Ren) : Next→Next→Prop
 | .value v,.value v'=>VRel ι v v'
 | .skip,.skip=>True
 | .enter f args,.enter f' args'=>f=f'∧ARel ι args args'
 | .round l _ tmps assign body,.round l' _ tmps' assign' body'=>ι l=some l'∧ARel ι tmps tmps'∧assign=assign'∧body=body'∧CodeOK P assign∧CodeOK P body
 | _,_=>False
inductive DRel (ι:Ren) : List Deferred→List Deferred→Prop
 | nil:DRel ι [] []
 | cons (r r':Nat) (l l':List Deferred) (h:ι r=some r') (t:DRel ι l l') : DRel ι ({ target:=.collected r,args:=#[] }::l) ({ target:=.collected r',args:=#[] }::l')
theorem DRel.mono {ι κ:Ren} (hk:RLe ι κ) {l l':List Deferred} (h:DRel ι l l') : DRel κ l l':=by
 induction h with
 | nil=>exact .nil
 | cons r r' l l' h t ih=>exact .cons r r' l l' (hk _ _ h) ih
theorem DRel.append {ι:Ren} {l l' m m':List Deferred} (h:DRel ι l l') (k:DRel ι m m') : DRel ι (l++m) (l'++m'):=by
 induction h with
 | nil=>exact k
 | cons r r' l l' h t ih=>exact .cons r r' _ _ h ih
structure ActRel (ι:Ren) (a A:Act) : Prop where
 tmps:ARel ι a.tmps A.tmps
 dfs:DRel ι a.defers A.defers
theorem undef_rel (ι:Ren) : VRel ι undef undef:=.tuple _ _ rfl (by intro i v v' h; simp at h)
def opdOk:Operand→Bool
 | .tmp _=>true
 | .const v=>flatN 5 v
 | .global _=>false
 | .func _=>true
theorem eval_rel {ι:Ren} {a A:Act} (h:ActRel ι a A) (x:Operand) (hx:opdOk x=true) : VRel ι (a.eval x) (A.eval x):=by
 cases x with
 | tmp t =>
  show VRel ι (a.tmps.getD t undef) (A.tmps.getD t undef)
  by_cases hlt:t < a.tmps.size
  ·have h2:t < A.tmps.size:=by rw [← h.tmps.1]; exact hlt
   rw [Array.getD_eq_getD_getElem?,Array.getD_eq_getD_getElem?,Array.getElem?_eq_getElem hlt,Array.getElem?_eq_getElem h2]
   exact h.tmps.2 t _ _ (Array.getElem?_eq_getElem hlt) (Array.getElem?_eq_getElem h2)
  ·have h2:¬ t < A.tmps.size:=by rw [← h.tmps.1]; exact hlt
   rw [Array.getD_eq_getD_getElem?,Array.getD_eq_getD_getElem?,Array.getElem?_eq_none (Nat.le_of_not_lt hlt),Array.getElem?_eq_none (Nat.le_of_not_lt h2)]
   exact undef_rel ι
 | const v=>exact flat_refl ι 5 v hx
 | global g=>cases hx
 | func f=>exact .func _ _ _ _ _ (by intro l e; cases e) rfl rfl (by intro i v v' h; simp at h) (by intro i v v' h; simp at h)
theorem Sim.bnd {α β γ δ:Type} {P:Program} {base:Nat→Prop} {R:Ren→α→β→Prop} {R':Ren→γ→δ→Prop} {ι:Ren} {m:Sem α} {m':Sem β} {f:α→Sem γ} {f':β→Sem δ}
  (h:Sim P base R ι m m') (hf:∀ κ a b,RLe ι κ→R κ a b→Sim P base R' κ (f a) (f' b)) : Sim P base R' ι (m >>= f) (m' >>= f'):=Sim.bind h hf
theorem Sim.ret {α β:Type} {P:Program} {base:Nat→Prop} {R:Ren→α→β→Prop} {ι:Ren} {a:α} {b:β} (h:R ι a b) : Sim P base R ι (Pure.pure a) (Pure.pure b):=Sim.pure h
theorem Sim.stuck {α β:Type} {P:Program} {base:Nat→Prop} {R:Ren→α→β→Prop} {ι:Ren} {s:String} {m':Sem β} : Sim P base R ι (Go.stuck s:Sem α) m':=Sim.halt
theorem Sim.mono {α β:Type} {P:Program} {base:Nat→Prop} {R R':Ren→α→β→Prop} {ι:Ren} {m:Sem α} {m':Sem β} (h:Sim P base R ι m m') (hr:∀ κ a b,R κ a b→R' κ a b) : Sim P base R' ι m m':=by
 intro s w a s1 x y z
 obtain ⟨κ,b,w1,r1,p1,e1,q1,k1⟩:=h s w a s1 x y z
 exact ⟨κ,b,w1,r1,p1,e1,hr _ _ _ q1,k1⟩
theorem sim_underlying {P:Program} {base:Nat→Prop} {ι:Ren} (t:TypeId) : Sim P base (fun _ d d'=>d'=d∧P.underlying t=some d) ι (Go.underlying t) (Go.underlying t):=by
 unfold Go.underlying
 refine Sim.program ?_
 show Sim P base _ ι (match P.underlying t with | some d=>Pure.pure d | none=>Go.stuck "no such type") (match P.underlying t with | some d=>Pure.pure d | none=>Go.stuck "no such type")
 cases h:P.underlying t with
 | none=>exact Sim.halt
 | some d=>exact Sim.ret ⟨rfl,rfl⟩
theorem sim_typeInfo {P:Program} {base:Nat→Prop} {ι:Ren} (t:TypeId) : Sim P base (fun _ d d'=>d'=d∧P.info? t=some d) ι (Go.typeInfo t) (Go.typeInfo t):=by
 unfold Go.typeInfo
 refine Sim.program ?_
 show Sim P base _ ι (match P.info? t with | some d=>Pure.pure d | none=>Go.stuck "no such type") (match P.info? t with | some d=>Pure.pure d | none=>Go.stuck "no such type")
 cases h:P.info? t with
 | none=>exact Sim.halt
 | some d=>exact Sim.ret ⟨rfl,rfl⟩
theorem sim_sizeOf {P:Program} {base:Nat→Prop} {ι:Ren} (t:TypeId) : Sim P base (fun _ d d'=>d'=d) ι (Go.sizeOf t) (Go.sizeOf t):=by
 unfold Go.sizeOf
 exact Sim.bnd (sim_typeInfo t) (fun κ a b _ h=>Sim.ret (by rw [h.1]))
theorem sim_isAgg {P:Program} {base:Nat→Prop} {ι:Ren} (t:TypeId) : Sim P base (fun _ d d'=>d'=d) ι (Go.isAgg t) (Go.isAgg t):=by
 unfold Go.isAgg
 refine Sim.bnd (sim_underlying t) (fun κ a b _ h=>?_)
 rw [h.1]
 split <;> exact Sim.ret rfl
def zOk (P:Program) (t:TypeId) : Bool :=
 match P.info? t with
 | some i=>(match i.zero with | some v=>flatN 6 v | none=>true)
 | none=>true
theorem sim_zeroValue {P:Program} {base:Nat→Prop} {ι:Ren} (t:TypeId) (hz:zOk P t=true) : Sim P base (fun κ d d'=>d'=d∧VRel κ d d) ι (Go.zeroValue t) (Go.zeroValue t):=by
 unfold Go.zeroValue
 refine Sim.bnd (sim_typeInfo t) (fun κ a b _ h=>?_)
 obtain ⟨rfl,h2⟩:=h
 unfold zOk at hz
 cases hv:b.zero with
 | none=>exact Sim.halt
 | some v =>
  simp only [h2,hv] at hz
  exact Sim.ret ⟨rfl,flat_refl _ 6 v hz⟩
theorem Addr.add_mk (b off n:Nat) : (⟨b,off,none⟩ : Addr).add n=⟨b,off+n,none⟩:=by
 unfold Addr.add
 split
 ·subst_vars; rfl
 ·rfl
theorem sim_load {P:Program} {base:Nat→Prop} {ι:Ren} {id off b:Nat} (hb:ι id=some b) : Sim P base (fun κ v v'=>VRel κ v v') ι (Go.load ⟨id,off,none⟩) (Go.load ⟨b,off,none⟩) :=
 Sim.load hb (fun v v' h=>Sim.pure h)
theorem ARel.push {ι:Ren} {f f':Array Value} {v v':Value} (h:ARel ι f f') (hv:VRel ι v v') : ARel ι (f.push v) (f'.push v'):=by
 refine ⟨by simp [h.1],fun i x x' h1 h2=>?_⟩
 rw [Array.getElem?_push] at h1 h2
 rw [h.1] at h1
 by_cases e:i=f'.size
 ·rw [if_pos e] at h1 h2; cases h1; cases h2; exact hv
 ·rw [if_neg e] at h1 h2; exact h.2 i x x' h1 h2
theorem ARel.empty (ι:Ren) : ARel ι #[] #[]:=⟨rfl,fun i v v' h=>by simp at h⟩
theorem sim_loadCellsFrom {P:Program} {base:Nat→Prop} {id off b:Nat} : ∀ (n i:Nat) (ι:Ren) (acc acc':Array Value),ι id=some b→ARel ι acc acc' →
  Sim P base (fun κ v v'=>ARel κ v v') ι (Go.loadCellsFrom ⟨id,off,none⟩ i n acc) (Go.loadCellsFrom ⟨b,off,none⟩ i n acc'):=by
 intro n
 induction n with
 | zero=>intro i ι acc acc' hb ha; exact Sim.ret ha
 | succ n ih =>
  intro i ι acc acc' hb ha
  simp only [Go.loadCellsFrom,Addr.add_mk]
  exact Sim.bnd (sim_load hb) (fun κ v v' hle hv=>ih (i+1) κ _ _ (hle _ _ hb) ((ha.mono hle).push hv))
theorem sim_loadVar {P:Program} {base:Nat→Prop} {ι:Ren} {id off b:Nat} (t:TypeId) (hb:ι id=some b) : Sim P base (fun κ v v'=>VRel κ v v') ι (Go.loadVar t ⟨id,off,none⟩) (Go.loadVar t ⟨b,off,none⟩):=by
 unfold Go.loadVar
 refine Sim.bnd (sim_isAgg t) (fun κ x y hle hx=>?_)
 rw [hx]
 split
 ·refine Sim.bnd (sim_sizeOf t) (fun κ2 n n' hle2 hn=>?_)
  rw [hn]
  exact Sim.bnd (sim_loadCellsFrom n 0 κ2 #[] #[] (hle2 _ _ (hle _ _ hb)) (ARel.empty κ2)) (fun κ3 v v' _ hv=>Sim.ret (.agg v v' hv.1 hv.2))
 ·exact sim_load (hle _ _ hb)
def LRel (ι:Ren) (l l':List Value) : Prop:=l.length=l'.length∧∀ (i:Nat) (v v':Value),l[i]? = some v→l'[i]? = some v'→VRel ι v v'
theorem LRel.mono {ι κ:Ren} (hk:RLe ι κ) {f f':List Value} (h:LRel ι f f') : LRel κ f f':=⟨h.1,fun i v v' a b=>(h.2 i v v' a b).mono hk⟩
theorem ARel.list {ι:Ren} {f f':Array Value} (h:ARel ι f f') : LRel ι f.toList f'.toList:=⟨by simpa using h.1,fun i v v' h1 h2=>h.2 i v v' (by simpa using h1) (by simpa using h2)⟩
theorem sim_storeCells {P:Program} {base:Nat→Prop} {id off b:Nat} : ∀ (l l':List Value) (i:Nat) (ι:Ren),ι id=some b→LRel ι l l' →
  Sim P base (fun κ _ _=>True) ι (Go.storeCells ⟨id,off,none⟩ l i) (Go.storeCells ⟨b,off,none⟩ l' i):=by
 intro l
 induction l with
 | nil =>
  intro l' i ι hb h
  have:l'=[]:=List.eq_nil_of_length_eq_zero h.1.symm
  subst this
  exact Sim.ret trivial
 | cons v l ih =>
  intro l' i ι hb h
  cases l' with
  | nil=>simp [LRel] at h
  | cons v' l' =>
   simp only [Go.storeCells,Addr.add_mk]
   refine Sim.bnd (R:=fun _ _ _=>True) (Sim.store hb (h.2 0 v v' rfl rfl) (Sim.pure trivial)) (fun κ _ _ hle _=>?_)
   exact ih l' (i+1) κ (hle _ _ hb) ⟨by simpa using h.1,fun j x x' h1 h2=>(h.2 (j+1) x x' h1 h2).mono hle⟩
theorem cells_rel {ι:Ren} {v v':Value} (h:VRel ι v v') : ARel ι v.cells v'.cells:=by
 have one:∀ {x x':Value},VRel ι x x'→ARel ι #[x] #[x']:=by
  intro x x' hx
  refine ⟨rfl,fun i y y' h1 h2=>?_⟩
  match i with
  | 0=>simp at h1 h2; subst h1; subst h2; exact hx
  | i+1=>simp at h1
 cases h with
 | agg f f' hf hr=>exact ⟨hf,hr⟩
 | bool b=>exact one (.bool b)
 | int k n=>exact one (.int k n)
 | float k n=>exact one (.float k n)
 | sym n m _ h =>
  have hl:=Sig.leaf n
  rw [h] at hl
  have hc:v'.cells = #[v']:=by cases v' <;> first | rfl | cases hl
  rw [hc]
  exact one (.sym n m v' h)
 | dyn id c _ h h' =>
  have hl:=dec_leaf c
  rw [h'] at hl
  have hc:v'.cells = #[v']:=by cases v' <;> first | rfl | cases hl
  rw [hc]
  exact one (.dyn id c v' h h')
 | junk n v' h =>
  have hc:v'.cells = #[v']:=by cases v' <;> first | rfl | cases h
  rw [hc]
  exact one (.junk n v' h)
 | dyn3 id c j _ h h' =>
  have hl:=subV_leaf j (dec c)
  rw [h'] at hl
  have hc:v'.cells = #[v']:=by cases v' <;> first | rfl | cases hl
  rw [hc]
  exact one (.dyn3 id c j v' h h')
 | string s=>exact one (.string s)
 | ptr0=>exact one .ptr0
 | ptr id off b h=>exact one (.ptr id off b h)
 | slice0=>exact one .slice0
 | slice id off b n c c' h h0 h1 h2 h3=>exact one (.slice id off b n c c' h h0 h1 h2 h3)
 | sliceE id off b h h0=>exact one (.sliceE id off b h h0)
 | map0=>exact one .map0
 | map id b h=>exact one (.map id b h)
 | func fn f f' c c' hy hf hc h h'=>exact one (.func fn f f' c c' hy hf hc h h')
 | yield id b h=>exact one (.yield id b h)
 | nilFunc=>exact one .nilFunc
 | iface t v v' h=>exact one (.iface t v v' h)
 | nilIface=>exact one .nilIface
 | tuple f f' hf h=>exact one (.tuple f f' hf h)
theorem sim_storeVar {P:Program} {base:Nat→Prop} {ι:Ren} {id off b:Nat} {v v':Value} (t:TypeId) (hb:ι id=some b) (hv:VRel ι v v') : Sim P base (fun _ _ _=>True) ι (Go.storeVar t ⟨id,off,none⟩ v) (Go.storeVar t ⟨b,off,none⟩ v'):=by
 unfold Go.storeVar
 refine Sim.bnd (sim_sizeOf t) (fun κ n n' hle hn=>?_)
 rw [hn]
 have hc:=cells_rel (hv.mono hle)
 rw [← hc.1]
 split
 ·exact Sim.halt
 ·exact sim_storeCells _ _ 0 κ (hle _ _ hb) hc.list
theorem sim_newRow {P:Program} {base:Nat→Prop} {ι:Ren} {c c':Array Value} (e:TypeId) (h:ARel ι c c') :
  Sim P base (fun κ a a'=>∃ id b,a=⟨id,0,none⟩∧a'=⟨b,0,none⟩∧κ id=some b∧gro id=false) ι (Go.newRow e c) (Go.newRow e c'):=by
 unfold Go.newRow Go.newObj
 refine Sim.bnd (R:=fun κ id b=>κ id=some b∧gro id=false) (Sim.new ⟨rfl,c',rfl,Nat.le_of_eq h.1,fun _=>h.1,h.2,fun g=>by cases g⟩ (fun κ id b hle hb hg=>Sim.pure ⟨hb,hg⟩)) (fun κ id b hle hb=>Sim.ret ⟨id,b,rfl,rfl,hb.1,hb.2⟩)
theorem sim_newVar {P:Program} {base:Nat→Prop} {ι:Ren} {v v':Value} (e:TypeId) (h:VRel ι v v') :
  Sim P base (fun κ a a'=>∃ id b,a=⟨id,0,none⟩∧a'=⟨b,0,none⟩∧κ id=some b∧gro id=false) ι (Go.newVar e v) (Go.newVar e v') :=
 sim_newRow e (cells_rel h)
theorem sim_sureAddr {P:Program} {base:Nat→Prop} {ι:Ren} {v v':Value} (h:VRel ι v v') :
  Sim P base (fun κ a a'=>∃ id off b,a=⟨id,off,none⟩∧a'=⟨b,off,none⟩∧κ id=some b) ι (Instr.sureAddr v) (Instr.sureAddr v'):=by
 cases h with
 | ptr id off b h=>exact Sim.ret ⟨id,off,b,rfl,rfl,h⟩
 | _=>exact Sim.halt
theorem sim_loadAt {P:Program} {base:Nat→Prop} {ι:Ren} {v v':Value} (t:TypeId) (h:VRel ι v v') : Sim P base (fun κ v v'=>VRel κ v v') ι (Instr.loadAt t v) (Instr.loadAt t v'):=by
 unfold Instr.loadAt
 refine Sim.bnd (sim_sureAddr h) (fun κ a a' hle ha=>?_)
 obtain ⟨id,off,b,rfl,rfl,hb⟩:=ha
 exact sim_loadVar t hb
theorem sim_storeAt {P:Program} {base:Nat→Prop} {ι:Ren} {v v' x x':Value} (t:TypeId) (h:VRel ι v v') (hx:VRel ι x x') : Sim P base (fun _ _ _=>True) ι (Instr.storeAt t v x) (Instr.storeAt t v' x'):=by
 unfold Instr.storeAt
 refine Sim.bnd (sim_sureAddr h) (fun κ a a' hle ha=>?_)
 obtain ⟨id,off,b,rfl,rfl,hb⟩:=ha
 exact sim_storeVar t hb (hx.mono hle)
theorem sim_box {P:Program} {base:Nat→Prop} {ι:Ren} {v v':Value} (t:TypeId) (h:VRel ι v v') : Sim P base (fun κ v v'=>VRel κ v v') ι (Instr.box t v) (Instr.box t v'):=by
 unfold Instr.box
 refine Sim.bnd (sim_newVar t h) (fun κ a a' hle ha=>?_)
 obtain ⟨id,b,rfl,rfl,hb,_⟩:=ha
 exact Sim.ret (.ptr id 0 b hb)
theorem sim_alloc {P:Program} {base:Nat→Prop} {ι:Ren} (t:TypeId) (hz:zOk P t=true) : Sim P base (fun κ v v'=>VRel κ v v') ι (Instr.alloc t true (.tuple #[])) (Instr.alloc t true (.tuple #[])):=by
 unfold Instr.alloc
 refine Sim.bnd (sim_zeroValue t hz) (fun κ a a' hle ha=>?_)
 obtain ⟨rfl,hv⟩:=ha
 refine Sim.bnd (sim_newVar t hv) (fun κ a a' hle ha=>?_)
 obtain ⟨id,b,rfl,rfl,hb,_⟩:=ha
 exact Sim.ret (.ptr id 0 b hb)
end Go.Ev
namespace Go.Ev
open Go.RowKit
set_option linter.unusedVariables false
set_option linter.unusedSimpArgs false
set_option linter.unusedSectionVars false
variable [Sig]
abbrev VV:Ren→Value→Value→Prop:=fun κ v v'=>VRel κ v v'
def fldOk (P:Program) (s:TypeId) (f:Nat) : Bool :=
 match P.underlying s with
 | some (.struct fields) =>
  match fields[f]? with
  | some fd=>(match P.info? fd.type with | some i=>i.size != 0 | none=>true)
  | none=>true
 | _=>true
theorem sim_fieldPlace {P:Program} {base:Nat→Prop} {ι:Ren} {id off b:Nat} (f:Field) (hb:ι id=some b) (hz:(match P.info? f.type with | some i=>i.size != 0 | none=>true)=true) :
  Sim P base (fun κ a a'=>∃ off,a=⟨id,off,none⟩∧a'=⟨b,off,none⟩∧κ id=some b) ι (Go.fieldPlace ⟨id,off,none⟩ f) (Go.fieldPlace ⟨b,off,none⟩ f):=by
 unfold Go.fieldPlace Go.sizeOf
 simp only [bind_assoc,pure_bind]
 refine Sim.bnd (sim_typeInfo f.type) (fun κ i i' hle hi=>?_)
 obtain ⟨rfl,h2⟩:=hi
 simp only [h2,bne_iff_ne,ne_eq] at hz
 rw [if_neg hz,if_neg hz,Addr.add_mk,Addr.add_mk]
 exact Sim.ret ⟨_,rfl,rfl,hle _ _ hb⟩
theorem sim_fieldAt {P:Program} {base:Nat→Prop} {ι:Ren} {v v':Value} (s:TypeId) (f:Nat) (h:VRel ι v v') (hz:fldOk P s f=true) : Sim P base VV ι (Instr.fieldAt s v f) (Instr.fieldAt s v' f):=by
 unfold Instr.fieldAt
 refine Sim.bnd (sim_underlying s) (fun κ d d' hle hd=>?_)
 obtain ⟨rfl,h2⟩:=hd
 cases d' with
 | struct fields =>
  dsimp only
  cases hf:fields[f]? with
  | none=>exact Sim.halt
  | some fd =>
   dsimp only
   refine Sim.bnd (sim_sureAddr (h.mono hle)) (fun κ2 a a' hle2 ha=>?_)
   obtain ⟨id,off,b,rfl,rfl,hb⟩:=ha
   unfold fldOk at hz
   simp only [h2,hf] at hz
   refine Sim.bnd (sim_fieldPlace fd hb hz) (fun κ3 a a' hle3 ha=>?_)
   obtain ⟨off,rfl,rfl,hb3⟩:=ha
   exact Sim.ret (.ptr id off b hb3)
 | _=>exact Sim.halt
theorem sim_asIntOf {P:Program} {base:Nat→Prop} {ι:Ren} {v v':Value} (h:VRel ι v v') : Sim P base (fun _ x y=>y=x) ι (Go.asIntOf v) (Go.asIntOf v'):=by
 cases h <;> first | exact Sim.ret rfl | exact Sim.halt
theorem sim_asInt {P:Program} {base:Nat→Prop} {ι:Ren} {v v':Value} (h:VRel ι v v') : Sim P base (fun _ x y=>y=x) ι (Go.asInt v) (Go.asInt v'):=by
 unfold Go.asInt
 exact Sim.bnd (sim_asIntOf h) (fun κ a b _ e=>Sim.ret (by rw [e]))
theorem sim_asAgg {P:Program} {base:Nat→Prop} {ι:Ren} {v v':Value} (h:VRel ι v v') : Sim P base ARel ι (Go.asAgg v) (Go.asAgg v'):=by
 cases h <;> first | exact Sim.halt | exact Sim.ret ⟨by assumption,by assumption⟩
theorem arun_boundsPanic {α:Type} (P:Program) (k:IntKind) (x y:Int) (c:BoundsCode) (s:St) : arun P (Go.boundsPanic k x y c:Sem α) s=none:=by
 unfold Go.boundsPanic
 have hp:∀ (e:RuntimeError) (s:St),(∀ i c a m,e ≠ .typeAssertion i c a m)→e ≠ .panicNil→arun P (Go.runtimePanic e:Sem α) s=none:=by
  intro e s h1 h2
  cases e with
  | typeAssertion i c a m=>exact (h1 _ _ _ _ rfl).elim
  | panicNil=>exact (h2 rfl).elim
  | _=>rfl
 dsimp only
 split
 ·rfl
 ·refine hp (.bounds (IntKind.i64.wrap x) y (k != IntKind.u64) c) s ?_ ?_
  ·intro i c a m e; cases e
  ·intro e; cases e
theorem Sim.bounds {α β:Type} {P:Program} {base:Nat→Prop} {R:Ren→α→β→Prop} {ι:Ren} {k:IntKind} {x y:Int} {c:BoundsCode} {m':Sem β} : Sim P base R ι (Go.boundsPanic k x y c:Sem α) m':=by
 intro s w a s1 hr ha
 rw [arun_boundsPanic] at ha
 cases ha
def BRel (κ:Ren) (p p':Option Addr×Nat×TypeId) : Prop:=p'.2=p.2∧(p.1=none∧p'.1=none∨∃ id off b,p.1=some ⟨id,off,none⟩∧p'.1=some ⟨b,off,none⟩∧κ id=some b)
theorem sim_indexAt {P:Program} {base:Nat→Prop} {ι:Ren} {v v' x x':Value} (t:TypeId) (h:VRel ι v v') (hx:VRel ι x x') : Sim P base VV ι (Instr.indexAt t v x) (Instr.indexAt t v' x'):=by
 unfold Instr.indexAt
 refine Sim.bnd (sim_asIntOf hx) (fun κ a a' hle ha=>?_)
 subst ha
 obtain ⟨k,i⟩:=a'
 dsimp only
 refine Sim.bnd (sim_underlying t) (fun κ2 d d' hle2 hd=>?_)
 obtain ⟨rfl,h2⟩:=hd
 have hv:=(h.mono hle).mono hle2
 have hend:∀ (κ:Ren) (p p':Option Addr×Nat×TypeId),BRel κ p p'→∀ d d':TypeDesc,d'=d→Sim P base VV κ
   (match p.fst with
    | some a =>
     if 0≤i∧i < ↑p.2.fst then do
      let n ← sizeOf p.2.snd
      pure (Value.pointer (some (a.add (i.toNat * n))))
     else
      if (decide (p.2.fst≤1) && match d with | TypeDesc.array len elem=>true | x=>false)=true then
       unsupported (Unsupported.noEntry "op/indexAddr.an index out of range at an array of length 0 or 1 (ledger 616)")
      else boundsPanic k i (↑p.2.fst) BoundsCode.index
    | none=>boundsPanic k i 0 BoundsCode.index)
   (match p'.fst with
    | some a =>
     if 0≤i∧i < ↑p'.2.fst then do
      let n ← sizeOf p'.2.snd
      pure (Value.pointer (some (a.add (i.toNat * n))))
     else
      if (decide (p'.2.fst≤1) && match d' with | TypeDesc.array len elem=>true | x=>false)=true then
       unsupported (Unsupported.noEntry "op/indexAddr.an index out of range at an array of length 0 or 1 (ledger 616)")
      else boundsPanic k i (↑p'.2.fst) BoundsCode.index
    | none=>boundsPanic k i 0 BoundsCode.index):=by
  rintro κ ⟨ba,len,elem⟩ ⟨ba',len',elem'⟩ ⟨he,hp⟩ d d' rfl
  cases he
  dsimp only at hp ⊢
  rcases hp with ⟨rfl,rfl⟩ | ⟨id,off,b,rfl,rfl,hb⟩
  ·exact Sim.bounds
  ·dsimp only
   split
   ·refine Sim.bnd (sim_sizeOf _) (fun κ4 n n' hle4 hn=>?_)
    rw [hn,Addr.add_mk,Addr.add_mk]
    exact Sim.ret (.ptr id _ b (hle4 _ _ hb))
   ·by_cases hq:(decide (len≤1) && match d' with | TypeDesc.array len elem=>true | x=>false)=true
    ·rw [if_pos hq]; exact Sim.halt
    ·rw [if_neg hq]; exact Sim.bounds
 have hbe:∀ (κ κ':Ren) (p p':Option Addr×Nat×TypeId),RLe κ κ'→BRel κ p p'→BRel κ' p p':=by
  rintro κ κ' p p' hle ⟨h1,h2⟩
  refine ⟨h1,?_⟩
  rcases h2 with h2 | ⟨id,off,b,e1,e2,e3⟩
  ·exact .inl h2
  ·exact .inr ⟨id,off,b,e1,e2,hle _ _ e3⟩
 cases d' with
 | array len elem =>
  dsimp only
  refine Sim.bnd (sim_sureAddr hv) (fun κ3 a a' hle3 ha=>?_)
  obtain ⟨id,off,b,rfl,rfl,hb⟩:=ha
  refine Sim.bnd (R:=BRel) (Sim.ret ⟨rfl,.inr ⟨id,off,b,rfl,rfl,hb⟩⟩) (fun κ4 p p' hle4 hp=>?_)
  exact Sim.bnd (sim_underlying t) (fun κ5 d d' hle5 hd=>hend κ5 p p' (hbe _ _ _ _ hle5 hp) d d' hd.1)
 | slice elem =>
  cases hv with
  | slice0 =>
   dsimp only
   refine Sim.bnd (R:=BRel) (Sim.ret ⟨rfl,.inl ⟨rfl,rfl⟩⟩) (fun κ4 p p' hle4 hp=>?_)
   exact Sim.bnd (sim_underlying t) (fun κ5 d d' hle5 hd=>hend κ5 p p' (hbe _ _ _ _ hle5 hp) d d' hd.1)
  | slice id off b n c c' hh h0 h1 h2 h3 =>
   dsimp only
   refine Sim.bnd (R:=BRel) (Sim.ret ⟨rfl,.inr ⟨id,off,b,rfl,rfl,hh⟩⟩) (fun κ4 p p' hle4 hp=>?_)
   exact Sim.bnd (sim_underlying t) (fun κ5 d d' hle5 hd=>hend κ5 p p' (hbe _ _ _ _ hle5 hp) d d' hd.1)
  | sliceE id off b hh h0 =>
   dsimp only
   refine Sim.bnd (R:=BRel) (Sim.ret ⟨rfl,.inr ⟨id,off,b,rfl,rfl,hh⟩⟩) (fun κ4 p p' hle4 hp=>?_)
   exact Sim.bnd (sim_underlying t) (fun κ5 d d' hle5 hd=>hend κ5 p p' (hbe _ _ _ _ hle5 hp) d d' hd.1)
  | _=>exact Sim.halt
 | _=>exact Sim.halt
theorem sim_sliceBound {P:Program} {base:Nat→Prop} {ι:Ren} {x x':Value} {y y':Nat} {c:BoundsCode} (hx:VRel ι x x') (hy:y≤y') : Sim P base (fun _ n n'=>n'=n∧n≤y) ι (Instr.sliceBound x y c) (Instr.sliceBound x' y' c):=by
 unfold Instr.sliceBound
 refine Sim.bnd (sim_asIntOf hx) (fun κ a a' hle ha=>?_)
 subst ha
 obtain ⟨k,i⟩:=a'
 dsimp only
 by_cases h:0≤i∧i≤y
 ·rw [if_pos h,if_pos (by omega)]
  exact Sim.ret ⟨rfl,by omega⟩
 ·rw [if_neg h]
  exact Sim.bounds
def OVRel (ι:Ren) : Option Value→Option Value→Prop
 | none,none=>True
 | some v,some v'=>VRel ι v v'
 | _,_=>False
theorem OVRel.mono {ι κ:Ren} (hk:RLe ι κ) {v v':Option Value} (h:OVRel ι v v') : OVRel κ v v':=by
 cases v <;> cases v' <;> first | exact h | exact VRel.mono hk h
theorem sim_low {P:Program} {base:Nat→Prop} {ι:Ren} {lo lo':Option Value} {h m m':Nat} {c:BoundsCode} : OVRel ι lo lo' →
  Sim P base (fun _ (p p':Nat×Nat×Nat)=>p'.1=p.1∧p'.2.1=p.2.1∧p.2.2=m∧p'.2.2=m'∧p.1≤p.2.1∧p.2.1=h) ι
   (match lo with
    | some v=>do
     let l ← Instr.sliceBound v h c
     pure (l,h,m)
    | none=>do
     let l ← pure 0
     pure (l,h,m))
   (match lo' with
    | some v=>do
     let l ← Instr.sliceBound v h c
     pure (l,h,m')
    | none=>do
     let l ← pure 0
     pure (l,h,m')):=by
 intro hlo
 cases lo with
 | none =>
  cases lo' with
  | none=>exact Sim.ret ⟨rfl,rfl,rfl,rfl,Nat.zero_le _,rfl⟩
  | some v=>exact hlo.elim
 | some v =>
  cases lo' with
  | none=>exact hlo.elim
  | some v'=>exact Sim.bnd (sim_sliceBound hlo (Nat.le_refl h)) (fun κ l l' _ hl=>Sim.ret ⟨hl.1,rfl,rfl,rfl,hl.2,rfl⟩)
theorem sim_sliceBounds {P:Program} {base:Nat→Prop} {ι:Ren} {lo lo' hi hi' mx mx':Option Value} {sl:Bool} {len cap cap':Nat} (hlo:OVRel ι lo lo') (hhi:OVRel ι hi hi') (hmx:OVRel ι mx mx') (hc:cap≤cap') (hl:len≤cap) (hm:mx=none∨cap=cap') :
  Sim P base (fun _ (p p':Nat×Nat×Nat)=>p'.1=p.1∧p'.2.1=p.2.1∧(p.2.2=cap∧p'.2.2=cap'∨p'.2.2=p.2.2∧p.2.2≤cap∧cap=cap'∧mx.isSome=true)∧p.1≤p.2.1∧p.2.1≤p.2.2) ι (Instr.sliceBounds sl len cap lo hi mx) (Instr.sliceBounds sl len cap' lo' hi' mx'):=by
 unfold Instr.sliceBounds
 cases mx with
 | none =>
  cases mx' with
  | some v=>exact hmx.elim
  | none =>
   dsimp only
   refine Sim.bnd (R:=fun _ m m'=>m=cap∧m'=cap') (Sim.ret ⟨rfl,rfl⟩) (fun κ m m' hle h=>?_)
   obtain ⟨rfl,rfl⟩:=h
   cases hi with
   | none =>
    cases hi' with
    | some v=>exact hhi.elim
    | none =>
     dsimp only
     refine Sim.bnd (R:=fun _ h h'=>h=len∧h'=len) (Sim.ret ⟨rfl,rfl⟩) (fun κ2 h h' hle2 e=>?_)
     obtain ⟨rfl,rfl⟩:=e
     exact Sim.mono (sim_low ((hlo.mono hle).mono hle2)) (fun κ p p' ⟨a,b,c,d,e,f⟩=>⟨a,b,.inl ⟨c,d⟩,e,by omega⟩)
   | some v =>
    cases hi' with
    | none=>exact hhi.elim
    | some v' =>
     dsimp only
     refine Sim.bnd (sim_sliceBound (VRel.mono hle hhi) hc) (fun κ2 h h' hle2 e=>?_)
     obtain ⟨rfl,hh⟩:=e
     exact Sim.mono (sim_low ((hlo.mono hle).mono hle2)) (fun κ p p' ⟨a,b,c,d,e,f⟩=>⟨a,b,.inl ⟨c,d⟩,e,by omega⟩)
 | some x =>
  cases mx' with
  | none=>exact hmx.elim
  | some x' =>
   obtain rfl:cap=cap':=by rcases hm with h | h; cases h; exact h
   dsimp only
   refine Sim.bnd (sim_sliceBound hmx (Nat.le_refl cap)) (fun κ m m' hle h=>?_)
   obtain ⟨rfl,hmc⟩:=h
   cases hi with
   | none=>exact Sim.halt
   | some v =>
    cases hi' with
    | none=>exact hhi.elim
    | some v' =>
     dsimp only
     refine Sim.bnd (sim_sliceBound (VRel.mono hle hhi) (Nat.le_refl m')) (fun κ2 h h' hle2 e=>?_)
     obtain ⟨rfl,hh⟩:=e
     exact Sim.mono (sim_low ((hlo.mono hle).mono hle2)) (fun κ p p' ⟨a,b,c,d,e,f⟩=>⟨a,b,.inr ⟨by omega,by omega,rfl,rfl⟩,e,by omega⟩)
def resOk:Value→Bool
 | .slice (some a) _ c=>!gro a.block || decide (0 < c)
 | _=>true
theorem cut_rel {κ:Ren} {id off b l h m m' sz:Nat} (hb:κ id=some b) (h0:gro id=false→m=m') (h1:m≤m') (hcap:gro id=true→off=0→κ (id+1)=some m') (hsz:0 < sz) (hlh:l≤h) (hhm:h≤m)
  (hr:resOk (.slice (some (if m=l then (⟨id,off,none⟩ : Addr) else (⟨id,off,none⟩ : Addr).add (l * sz))) (h - l) (m - l))=true) :
  VRel κ (.slice (some (if m=l then (⟨id,off,none⟩ : Addr) else (⟨id,off,none⟩ : Addr).add (l * sz))) (h - l) (m - l)) (.slice (some (if m'=l then (⟨b,off,none⟩ : Addr) else (⟨b,off,none⟩ : Addr).add (l * sz))) (h - l) (m' - l)):=by
 rw [Addr.add_mk,Addr.add_mk] at *
 by_cases e:m=l
 ·rw [if_pos e] at hr ⊢
  simp only [resOk,Bool.or_eq_true,Bool.not_eq_true',decide_eq_true_eq] at hr
  rcases hr with hr | hr
  ·have:=h0 hr
   subst this
   rw [if_pos e]
   have e1:h - l=0:=by omega
   have e2:m - l=0:=by omega
   rw [e1,e2]
   exact .sliceE id off b hb hr
  ·omega
 ·rw [if_neg e,if_neg (by omega)]
  refine .slice id (off+l * sz) b (h - l) (m - l) (m' - l) hb (fun g=>by rw [h0 g]) (fun g=>⟨by omega,fun e=>?_⟩) (by omega) (by omega)
  have e2:l * sz=0:=by omega
  have e1:off=0:=by omega
  have e3:l=0:=by rcases Nat.mul_eq_zero.1 e2 with e3 | e3; exact e3; omega
  rw [e3,Nat.sub_zero]
  exact hcap g e1
def mxOk (x:Value) (mx:Option Value) : Bool :=
 match mx,x with
 | _,.pointer (some a)=>!gro a.block
 | none,_=>true
 | some _,.slice (some a) _ _=>!gro a.block
 | some _,.slice none _ _=>true
 | some _,_=>false
def szPos (P:Program) (t:TypeId) : Bool :=
 match P.info? t with
 | some i=>i.size != 0
 | none=>true
theorem sim_sizePos {P:Program} {base:Nat→Prop} {ι:Ren} (t:TypeId) (h:szPos P t=true) : Sim P base (fun _ d d'=>d'=d∧0 < d) ι (Go.sizeOf t) (Go.sizeOf t):=by
 unfold Go.sizeOf
 refine Sim.bnd (sim_typeInfo t) (fun κ a b _ hh=>?_)
 obtain ⟨rfl,h2⟩:=hh
 simp only [szPos,h2,bne_iff_ne,ne_eq] at h
 exact Sim.ret ⟨rfl,by omega⟩
def slOk (P:Program) (t:TypeId) : Bool :=
 match P.underlying t with
 | some (.array _ e) | some (.slice e)=>szPos P e
 | some .string=>true
 | _=>false
theorem sim_sliceAt {P:Program} {base:Nat→Prop} {ι:Ren} {x x':Value} {lo lo' hi hi' mx mx':Option Value} (t:TypeId) (hx:VRel ι x x') (hlo:OVRel ι lo lo') (hhi:OVRel ι hi hi') (hmx:OVRel ι mx mx') (hm:mxOk x mx=true) (hs:slOk P t=true) :
    Sim P base (fun κ v v'=>resOk v=true→VRel κ v v') ι (Instr.sliceAt t x lo hi mx) (Instr.sliceAt t x' lo' hi' mx'):=by
  unfold Instr.sliceAt
  refine Sim.bnd (sim_underlying t) (fun κ d d' hle hd=>?_)
  obtain ⟨rfl,h2⟩:=hd
  have harr:∀ (n:Nat) (elem:TypeId),szPos P elem=true→Sim P base (fun κ v v'=>resOk v=true→VRel κ v v') κ
      (do let a ← Instr.sureAddr x
          let p ← Instr.sliceBounds false n n lo hi mx
          let size ← Go.sizeOf elem
          pure (.slice (some (if p.2.2=p.1 then a else a.add (p.1 * size))) (p.2.1 - p.1) (p.2.2 - p.1)))
      (do let a ← Instr.sureAddr x'
          let p ← Instr.sliceBounds false n n lo' hi' mx'
          let size ← Go.sizeOf elem
          pure (.slice (some (if p.2.2=p.1 then a else a.add (p.1 * size))) (p.2.1 - p.1) (p.2.2 - p.1))):=by
    intro n elem hpos
    have hng:∀ id off,x=.pointer (some ⟨id,off,none⟩)→gro id=false:=by
      intro id off e
      subst e
      cases mx <;> simpa [mxOk] using hm
    have hsa:Sim P base (fun κ a a'=>∃ id off b,a=⟨id,off,none⟩∧a'=⟨b,off,none⟩∧κ id=some b∧gro id=false) κ (Instr.sureAddr x) (Instr.sureAddr x'):=by
      have hx1:=hx.mono hle
      cases hx1 with
      | ptr id off b h=>exact Sim.ret ⟨id,off,b,rfl,rfl,h,hng id off rfl⟩
      | _=>exact Sim.halt
    refine Sim.bnd hsa (fun κ2 a a' hle2 ha=>?_)
    obtain ⟨id,off,b,rfl,rfl,hb,hgf⟩:=ha
    refine Sim.bnd (sim_sliceBounds ((hlo.mono hle).mono hle2) ((hhi.mono hle).mono hle2) ((hmx.mono hle).mono hle2) (Nat.le_refl n) (Nat.le_refl n) (.inr rfl)) (fun κ3 p p' hle3 hp=>?_)
    obtain ⟨l,h,m⟩:=p
    obtain ⟨l',h',m'⟩:=p'
    obtain ⟨p1,p2,p3,p4,p5⟩:=hp
    dsimp only at p1 p2 p3 p4 p5 ⊢
    subst p1 p2
    refine Sim.bnd (sim_sizePos elem hpos) (fun κ4 sz sz' hle4 hs=>?_)
    obtain ⟨rfl,hs0⟩:=hs
    exact Sim.ret (fun hr=>cut_rel (hle4 _ _ (hle3 _ _ hb)) (fun _=>by omega) (by omega) (fun g=>by rw [hgf] at g; cases g) hs0 p4 p5 hr)
  have hsl:∀ (elem:TypeId),szPos P elem=true→P.underlying t=some (.slice elem)→Sim P base (fun κ v v'=>resOk v=true→VRel κ v v') κ (Instr.slice t x lo hi mx) (Instr.slice t x' lo' hi' mx'):=by
    intro elem hpos hu
    unfold Instr.slice
    refine Sim.bnd (sim_underlying t) (fun κ2 d d' hle2 hd=>?_)
    obtain ⟨rfl,h3⟩:=hd
    rw [hu] at h3
    cases h3
    have hx2:=(hx.mono hle).mono hle2
    cases hx2 with
    | slice0 =>
      dsimp only
      refine Sim.bnd (sim_sliceBounds ((hlo.mono hle).mono hle2) ((hhi.mono hle).mono hle2) ((hmx.mono hle).mono hle2) (Nat.le_refl 0) (Nat.le_refl 0) (.inr rfl)) (fun κ3 p p' hle3 hp=>?_)
      obtain ⟨l,h,m⟩:=p
      obtain ⟨l',h',m'⟩:=p'
      obtain ⟨p1,p2,p3,p4,p5⟩:=hp
      dsimp only at p1 p2 p3 p4 p5 ⊢
      subst p1 p2
      refine Sim.bnd (sim_sizeOf elem) (fun κ4 sz sz' hle4 hs=>?_)
      subst hs
      obtain ⟨rfl,rfl,rfl,rfl⟩ : m'=0∧m=0∧h'=0∧l'=0:=by omega
      exact Sim.ret (fun hr=>.slice0)
    | slice id off b n c c' hb h0 h1 h2 h3 =>
      dsimp only
      have hcc:c≤c':=by
        cases hg:gro id with
        | false=>exact Nat.le_of_eq (h0 hg)
        | true=>exact (h1 hg).1
      refine Sim.bnd (sim_sliceBounds ((hlo.mono hle).mono hle2) ((hhi.mono hle).mono hle2) ((hmx.mono hle).mono hle2) hcc h3 ?_) (fun κ3 p p' hle3 hp=>?_)
      · cases mx with
        | none=>exact .inl rfl
        | some y =>
          simp only [mxOk,Bool.not_eq_true'] at hm
          exact .inr (h0 hm)
      · obtain ⟨l,h,m⟩:=p
        obtain ⟨l',h',m'⟩:=p'
        obtain ⟨p1,p2,p3,p4,p5⟩:=hp
        dsimp only at p1 p2 p3 p4 p5 ⊢
        subst p1 p2
        refine Sim.bnd (sim_sizePos elem hpos) (fun κ4 sz sz' hle4 hs=>?_)
        obtain ⟨rfl,hs0⟩:=hs
        have e1:(if m=l' then some (⟨id,off,none⟩ : Addr) else (some (⟨id,off,none⟩ : Addr)).map (·.add (l' * sz')))=some (if m=l' then (⟨id,off,none⟩ : Addr) else (⟨id,off,none⟩ : Addr).add (l' * sz')):=by split <;> rfl
        have e2:(if m'=l' then some (⟨b,off,none⟩ : Addr) else (some (⟨b,off,none⟩ : Addr)).map (·.add (l' * sz')))=some (if m'=l' then (⟨b,off,none⟩ : Addr) else (⟨b,off,none⟩ : Addr).add (l' * sz')):=by split <;> rfl
        rw [e1,e2]
        refine Sim.ret (fun hr=>cut_rel (hle4 _ _ (hle3 _ _ hb)) (fun g=>by have:=h0 g; omega) (by omega) (fun g e=>?_) hs0 p4 p5 hr)
        have hm':m'=c':=by
          rcases p3 with p3 | p3
          · exact p3.2
          · cases mx with
            | none=>cases p3.2.2.2
            | some y=>simp only [mxOk,Bool.not_eq_true'] at hm; rw [hm] at g; cases g
        rw [hm']
        exact hle4 _ _ (hle3 _ _ ((h1 g).2 e))
    | sliceE id off b hb h0 =>
      dsimp only
      refine Sim.bnd (sim_sliceBounds ((hlo.mono hle).mono hle2) ((hhi.mono hle).mono hle2) ((hmx.mono hle).mono hle2) (Nat.le_refl 0) (Nat.le_refl 0) (.inr rfl)) (fun κ3 p p' hle3 hp=>?_)
      obtain ⟨l,h,m⟩:=p
      obtain ⟨l',h',m'⟩:=p'
      obtain ⟨p1,p2,p3,p4,p5⟩:=hp
      dsimp only at p1 p2 p3 p4 p5 ⊢
      subst p1 p2
      refine Sim.bnd (sim_sizeOf elem) (fun κ4 sz sz' hle4 hs=>?_)
      subst hs
      obtain ⟨rfl,rfl,rfl,rfl⟩ : m'=0∧m=0∧h'=0∧l'=0:=by omega
      exact Sim.ret (fun hr=>.sliceE id off b (hle4 _ _ (hle3 _ _ hb)) h0)
    | _=>exact Sim.halt
  cases d' with
  | array n elem=>exact harr n elem (by simpa [slOk,h2] using hs)
  | slice elem=>exact hsl elem (by simpa [slOk,h2] using hs) h2
  | string =>
    dsimp only
    unfold Instr.slice
    refine Sim.bnd (sim_underlying t) (fun κ2 d d' hle2 hd=>?_)
    obtain ⟨rfl,h3⟩:=hd
    rw [h2] at h3
    cases h3
    have hx2:=(hx.mono hle).mono hle2
    cases hx2 with
    | string s =>
      dsimp only
      cases mx with
      | some y=>exact Sim.halt
      | none =>
        cases mx' with
        | some y=>exact hmx.elim
        | none =>
          dsimp only [Option.isSome]
          refine Sim.bnd (sim_sliceBounds ((hlo.mono hle).mono hle2) ((hhi.mono hle).mono hle2) (show OVRel κ2 none none from trivial) (Nat.le_refl s.size) (Nat.le_refl s.size) (.inr rfl)) (fun κ3 p p' hle3 hp=>?_)
          obtain ⟨l,h,m⟩:=p
          obtain ⟨l',h',m'⟩:=p'
          obtain ⟨p1,p2,p3,p4,p5⟩:=hp
          dsimp only at p1 p2 ⊢
          subst p1 p2
          exact Sim.ret (fun _=>.string _)
    | _=>exact Sim.halt
  | _=>simp [slOk,h2] at hs
theorem getElem?_set_rel {ι:Ren} {f f':Array Value} {v v':Value} (h:ARel ι f f') (hv:VRel ι v v') (k:Nat) : ARel ι (f.setIfInBounds k v) (f'.setIfInBounds k v'):=by
 refine ⟨by simp [h.1],fun i x x' h1 h2=>?_⟩
 rw [Array.getElem?_setIfInBounds] at h1 h2
 by_cases e:k=i
 ·subst e
  rw [if_pos rfl] at h1 h2
  split at h1
  ·split at h2
   ·cases h1; cases h2; exact hv
   ·cases h2
  ·cases h1
 ·rw [if_neg e] at h1 h2
  exact h.2 i x x' h1 h2
theorem foldl_rel {ι:Ren} (off:Nat) : ∀ (l l':List (Value×Nat)) (f f':Array Value),ARel ι f f'→l.length=l'.length→(∀ (i:Nat) x x',l[i]? = some x→l'[i]? = some x'→VRel ι x.1 x'.1∧x.2=x'.2) →
  ARel ι (l.foldl (fun cs x=>cs.setIfInBounds (off+x.2) x.1) f) (l'.foldl (fun cs x=>cs.setIfInBounds (off+x.2) x.1) f'):=by
 intro l
 induction l with
 | nil =>
  intro l' f f' h hl _
  have:l'=[]:=List.eq_nil_of_length_eq_zero hl.symm
  subst this
  exact h
 | cons x l ih =>
  intro l' f f' h hl hr
  cases l' with
  | nil=>cases hl
  | cons x' l' =>
   have h0:=hr 0 x x' rfl rfl
   refine ih l' _ _ ?_ (by simpa using hl) (fun i y y' h1 h2=>hr (i+1) y y' h1 h2)
   dsimp only
   rw [h0.2]
   exact getElem?_set_rel h h0.1 _
def PRel (ι:Ren) (l l':List (Nat×Value)) : Prop:=l.length=l'.length∧∀ (i:Nat) x x',l[i]? = some x→l'[i]? = some x'→x.1=x'.1∧VRel ι x.2 x'.2
theorem fill_rel {ι:Ren} (place:Nat→Option (Nat×Nat)) : ∀ (l l':List (Nat×Value)) (f f':Array Value),ARel ι f f'→PRel ι l l'→∀ c,Instr.fill place f l=some c→∃ c',Instr.fill place f' l'=some c'∧ARel ι c c':=by
 intro l
 induction l with
 | nil =>
  intro l' f f' h hp c hc
  have:l'=[]:=List.eq_nil_of_length_eq_zero hp.1.symm
  subst this
  cases hc
  exact ⟨f',rfl,h⟩
 | cons x l ih =>
  intro l' f f' h hp c hc
  cases l' with
  | nil=>cases hp.1
  | cons x' l' =>
   obtain ⟨i,v⟩:=x
   obtain ⟨i',v'⟩:=x'
   have h0:=hp.2 0 _ _ rfl rfl
   obtain ⟨e0,hv⟩:=h0
   dsimp only at e0 hv
   subst e0
   have hcs:=cells_rel hv
   simp only [Instr.fill] at hc ⊢
   cases hpl:place i with
   | none=>rw [hpl] at hc; cases hc
   | some os =>
    obtain ⟨off,size⟩:=os
    rw [hpl] at hc
    dsimp only at hc ⊢
    rw [← hcs.1,← h.1]
    split at hc
    ·cases hc
    ·rename_i hcond
     rw [if_neg hcond]
     refine ih l' _ _ ?_ ⟨by simpa using hp.1,fun j y y' h1 h2=>hp.2 (j+1) y y' h1 h2⟩ c hc
     rw [← Array.foldl_toList,← Array.foldl_toList]
     refine foldl_rel off _ _ _ _ h (by simp [hcs.1]) ?_
     intro j y y' h1 h2
     simp only [Array.toList_zipIdx,List.getElem?_zipIdx,Option.map_eq_some_iff] at h1 h2
     obtain ⟨z,z1,z2⟩:=h1
     obtain ⟨z',z1',z2'⟩:=h2
     subst z2 z2'
     exact ⟨hcs.2 j z z' (by simpa using z1) (by simpa using z1'),rfl⟩
end Go.Ev
namespace Go.Ev
open Go.RowKit
set_option linter.unusedVariables false
set_option linter.unusedSimpArgs false
set_option linter.unusedSectionVars false
variable [Sig]
theorem ARel.of_flat {ι:Ren} {f:Array Value} (h:∀ (i:Nat) v,f[i]? = some v→VRel ι v v) : ARel ι f f:=⟨rfl,fun i v v' h1 h2=>by rw [h1] at h2; cases h2; exact h i v h1⟩
theorem sim_mapSizes {P:Program} {base:Nat→Prop} {ι:Ren} (fields:Array Field) :
    Sim P base (fun _ p p'=>p'=p) ι (fields.mapM fun f=>(do pure (f.offset,← Go.sizeOf f.type) : Sem (Nat×Nat))) (fields.mapM fun f=>(do pure (f.offset,← Go.sizeOf f.type) : Sem (Nat×Nat))):=by
  rw [Array.mapM_eq_mapM_toList]
  refine Sim.bnd (R:=fun _ p p'=>p'=p) ?_ (fun κ a b _ h=>by rw [h]; exact Sim.ret rfl)
  generalize fields.toList=l
  induction l generalizing ι with
  | nil=>exact Sim.ret rfl
  | cons f l ih =>
    rw [List.mapM_cons]
    refine Sim.bnd (R:=fun _ p p'=>p'=p) (Sim.bnd (sim_sizeOf f.type) (fun κ a b _ h=>by rw [h]; exact Sim.ret rfl)) (fun κ a b hle h=>?_)
    rw [h]
    exact Sim.bnd ih (fun κ2 a b _ h=>by rw [h]; exact Sim.ret rfl)
theorem sim_build {P:Program} {base:Nat→Prop} {ι:Ren} {ps ps':Array (Nat×Value)} (t:TypeId) (hz:zOk P t=true) (hp:PRel ι ps.toList ps'.toList) : Sim P base VV ι (Instr.build t ps) (Instr.build t ps'):=by
 unfold Instr.build
 refine Sim.bnd (sim_zeroValue t hz) (fun κ v v' hle hv=>?_)
 obtain ⟨rfl,hv⟩:=hv
 dsimp only
 refine Sim.bnd (sim_underlying t) (fun κ2 d d' hle2 hd=>?_)
 obtain ⟨rfl,h2⟩:=hd
 have hp2:PRel κ2 ps.toList ps'.toList:=⟨hp.1,fun i x x' h1 h2=>⟨(hp.2 i x x' h1 h2).1,((hp.2 i x x' h1 h2).2.mono hle).mono hle2⟩⟩
 cases d' with
 | struct fields =>
  dsimp only
  refine Sim.bnd (sim_mapSizes fields) (fun κ3 p p' hle3 hpp=>?_)
  subst hpp
  cases hf:Instr.fill (fun x=>p'[x]?) v'.cells ps.toList with
  | none=>exact Sim.halt
  | some c =>
   have hp3:PRel κ3 ps.toList ps'.toList:=⟨hp2.1,fun i x x' h1 h2=>⟨(hp2.2 i x x' h1 h2).1,(hp2.2 i x x' h1 h2).2.mono hle3⟩⟩
   obtain ⟨c',hc',hr⟩:=fill_rel (ι:=κ3) (fun x=>p'[x]?) ps.toList ps'.toList _ _ (cells_rel ((hv.mono hle2).mono hle3)) hp3 c hf
   rw [hc']
   exact Sim.ret (.agg _ _ hr.1 hr.2)
 | array n elem =>
  dsimp only
  refine Sim.bnd (sim_sizeOf elem) (fun κ3 p p' hle3 hpp=>?_)
  subst hpp
  cases hf:Instr.fill (fun i=>some (i * p',p')) v'.cells ps.toList with
  | none=>exact Sim.halt
  | some c =>
   have hp3:PRel κ3 ps.toList ps'.toList:=⟨hp2.1,fun i x x' h1 h2=>⟨(hp2.2 i x x' h1 h2).1,(hp2.2 i x x' h1 h2).2.mono hle3⟩⟩
   obtain ⟨c',hc',hr⟩:=fill_rel (ι:=κ3) (fun i=>some (i * p',p')) ps.toList ps'.toList _ _ (cells_rel ((hv.mono hle2).mono hle3)) hp3 c hf
   rw [hc']
   exact Sim.ret (.agg _ _ hr.1 hr.2)
 | _=>exact Sim.halt
theorem ARel.zeros {ι:Ren} {zero zero':Array Value} (h:ARel ι zero zero') (n:Nat) (hz:n=0∨0 < zero.size) : ARel ι ((Array.range n).map (zero[· % zero.size]!)) ((Array.range n).map (zero'[· % zero'.size]!)):=by
 refine ⟨by simp,fun i v v' h1 h2=>?_⟩
 simp only [Array.getElem?_map,Option.map_eq_some_iff] at h1 h2
 obtain ⟨a,a1,a2⟩:=h1
 obtain ⟨b,b1,b2⟩:=h2
 rw [a1] at b1
 cases b1
 have hlt:a < n:=by
  have:=Array.mem_of_getElem? a1
  simpa using this
 have hpos:0 < zero.size:=by omega
 have hm:a % zero.size < zero.size:=Nat.mod_lt _ hpos
 have hm':a % zero.size < zero'.size:=by rw [← h.1]; exact hm
 rw [← h.1] at b2
 rw [getElem!_pos zero _ hm] at a2
 rw [getElem!_pos zero' _ hm'] at b2
 exact h.2 (a % zero.size) v v' (by rw [Array.getElem?_eq_getElem hm,a2]) (by rw [Array.getElem?_eq_getElem hm',b2])
def zPos (P:Program) (t:TypeId) : Bool :=
 match P.info? t with
 | some i=>(match i.zero with | some v=>decide (0 < v.cells.size) | none=>true)
 | none=>true
theorem sim_zeroPos {P:Program} {base:Nat→Prop} {ι:Ren} (t:TypeId) (hz:zOk P t=true) (hp:zPos P t=true) : Sim P base (fun κ d d'=>d'=d∧VRel κ d d∧0 < d.cells.size) ι (Go.zeroValue t) (Go.zeroValue t):=by
 unfold Go.zeroValue
 refine Sim.bnd (sim_typeInfo t) (fun κ a b _ h=>?_)
 obtain ⟨rfl,h2⟩:=h
 unfold zOk at hz
 unfold zPos at hp
 cases hv:b.zero with
 | none=>exact Sim.halt
 | some v =>
  simp only [h2,hv] at hz hp
  exact Sim.ret ⟨rfl,flat_refl _ 6 v hz,by simpa using hp⟩
def elemT (P:Program) (t:TypeId) : TypeId :=
 match P.underlying t with
 | some (.slice e)=>e
 | some (.map _ e)=>e
 | _=>0
theorem sim_buildSlice {P:Program} {base:Nat→Prop} {ι:Ren} {ps ps':Array (Nat×Value)} (t:TypeId) (len:Nat) (hz:zOk P (elemT P t)=true) (hq:zPos P (elemT P t)=true) (hp:PRel ι ps.toList ps'.toList) :
    Sim P base VV ι (Instr.buildSlice t len ps) (Instr.buildSlice t len ps'):=by
  unfold Instr.buildSlice
  refine Sim.bnd (sim_underlying t) (fun κ2 d d' hle2 hd=>?_)
  obtain ⟨rfl,h2⟩:=hd
  cases d' with
  | slice elem =>
    dsimp only
    have he:elemT P t=elem:=by simp [elemT,h2]
    rw [he] at hz hq
    refine Sim.bnd (sim_sizeOf elem) (fun κ3 sz sz' hle3 hs=>?_)
    subst hs
    have fin:∀ (κ:Ren) (zero zero':Array Value),RLe κ3 κ→ARel κ zero zero'→(len * sz'=0∨0 < zero.size)→Sim P base VV κ
        (match Instr.fill (fun i=>some (i * sz',sz')) ((Array.range (len * sz')).map (zero[· % zero.size]!)) ps.toList with
          | some cells=>do pure (.slice (some (← Go.newRow elem cells)) len len)
          | _=>Go.stuck "buildSlice: a part of the wrong size")
        (match Instr.fill (fun i=>some (i * sz',sz')) ((Array.range (len * sz')).map (zero'[· % zero'.size]!)) ps'.toList with
          | some cells=>do pure (.slice (some (← Go.newRow elem cells)) len len)
          | _=>Go.stuck "buildSlice: a part of the wrong size"):=by
      intro κ zero zero' hle hzr hpos
      cases hf:Instr.fill (fun i=>some (i * sz',sz')) ((Array.range (len * sz')).map (zero[· % zero.size]!)) ps.toList with
      | none=>exact Sim.halt
      | some c =>
        have hp3:PRel κ ps.toList ps'.toList:=⟨hp.1,fun i x x' h1 h2=>⟨(hp.2 i x x' h1 h2).1,(((hp.2 i x x' h1 h2).2.mono hle2).mono hle3).mono hle⟩⟩
        obtain ⟨c',hc',hr⟩:=fill_rel (ι:=κ) (fun i=>some (i * sz',sz')) ps.toList ps'.toList _ _ (hzr.zeros (len * sz') hpos) hp3 c hf
        rw [hc']
        refine Sim.bnd (sim_newRow elem hr) (fun κ4 a a' hle4 ha=>?_)
        obtain ⟨id,b,rfl,rfl,hb,hg⟩:=ha
        by_cases hlen:0 < len
        · exact Sim.ret (.slice id 0 b len len len hb (fun _=>rfl) (fun g=>by rw [hg] at g; cases g) hlen (Nat.le_refl _))
        · obtain rfl:len=0:=by omega
          exact Sim.ret (.sliceE id 0 b hb hg)
    by_cases hbig:len * sz' > 2 ^ 24
    · rw [if_pos hbig]; exact Sim.halt
    · rw [if_neg hbig,if_neg hbig]
      by_cases h0:len * sz'=0
      · rw [if_pos h0,if_pos h0]
        refine Sim.bnd (R:=fun _ p p'=>p = #[]∧p' = #[]) (Sim.ret ⟨rfl,rfl⟩) (fun κ z z' hle hz=>?_)
        obtain ⟨rfl,rfl⟩:=hz
        exact fin κ #[] #[] hle (ARel.empty κ) (.inl h0)
      · rw [if_neg h0,if_neg h0]
        refine Sim.bnd (sim_zeroPos elem hz hq) (fun κ v v' hle hv=>?_)
        obtain ⟨rfl,hv,hpos⟩:=hv
        refine Sim.bnd (R:=fun κ p p'=>ARel κ p p'∧0 < p.size) (Sim.ret ⟨cells_rel hv,hpos⟩) (fun κ2 z z' hle2 hz=>?_)
        exact fin κ2 z z' (hle.trans hle2) hz.1 (.inr hz.2)
  | _=>exact Sim.halt
theorem ARel.extract {ι:Ren} {f f':Array Value} (h:ARel ι f f') (a b:Nat) : ARel ι (f.extract a b) (f'.extract a b):=by
 refine ⟨by simp [h.1],fun i v v' h1 h2=>?_⟩
 rw [Array.getElem?_extract] at h1 h2
 rw [h.1] at h1
 split at h1
 ·rename_i hc
  rw [if_pos hc] at h2
  exact h.2 _ v v' h1 h2
 ·cases h1
theorem ARel.get {ι:Ren} {f f':Array Value} (h:ARel ι f f') (i:Nat) : (f[i]? = none∧f'[i]? = none)∨∃ v v',f[i]? = some v∧f'[i]? = some v'∧VRel ι v v':=by
 by_cases hlt:i < f.size
 ·have hlt':i < f'.size:=by rw [← h.1]; exact hlt
  exact .inr ⟨_,_,Array.getElem?_eq_getElem hlt,Array.getElem?_eq_getElem hlt',h.2 i _ _ (Array.getElem?_eq_getElem hlt) (Array.getElem?_eq_getElem hlt')⟩
 ·have hlt':¬ i < f'.size:=by rw [← h.1]; exact hlt
  exact .inl ⟨Array.getElem?_eq_none (Nat.le_of_not_lt hlt),Array.getElem?_eq_none (Nat.le_of_not_lt hlt')⟩
theorem sim_part {P:Program} {base:Nat→Prop} {ι:Ren} {f f':Array Value} (t:TypeId) (off:Nat) (h:ARel ι f f') : Sim P base VV ι (Go.part t f off) (Go.part t f' off):=by
 unfold Go.part
 refine Sim.bnd (sim_isAgg t) (fun κ a a' hle ha=>?_)
 subst ha
 split
 ·refine Sim.bnd (sim_sizeOf t) (fun κ2 n n' hle2 hn=>?_)
  subst hn
  have:=((h.mono hle).mono hle2).extract off (off+n')
  exact Sim.ret (.agg _ _ this.1 this.2)
 ·rcases (h.mono hle).get off with ⟨e1,e2⟩ | ⟨v,v',e1,e2,hv⟩
  ·rw [e1]; exact Sim.halt
  ·rw [e1,e2]; exact Sim.ret hv
theorem sim_field {P:Program} {base:Nat→Prop} {ι:Ren} {v v':Value} (t:TypeId) (f:Nat) (h:VRel ι v v') : Sim P base VV ι (Instr.field t v f) (Instr.field t v' f):=by
 unfold Instr.field
 refine Sim.bnd (sim_underlying t) (fun κ2 d d' hle2 hd=>?_)
 obtain ⟨rfl,h2⟩:=hd
 cases d' with
 | struct fields =>
  dsimp only
  cases hf:fields[f]? with
  | none=>exact Sim.halt
  | some fd=>exact Sim.bnd (sim_asAgg (h.mono hle2)) (fun κ a a' _ ha=>sim_part fd.type fd.offset ha)
 | _=>exact Sim.halt
theorem sim_index {P:Program} {base:Nat→Prop} {ι:Ren} {v v' x x':Value} (t:TypeId) (h:VRel ι v v') (hx:VRel ι x x') : Sim P base VV ι (Instr.index t v x) (Instr.index t v' x'):=by
 unfold Instr.index
 refine Sim.bnd (sim_asIntOf hx) (fun κ a a' hle ha=>?_)
 subst ha
 obtain ⟨k,i⟩:=a'
 dsimp only
 refine Sim.bnd (sim_underlying t) (fun κ2 d d' hle2 hd=>?_)
 obtain ⟨rfl,h2⟩:=hd
 have hv:=(h.mono hle).mono hle2
 cases d' with
 | array n elem =>
  cases hv with
  | agg f f' hf hr =>
   dsimp only
   split
   ·exact Sim.bnd (sim_sizeOf elem) (fun κ3 z z' hle3 hz=>by subst hz; exact sim_part elem _ ((show ARel κ2 f f' from ⟨hf,hr⟩).mono hle3))
   ·exact Sim.bounds
  | _=>exact Sim.halt
 | string =>
  cases hv with
  | string s =>
   dsimp only
   split
   ·exact Sim.ret (.int _ _)
   ·exact Sim.bounds
  | _=>exact Sim.halt
 | _=>exact Sim.halt
theorem sim_extract {P:Program} {base:Nat→Prop} {ι:Ren} {v v':Value} (i:Nat) (h:VRel ι v v') : Sim P base VV ι (Instr.extract v i) (Instr.extract v' i):=by
 unfold Instr.extract
 cases h with
 | tuple f f' hf hr =>
  dsimp only
  rcases ARel.get (ι:=ι) (f:=f) (f':=f') ⟨hf,hr⟩ i with ⟨e1,e2⟩ | ⟨v,v',e1,e2,hv⟩
  ·rw [e1]; exact Sim.halt
  ·rw [e1,e2]; exact Sim.ret hv
 | _=>exact Sim.halt
theorem sim_makeInterface {P:Program} {base:Nat→Prop} {ι:Ren} {v v':Value} (t:TypeId) (h:VRel ι v v') : Sim P base VV ι (Instr.makeInterface t v) (Instr.makeInterface t v'):=by
 unfold Instr.makeInterface
 refine Sim.bnd (sim_underlying t) (fun κ2 d d' hle2 hd=>?_)
 obtain ⟨rfl,h2⟩:=hd
 cases d' <;> first | exact Sim.halt | exact Sim.ret (.iface t v v' (h.mono hle2))
theorem sim_makeMap {P:Program} {base:Nat→Prop} {ι:Ren} {r r':Option Value} (t:TypeId) (h:OVRel ι r r') : Sim P base VV ι (Instr.makeMap t r) (Instr.makeMap t r'):=by
  have new:∀ κ:Ren,Sim P base VV κ (do pure (Value.map (some (← Go.newObj (.map #[] 0))))) (do pure (Value.map (some (← Go.newObj (.map #[] 0))))):=by
    intro κ
    unfold Go.newObj
    exact Sim.bnd (R:=fun κ id b=>κ id=some b) (Sim.new ⟨#[],rfl,rfl,fun i e e' h=>by simp at h⟩ (fun κ id b hle hb hg=>Sim.pure hb)) (fun κ id b hle hb=>Sim.ret (.map id b hb))
  unfold Instr.makeMap
  cases r with
  | none =>
    cases r' with
    | none=>exact new ι
    | some v=>exact h.elim
  | some v =>
    cases r' with
    | none=>exact h.elim
    | some v' =>
      dsimp only
      refine Sim.bnd (sim_underlying t) (fun κ2 d d' hle2 hd=>?_)
      obtain ⟨rfl,h2⟩:=hd
      cases d' with
      | map k e =>
        dsimp only
        exact Sim.bnd (sim_asInt (VRel.mono hle2 h)) (fun κ3 _ _ _ _=>new κ3)
      | _=>exact Sim.halt
end Go.Ev
