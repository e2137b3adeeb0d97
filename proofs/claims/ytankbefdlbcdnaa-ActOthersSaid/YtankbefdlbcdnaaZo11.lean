/- Part of a proof: see the last text. -/
import Derived.Test.YtankbefdlbcdnaaZo10
namespace Go.Ev
open Go.RowKit
set_option linter.unusedVariables false
set_option linter.unusedSimpArgs false
set_option linter.unusedSectionVars false
theorem gk_load {op:Op} {t:TypeId} (h:gkey op=some [1,t]) : ∃ x,op=.load t x:=by
 unfold gkey at h
 split at h <;> first | (cases h; done) | skip
 all_goals first | (cases h; exact ⟨_,rfl⟩) | (simp at h)
theorem gk_store {op:Op} {t:TypeId} (h:gkey op=some [2,t]) : ∃ x y,op=.store t x y:=by
 unfold gkey at h
 split at h <;> first | (cases h; done) | skip
 all_goals first | (cases h; exact ⟨_,_,rfl⟩) | (simp at h)
theorem gk_index {op:Op} {t:TypeId} (h:gkey op=some [3,t]) : ∃ x y,op=.indexAddr t x y:=by
 unfold gkey at h
 split at h <;> first | (cases h; done) | skip
 all_goals first | (cases h; exact ⟨_,_,rfl⟩) | (simp at h)
theorem gk_slice_hi {op:Op} {t:TypeId} (h:gkey op=some [4,t,0,1,0]) : ∃ x hi,op=.slice t x none (some hi) none:=by
 unfold gkey at h
 split at h <;> first | (cases h; done) | skip
 all_goals first | (simp at h; done) | skip
 rename_i t' x lo hi mx
 cases lo <;> cases hi <;> cases mx <;> simp at h
 subst h
 exact ⟨_,_,rfl⟩
theorem gk_len {op:Op} {t:TypeId} (h:gkey op=some [10,t]) : ∃ x,op=.call { callee:=.builtin .len,args:=#[x],argTypes:=#[t] }:=by
 unfold gkey at h
 split at h <;> first | (cases h; done) | skip
 all_goals first | (cases h; exact ⟨_,rfl⟩) | (simp at h)
theorem gk_append {op:Op} {t u:TypeId} (h:gkey op=some [11,t,u]) : ∃ x y,op=.call { callee:=.builtin .append,args:=#[x,y],argTypes:=#[t,u] }:=by
 unfold gkey at h
 split at h <;> first | (cases h; done) | skip
 all_goals first | (cases h; exact ⟨_,_,rfl⟩) | (simp at h)
section
variable [Sig]
def VStep (P:Program) (m:Sem Value) (ι:Ren) (d:Nat) (F:Nat→Prop) (w:World) (r:Value) (ng:Option Nat) : Prop:=∃ v' w',m.run P w=.ok v' w'∧GEnd ι d F w r ng v' w'
def UStep (P:Program) (m:Sem Unit) (ι:Ren) (d:Nat) (F:Nat→Prop) (w:World) (ng:Option Nat) : Prop:=∃ w',m.run P w=.ok () w'∧GEnd ι d F w undef ng undef w'
end
structure Ask (k:Kn) (g:Nat) (d0:Option Nat) (ng:Option Nat) (ι:Ren) (F:Nat→Prop) (w:World) (d:Nat) : Prop where
 st:∃ a,k.gs[g]? = some a∧a.p ι F w
 lt:∀ j,F j→j < w.heap.size
 fresh:ι d=none∨ng=none
 name:∀ y,d0=some y→y=d
theorem ops1 {ι:Ren} [Sig] {x:Value} {l:List Value} (h:LRel ι [x] l) : ∃ x',l=[x']∧VRel ι x x':=by
 match l,h with
 | [],h=>exact absurd h.1 (by simp)
 | [x'],h=>exact ⟨x',rfl,h.2 0 x x' rfl rfl⟩
 | _::_::_,h=>exact absurd h.1 (by simp)
theorem ops2 {ι:Ren} [Sig] {x y:Value} {l:List Value} (h:LRel ι [x,y] l) : ∃ x' y',l=[x',y']∧VRel ι x x'∧VRel ι y y':=by
 match l,h with
 | [],h=>exact absurd h.1 (by simp)
 | [_],h=>exact absurd h.1 (by simp)
 | [x',y'],h=>exact ⟨x',y',rfl,h.2 0 x x' rfl rfl,h.2 1 y y' rfl rfl⟩
 | _::_::_::_,h=>exact absurd h.1 (by simp)
variable (k:Kn) {P:Program} {g:Nat} {d0 ng:Option Nat} {r:Value}
theorem GTrue.load {t:TypeId} {x:Value} (h:letI:Sig:=k.sig; ∀ ι F w d x',Ask k g d0 ng ι F w d→VRel ι x x'→VStep P (Instr.loadAt t x') ι d F w r ng) : GTrue k P ⟨[1,t],[x],none,g,d0,r,ng⟩:=by
 letI:Sig:=k.sig
 intro o hk ev ι F w d hv _ h1 h2 h3 h4
 obtain ⟨a,ho⟩:=gk_load hk
 rw [ho] at hv
 obtain ⟨x',e,hx⟩:=ops1 hv
 simp [Op.operands] at e
 subst e
 obtain ⟨v',w',r1,r2⟩:=h ι F w d _ ⟨h1,h2,h3,h4⟩ hx
 refine ⟨.value v',v',w',?_,.inl rfl,r2⟩
 unfold execOp
 rw [ho]
 simp only
 rw [Sem.run_bind,r1]
 rfl
theorem GTrue.store {t:TypeId} {x y:Value} (h:letI:Sig:=k.sig; ∀ ι F w d x' y',Ask k g d0 ng ι F w d→VRel ι x x'→VRel ι y y'→UStep P (Instr.storeAt t x' y') ι d F w ng) : GTrue k P ⟨[2,t],[x,y],none,g,d0,undef,ng⟩:=by
 letI:Sig:=k.sig
 intro o hk ev ι F w d hv _ h1 h2 h3 h4
 obtain ⟨a,b,ho⟩:=gk_store hk
 rw [ho] at hv
 obtain ⟨x',y',e,hx,hy⟩:=ops2 hv
 simp [Op.operands] at e
 obtain ⟨rfl,rfl⟩:=e
 obtain ⟨w',r1,r2⟩:=h ι F w d _ _ ⟨h1,h2,h3,h4⟩ hx hy
 refine ⟨.skip,undef,w',?_,.inr ⟨rfl,rfl⟩,r2⟩
 unfold execOp
 rw [ho]
 simp only
 rw [Sem.run_bind,r1]
 rfl
theorem GTrue.index {t:TypeId} {x y:Value} (h:letI:Sig:=k.sig; ∀ ι F w d x' y',Ask k g d0 ng ι F w d→VRel ι x x'→VRel ι y y'→VStep P (Instr.indexAt t x' y') ι d F w r ng) : GTrue k P ⟨[3,t],[x,y],none,g,d0,r,ng⟩:=by
 letI:Sig:=k.sig
 intro o hk ev ι F w d hv _ h1 h2 h3 h4
 obtain ⟨a,b,ho⟩:=gk_index hk
 rw [ho] at hv
 obtain ⟨x',y',e,hx,hy⟩:=ops2 hv
 simp [Op.operands] at e
 obtain ⟨rfl,rfl⟩:=e
 obtain ⟨v',w',r1,r2⟩:=h ι F w d _ _ ⟨h1,h2,h3,h4⟩ hx hy
 refine ⟨.value v',v',w',?_,.inl rfl,r2⟩
 unfold execOp
 rw [ho]
 simp only
 rw [Sem.run_bind,r1]
 rfl
theorem GTrue.sliceHi {t:TypeId} {x y:Value} (h:letI:Sig:=k.sig; ∀ ι F w d x' y',Ask k g d0 ng ι F w d→VRel ι x x'→VRel ι y y'→VStep P (Instr.sliceAt t x' none (some y') none) ι d F w r ng) : GTrue k P ⟨[4,t,0,1,0],[x,y],none,g,d0,r,ng⟩:=by
 letI:Sig:=k.sig
 intro o hk ev ι F w d hv _ h1 h2 h3 h4
 obtain ⟨a,b,ho⟩:=gk_slice_hi hk
 rw [ho] at hv
 obtain ⟨x',y',e,hx,hy⟩:=ops2 hv
 simp [Op.operands] at e
 obtain ⟨rfl,rfl⟩:=e
 obtain ⟨v',w',r1,r2⟩:=h ι F w d _ _ ⟨h1,h2,h3,h4⟩ hx hy
 refine ⟨.value v',v',w',?_,.inl rfl,r2⟩
 unfold execOp
 rw [ho]
 simp only [Option.map]
 rw [Sem.run_bind,r1]
 rfl
theorem exec_builtin {ev:Operand→Value} {o:Oper} {c:Call} {b:Builtin} (ho:o.op=.call c) (hc:c.callee=.builtin b) : ∃ cs,execOp ev o=builtin b c.argTypes o.type cs (c.args.map ev):=by
 unfold execOp
 rw [ho]
 simp only
 unfold resolve
 rw [hc]
 exact ⟨_,rfl⟩
theorem GTrue.len {t:TypeId} {x:Value} (h:letI:Sig:=k.sig; ∀ ι F w d x' ty,Ask k g d0 ng ι F w d→VRel ι x x'→VStep P (Builtin.len_ #[t] ty #[x']) ι d F w r ng) : GTrue k P ⟨[10,t],[x],none,g,d0,r,ng⟩:=by
  letI:Sig:=k.sig
  intro o hk ev ι F w d hv _ h1 h2 h3 h4
  obtain ⟨a,ho⟩:=gk_len hk
  obtain ⟨cs,he⟩:=exec_builtin (ev:=ev) ho rfl
  rw [ho] at hv
  obtain ⟨x',e,hx⟩:=ops1 hv
  simp [Op.operands,Call.operands] at e
  subst e
  obtain ⟨v',w',r1,r2⟩:=h ι F w d _ o.type ⟨h1,h2,h3,h4⟩ hx
  refine ⟨.value v',v',w',?_,.inl rfl,r2⟩
  rw [he]
  have hb:builtin .len #[t] o.type cs #[ev a]=(do pure (Next.value (← Builtin.len_ #[t] o.type #[ev a]))):=rfl
  simp only [List.map_toArray,List.map_cons,List.map_nil]
  rw [hb]
  rw [Sem.run_bind,r1]
  rfl
theorem GTrue.append {t u:TypeId} {x:Value} {sz:Nat} {c:List Value} (h:letI:Sig:=k.sig; ∀ ι F w d x' y' c' m ty,Ask k g d0 ng ι F w d→VRel ι x x'→LRel ι c c'→c.length=m * sz→c.all oneCell=true →
      (∀ w':World,w'.heap=w.heap→(Builtin.firstCells sz m y').run P w'=.ok c'.toArray w')→(∀ w':World,(Builtin.lenOf y').run P w'=.ok m w')→VStep P (Builtin.append_ #[t,u] ty #[x',y']) ι d F w r ng) : GTrue k P ⟨[11,t,u],[x],some (sz,1,c),g,d0,r,ng⟩:=by
  letI:Sig:=k.sig
  intro o hk ev ι F w d hv hs h1 h2 h3 h4
  obtain ⟨a,b,ho⟩:=gk_append hk
  obtain ⟨cs,he⟩:=exec_builtin (ev:=ev) ho rfl
  rw [ho] at hv hs
  obtain ⟨x',e,hx⟩:=ops1 hv
  obtain ⟨y2,c',m,q1,q2,q3,q4,q5,q6⟩:=hs sz 1 c rfl
  simp [Op.operands,Call.operands] at e q1
  subst e
  subst q1
  obtain ⟨v',w',r1,r2⟩:=h ι F w d _ _ c'.toList m o.type ⟨h1,h2,h3,h4⟩ hx q2 q3 q4 (by simpa using q5) q6
  refine ⟨.value v',v',w',?_,.inl rfl,r2⟩
  rw [he]
  have hb:builtin .append #[t,u] o.type cs #[ev a,ev b]=(do pure (Next.value (← Builtin.append_ #[t,u] o.type #[ev a,ev b]))):=rfl
  simp only [List.map_toArray,List.map_cons,List.map_nil]
  rw [hb]
  rw [Sem.run_bind,r1]
  rfl
end Go.Ev
namespace Go.Ev
open Go.RowKit
set_option linter.unusedVariables false
set_option linter.unusedSimpArgs false
set_option linter.unusedSectionVars false
def flat:Code→List Code
 | .seq x y=>flat x++flat y
 | c=>[c]
def inner:Nat→Code→Code
 | 0,.block _ x=>x
 | 0,.loop x=>x
 | 0,.scope x=>x
 | 0,.cond _ x _=>x
 | 1,.cond _ _ y=>y
 | _,c=>c
def atC:List Nat→Code→Code
 | [],c=>c
 | i::p,c=>atC p (inner (i % 2) ((flat c).getD (i / 2) .skip))
theorem atC_append (p q:List Nat) (c:Code) : atC (p++q) c=atC q (atC p c):=by
 induction p generalizing c with
 | nil=>rfl
 | cons i p ih=>exact ih _
theorem skip_ok (P:Program) : CodeOK P .skip:=⟨default,[],[],rfl⟩
theorem inner_ok {P:Program} {i:Nat} {c:Code} (h:CodeOK P c) : CodeOK P (inner i c):=by
 letI:Sig:=noSig
 unfold inner
 split
 ·exact h.block
 ·exact h.loop
 ·exact h.scope
 ·exact h.cond.1
 ·exact h.cond.2
 ·exact h
theorem flat_ok {P:Program} : ∀ {c:Code},CodeOK P c→∀ x ∈ flat c,CodeOK P x:=by
 letI:Sig:=noSig
 intro c
 induction c with
 | seq x y ihx ihy =>
  intro h z hz
  rcases List.mem_append.1 hz with hz | hz
  ·exact ihx h.seq.1 z hz
  ·exact ihy h.seq.2 z hz
 | _=>intro h z hz; rw [List.mem_singleton.1 hz]; exact h
theorem getD_ok {P:Program} {l:List Code} (h:∀ x ∈ l,CodeOK P x) (i:Nat) : CodeOK P (l.getD i .skip):=by
 rw [List.getD_eq_getElem?_getD]
 cases hi:l[i]? with
 | none=>exact skip_ok P
 | some x=>exact h x (List.mem_of_getElem? hi)
theorem at_ok {P:Program} : ∀ {p:List Nat} {c:Code},CodeOK P c→CodeOK P (atC p c):=by
 intro p
 induction p with
 | nil=>exact fun h=>h
 | cons i p ih=>exact fun h=>ih (inner_ok (getD_ok (flat_ok h) _))
def wpL (P:Program) : List Code→(Exit→Act→World→Prop)→Act→World→Prop
 | [],Q,a,w=>Q .normal a w
 | c::cs,Q,a,w=>c.wpIn Fence.wide 0 P (Exit.then (wpL P cs Q) Q) a w
theorem wpL_app {P:Program} : ∀ {c:Code} {cs:List Code} {Q:Exit→Act→World→Prop} {a:Act} {w:World},wpL P (flat c++cs) Q a w→c.wpIn Fence.wide 0 P (Exit.then (wpL P cs Q) Q) a w:=by
 intro c
 induction c with
 | seq x y ihx ihy =>
  intro cs Q a w h
  rw [flat,List.append_assoc] at h
  refine wpIn_seq (wpIn_mono (ihx h) (fun e a w he=>?_))
  cases e with
  | normal=>exact ihy he
  | _=>exact he
 | _=>exact fun h=>h
theorem wpL_flat {P:Program} {c:Code} {Q:Exit→Act→World→Prop} {a:Act} {w:World} (h:wpL P (flat c) Q a w) : c.wpIn Fence.wide 0 P Q a w:=by
 refine wpIn_mono (wpL_app (cs:=[]) (by rw [List.append_nil]; exact h)) (fun e a w he=>?_)
 cases e <;> exact he
def fnOf (P:Program) (f:FuncId) : Func:=(P.funcs[f]?).getD default
def bodyOf (P:Program) (f:FuncId) : Code:=(fnOf P f).body.getD .skip
abbrev place (P:Program) (f:FuncId) (p:List Nat) : Code:=atC p (bodyOf P f)
noncomputable def segB (B:Base) (f:FuncId) (p:List Nat) (k:Func→Code→Bool) : Bool :=
 match B.F.get f with
 | some fn=>(match fn.body with | some body=>k fn (atC p body) | none=>false)
 | none=>false
theorem segB_ok {P:Program} {f:FuncId} {p:List Nat} {k:Base→Func→Code→Bool} (h:withB P (fun B=>segB B f p (k B))=true) :
  ∃ B,BOK B∧B.P=P∧P.funcs[f]? = some (fnOf P f)∧(fnOf P f).body=some (bodyOf P f)∧k B (fnOf P f) (place P f p)=true:=by
 letI:Sig:=noSig
 obtain ⟨B,hB,hBP,e⟩:=withB_ok P (fun B=>segB B f p (k B))
 rw [e] at h
 subst hBP
 unfold segB at h
 split at h
 ·rename_i fn hf
  have hf':=hB.F _ _ hf
  have e1:fnOf B.P f=fn:=by unfold fnOf; rw [hf']; rfl
  split at h
  ·rename_i body hb
   have e2:bodyOf B.P f=body:=by unfold bodyOf; rw [e1,hb]; rfl
   exact ⟨B,hB,rfl,by rw [e1]; exact hf',by rw [e1,e2]; exact hb,by rw [e1]; unfold place; rw [e2]; exact h⟩
  ·cases h
 ·cases h
abbrev stm (P:Program) (f:FuncId) (p:List Nat) (i:Nat) : List Code:=(flat (place P f p)).drop i
noncomputable def isBlk (id:Nat) : List Code→Bool
 | .block i _::_=>Nat.beq i id
 | _=>false
noncomputable def isLoop:List Code→Bool
 | .loop _::_=>true
 | _=>false
noncomputable def isNil:List Code→Bool
 | []=>true
 | _=>false
theorem place_in {P:Program} {f:FuncId} {p:List Nat} {i:Nat} {c:Code} {l:List Code} (h:stm P f p i=c::l) : place P f (p++[2 * i])=inner 0 c∧l=stm P f p (i+1):=by
 unfold place
 rw [atC_append]
 have h1:(flat (place P f p))[i]? = some c:=by
  have:=congrArg List.head? h
  rw [List.head?_drop] at this
  exact this
 refine ⟨?_,?_⟩
 ·show inner (2 * i % 2) ((flat (atC p (bodyOf P f))).getD (2 * i / 2) .skip)=_
  rw [Nat.mul_mod_right,Nat.mul_div_cancel_left _ (by omega),List.getD_eq_getElem?_getD]
  have h1':(flat (atC p (bodyOf P f)))[i]? = some c:=h1
  rw [h1']
  rfl
 ·have:=congrArg List.tail h
  rw [List.tail_drop] at this
  exact this.symm
theorem in_block {P:Program} {f:FuncId} {p:List Nat} {i id:Nat} (h:withB P (fun B=>segB B f p (fun _ c=>isBlk id ((flat c).drop i)))=true) {Q:Exit→Act→World→Prop} {a:Act} {w:World}
  (hw:wpL P (stm P f (p++[2 * i]) 0) (Exit.inBlock id (Exit.then (wpL P (stm P f p (i+1)) Q) Q)) a w) : wpL P (stm P f p i) Q a w:=by
 obtain ⟨B,_,_,_,_,h⟩:=segB_ok h
 have h':isBlk id (stm P f p i)=true:=h
 cases hs:stm P f p i with
 | nil=>rw [hs] at h'; cases h'
 | cons c l =>
  rw [hs] at h'
  obtain ⟨e1,e2⟩:=place_in hs
  cases c with
  | block k x =>
   have hk:=Nat.eq_of_beq_eq_true (show Nat.beq k id=true from h')
   subst hk
   rw [e2]
   refine wpIn_block (wpL_flat ?_)
   have:stm P f (p++[2 * i]) 0=flat x:=by
    show (flat (place P f (p++[2 * i]))).drop 0=_
    rw [e1]
    rfl
   rw [← this]
   exact hw
  | _=>cases h'
theorem in_loop {P:Program} {f:FuncId} {p:List Nat} {i:Nat} (h:withB P (fun B=>segB B f p (fun _ c=>isLoop ((flat c).drop i)))=true) {Q:Exit→Act→World→Prop} {a:Act} {w:World}
  (hw:(Code.loop (place P f (p++[2 * i]))).wpIn Fence.wide 0 P (Exit.then (wpL P (stm P f p (i+1)) Q) Q) a w) : wpL P (stm P f p i) Q a w:=by
 obtain ⟨B,_,_,_,_,h⟩:=segB_ok h
 have h':isLoop (stm P f p i)=true:=h
 cases hs:stm P f p i with
 | nil=>rw [hs] at h'; cases h'
 | cons c l =>
  rw [hs] at h'
  obtain ⟨e1,e2⟩:=place_in hs
  cases c with
  | loop x =>
   rw [e2]
   have e1':place P f (p++[2 * i])=x:=e1
   rw [e1'] at hw
   exact hw
  | _=>cases h'
theorem wpL_nil {P:Program} {f:FuncId} {p:List Nat} {i:Nat} (h:withB P (fun B=>segB B f p (fun _ c=>isNil ((flat c).drop i)))=true) {Q:Exit→Act→World→Prop} {a:Act} {w:World} (hw:Q .normal a w) : wpL P (stm P f p i) Q a w:=by
 obtain ⟨B,_,_,_,_,h⟩:=segB_ok h
 have h':isNil (stm P f p i)=true:=h
 cases hs:stm P f p i with
 | nil=>exact hw
 | cons c l=>rw [hs] at h'; cases h'
theorem calls_body {P:Program} {f:FuncId} {N:Nat} {args:Array Value} {w:World} {R:Ending→World→Prop} (h:withB P (fun B=>segB B f [] (fun fn _=>Nat.beq fn.ntmps N))=true)
  (hw:wpL P (stm P f [] 0) (bodyPostM Fence.wide 0 P (fnOf P f) R) { tmps:=args++Array.replicate (N - args.size) undef,defers:=[] } w) : Calls P f args w R:=by
 obtain ⟨B,_,_,hf,hb,h⟩:=segB_ok h
 rw [← Nat.eq_of_beq_eq_true h] at hw
 exact callsIn_wide.1 (callsIn_of_wp_marks (F:=Fence.wide) (n:=0) hf hb trivial (wpL_flat hw))
section pieces
variable [Sig]
def pieceA (run:Runner) : Nat→List Code→Act→St→Option (Exit×Act×St)
 | 0,_,a,s=>some (.normal,a,s)
 | k+1,c::cs,a,s=>(match run none c a s with | some (.normal,a1,s1)=>pieceA run k cs a1 s1 | r=>r)
 | _+1,[],_,_=>none
theorem pieceA_next {run:Runner} (hl:RunLocal run) : ∀ (k:Nat) {cs:List Code} {a a1:Act} {s s1:St} {e:Exit},pieceA run k cs a s=some (e,a1,s1)→s.next≤s1.next
 | 0,cs,a,a1,s,s1,e,h=>by cases h; exact Nat.le_refl _
 | k+1,c::cs,a,a1,s,s1,e,h=>by
  simp only [pieceA] at h
  split at h
  ·rename_i a2 s2 hx
   exact Nat.le_trans (hl.next hx) (pieceA_next hl k h)
  ·exact hl.next h
 | k+1,[],a,a1,s,s1,e,h=>by cases h
theorem piece_ok {P:Program} {base:Nat→Prop} {run:Runner} (hl:RunLocal run) (hrun:EvOK P base run) : ∀ (k:Nat) {cs:List Code} {a a1:Act} {s s1:St} {ex:Exit},pieceA run k cs a s=some (ex,a1,s1)→(∀ c ∈ cs,CodeOK P c)→Win s s.next s1.next →
  ∀ (ι:Ren) (A:Act) (w:World),ActRel ι a A→Rep P base ι s.look w→Fresh ι s s1→∀ Q:Exit→Act→World→Prop,(∀ κ A1 w1,ActRel κ a1 A1→Goes P base ι κ s s1 w w1→Exit.then (wpL P (cs.drop k) Q) Q ex A1 w1)→wpL P cs Q A w:=by
 intro k
 induction k with
 | zero =>
  intro cs a a1 s s1 ex h hco hwin ι A w hA hr hfr Q hQ
  cases h
  exact hQ ι A w hA (Goes.refl hr)
 | succ k ih =>
  intro cs a a1 s s1 ex h hco hwin ι A w hA hr hfr Q hQ
  cases cs with
  | nil=>cases h
  | cons c cs =>
   simp only [pieceA] at h
   split at h
   ·rename_i a2 s2 hx
    have n1:=hl.next hx
    have n2:=pieceA_next hl k h
    refine hrun none c a s _ a2 s2 hx (hco c (List.mem_cons_self ..)) (hwin.left n2) ι none A w trivial hA hr (hfr.left n2) _ (fun κ A1 w1 hA1 g=>?_)
    exact ih h (fun c hc=>hco c (List.mem_cons_of_mem _ hc)) (hl.win hx hwin n2) κ A1 w1 hA1 g.rep (hfr.right g n1) Q (fun μ A2 w2 hA2 g2=>hQ μ A2 w2 hA2 (g.trans g2 n1 n2))
   ·rename_i hne
    refine hrun none c a s _ a1 s1 h (hco c (List.mem_cons_self ..)) hwin ι none A w trivial hA hr hfr _ (fun κ A1 w1 hA1 g=>?_)
    have:=hQ κ A1 w1 hA1 g
    cases ex with
    | normal=>exact (hne _ _ h).elim
    | _=>exact this
noncomputable def pieceF (B:Base) (n N:Nat) : Nat→List Code→TV→St→Option FRes
 | 0,_,t,s=>some (.normal,t,[],s)
 | k+1,c::cs,t,s=>(match fev B n none N c t [] s with | some (.normal,t1,[],s1)=>pieceF B n N k cs t1 s1 | some (.normal,_,_::_,_)=>none | some (e,t1,d1,s1)=>some (e,t1,d1,s1) | none=>none)
 | _+1,[],_,_=>none
theorem pieceF_ok {B:Base} (hB:BOK B) (n N:Nat) : ∀ (k:Nat) {cs:List Code} {t t1:TV} {a:Act} {s s1:St} {ex:Exit} {d1:List Deferred},Env N t [] a→pieceF B n N k cs t s=some (ex,t1,d1,s1)→∃ a1,pieceA (ev B.P n) k cs a s=some (ex,a1,s1)∧Env N t1 d1 a1:=by
 intro k
 induction k with
 | zero=>intro cs t t1 a s s1 ex d1 he h; cases h; exact ⟨a,rfl,he⟩
 | succ k ih =>
  intro cs t t1 a s s1 ex d1 he h
  cases cs with
  | nil=>cases h
  | cons c cs =>
   simp only [pieceF] at h
   split at h
   ·rename_i t2 s2 hx
    obtain ⟨a2,q1,q2⟩:=fev_ok hB n _ _ _ _ _ _ _ _ _ _ _ he hx
    simp only [pieceA,q1]
    exact ih q2 h
   ·cases h
   ·rename_i e t2 d2 s2 h1 h2 hx
    cases h
    obtain ⟨a2,q1,q2⟩:=fev_ok hB n _ _ _ _ _ _ _ _ _ _ _ he hx
    refine ⟨a2,?_,q2⟩
    simp only [pieceA,q1]
    cases ex with
    | normal =>
     cases d1 with
     | nil=>exact (h1 rfl rfl).elim
     | cons d l=>exact (h2 _ _ rfl rfl).elim
    | _=>rfl
   ·cases h
structure Blks (rn:List (Nat×Nat)) (bl:List Blk) (F:Nat→Prop) (w:World) : Prop where
 there:∀ q ∈ bl,∃ b cs',renOf rn q.1=some b∧w.heap[b]? = some (.cells (List.toArray cs') q.2.2 (0,0))∧LRel (renOf rn) q.2.1 cs'
 inj:∀ p ∈ rn,∀ q ∈ rn,p.2=q.2→p.1=q.1
 out:∀ p ∈ rn,¬ F p.2
theorem Blks.nil {F:Nat→Prop} {w:World} : Blks [] [] F w:=⟨(fun q h=>by cases h),(fun q h=>by cases h),(fun q h=>by cases h)⟩
theorem Blks.one {b:Nat} {cs cs':List Value} {T:TypeId} {F:Nat→Prop} {w:World} (hb:w.heap[b]? = some (.cells cs'.toArray T (0,0))) (hc:LRel (renOf [(4,b)]) cs cs') (hF:¬ F b) : Blks [(4,b)] [(4,cs,T)] F w :=
 ⟨(fun q h=>by rw [List.mem_singleton.1 h]; exact ⟨b,cs',rfl,hb,hc⟩),(fun p hp q hq _=>by rw [List.mem_singleton.1 hp,List.mem_singleton.1 hq]),(fun p hp=>by rw [List.mem_singleton.1 hp]; exact hF)⟩
def objsOf (bl:List Blk) (g:Nat) : List (Nat×Obj):=(3,gobj g)::bl.map (fun q=>(q.1,.cells q.2.1.toArray q.2.2 (0,0)))
noncomputable def idsB (m:Nat) (rn:List (Nat×Nat)) (bl:List Blk) : Bool :=
 Nat.blt (4 * m) lim && (Nat.ble 1 m && (rn.all (fun p=>Nat.blt p.1 (4 * m) && !(Nat.beq p.1 3)) && bl.all (fun q=>Nat.blt q.1 (4 * m) && Nat.beq (q.1 % 4) 0)))
structure Left (rn:List (Nat×Nat)) (bl1:List Blk) (g':Nat) (F:Nat→Prop) (w:World) (κ:Ren) (w1:World) : Prop where
 old:∀ id b,renOf rn id=some b→κ id=some b
 blk:∀ q ∈ bl1,q.2.1.all knV=true→∃ b,κ q.1=some b∧w1.heap[b]? = some (.cells (q.2.1.map (conc κ)).toArray q.2.2 (0,0))∧(F b∨(∃ p ∈ rn,p.2=b)∨w.heap.size≤b)
 cls:∀ q ∈ bl1,∃ b c',κ q.1=some b∧w1.heap[b]? = some (.cells c' q.2.2 (0,0))∧ARel κ q.2.1.toArray c'
 inj:∀ q ∈ bl1,∀ q' ∈ bl1,κ q.1=κ q'.1→q.1=q'.1
 gh:∃ F',Sig.GR g' κ F' w1∧(∀ j,F' j→j < w1.heap.size∧(F j∨(∃ p ∈ rn,p.2=j)∨w.heap.size≤j))∧∀ q ∈ bl1,∀ b,κ q.1=some b→¬ F' b
 turn:Turn (fun j=>F j∨∃ p ∈ rn,p.2=j) w w1
theorem renOf_none {l:List (Nat×Nat)} {id:Nat} (h:∀ p ∈ l,p.1 ≠ id) : renOf l id=none:=by
 cases hr:renOf l id with
 | none=>rfl
 | some b=>exact (h _ (renOf_mem hr) rfl).elim
theorem idsB_ok {m:Nat} {rn:List (Nat×Nat)} {bl:List Blk} (h:idsB m rn bl=true) : 4 * m < lim∧1≤m∧(∀ p ∈ rn,p.1 < 4 * m∧p.1 ≠ 3)∧∀ q ∈ bl,q.1 < 4 * m∧q.1 % 4=0:=by
 unfold idsB at h
 simp only [Bool.and_eq_true] at h
 obtain ⟨h1,h2,h3,h4⟩:=h
 rw [List.all_eq_true] at h3 h4
 refine ⟨Nat.le_of_ble_eq_true h1,Nat.le_of_ble_eq_true h2,fun p hp=>?_,fun q hq=>?_⟩
 ·have:=h3 p hp
  simp only [Bool.and_eq_true] at this
  refine ⟨Nat.le_of_ble_eq_true this.1,fun e=>?_⟩
  rw [e] at this
  exact absurd this.2 (by decide)
 ·have:=h4 q hq
  simp only [Bool.and_eq_true] at this
  exact ⟨Nat.le_of_ble_eq_true this.1,Nat.eq_of_beq_eq_true this.2⟩
theorem seg_rep {P:Program} {m:Nat} {rn:List (Nat×Nat)} {bl:List Blk} {g:Nat} {F:Nat→Prop} {w:World} (hi:idsB m rn bl=true) (hb:Blks rn bl F w) (hg:Sig.GR g (renOf rn) F w) (hF:∀ j,F j→j < w.heap.size) :
  Rep P (Rest rn F w) (renOf rn) (stOf (objsOf bl g) m).look w:=by
 obtain ⟨i1,i2,i3,i4⟩:=idsB_ok hi
 refine open_start ?_ ?_ hb.inj hF hb.out ?_
 ·intro p hp
  rcases List.mem_cons.1 hp with rfl | hp
  ·show 3 < lim; unfold lim; omega
  ·obtain ⟨q,hq,rfl⟩:=List.mem_map.1 hp
   have:=(i4 q hq).1
   show q.1 < lim
   omega
 ·intro p hp hgn
  rcases List.mem_cons.1 hp with rfl | hp
  ·cases hgn
  ·obtain ⟨q,hq,rfl⟩:=List.mem_map.1 hp
   obtain ⟨b,cs',h1,h2,h3⟩:=hb.there q hq
   refine ⟨b,_,h1,h2,rfl,cs'.toArray,rfl,by simp [h3.1],(fun _=>by simp [h3.1]),fun i v v' h1 h2=>h3.2 i v v' (by simpa using h1) (by simpa using h2),fun h=>?_⟩
   have:=(i4 q hq).2
   unfold gro at h
   simp only [beq_iff_eq] at h
   omega
 ·intro p hp k hk
  rcases List.mem_cons.1 hp with rfl | hp
  ·cases hk
   exact ⟨rfl,renOf_none (fun p hp=>(i3 p hp).2),hg⟩
  ·obtain ⟨q,hq,rfl⟩:=List.mem_map.1 hp
   cases hk
theorem seg_left {P:Program} {m:Nat} {rn:List (Nat×Nat)} {bl bl1:List Blk} {g g':Nat} {F:Nat→Prop} {w w1:World} {κ:Ren} {s1:St} (hi:idsB m rn bl=true) (hids:bl1.all (fun q=>Nat.beq (q.1 % 4) 0)=true)
  (gg:Goes P (Rest rn F w) (renOf rn) κ (stOf (objsOf bl g) m) s1 w w1) (hb1:∀ q ∈ bl1,s1.look q.1=some (.cells q.2.1.toArray q.2.2 (0,0))) (hg1:s1.look 3=some (gobj g')) : Left rn bl1 g' F w κ w1:=by
 obtain ⟨i1,i2,i3,i4⟩:=idsB_ok hi
 obtain ⟨F',q1,q2,q3⟩:=left_state gg hg1
 rw [List.all_eq_true] at hids
 have hgro:∀ q ∈ bl1,gro q.1=false:=fun q hq=>by
  have:=Nat.eq_of_beq_eq_true (hids q hq)
  unfold gro
  rw [this]
  rfl
 have rest:∀ b,¬ Rest rn F w b→F b∨(∃ p ∈ rn,p.2=b)∨w.heap.size≤b:=by
  intro b hr
  by_cases h1:F b
  ·exact .inl h1
  by_cases h2:∃ p ∈ rn,p.2=b
  ·exact .inr (.inl h2)
  rcases Nat.lt_or_ge b w.heap.size with h3 | h3
  ·exact absurd ⟨h3,h1,fun p hp e=>h2 ⟨p,hp,e⟩⟩ hr
  ·exact .inr (.inr h3)
 refine ⟨?_,?_,fun q hq=>(by
  obtain ⟨b,c',k1,k2,k3,k4⟩:=left_cells gg (hb1 q hq) (hgro q hq)
  exact ⟨b,c',k1,k2,k4⟩),?_,⟨F',q1,fun j hj=>⟨(q2 j hj).1,rest j (q2 j hj).2⟩,fun q hq b hk=>q3 _ _ b (hb1 q hq) hk⟩,⟨gg.below.os,gg.below.tape,gg.below.output,gg.below.size,fun k hk hn=>?_⟩⟩
 ·intro id b hk
  rw [gg.ext id (.inl (by
   show id < 4 * m
   exact (i3 _ (renOf_mem hk)).1))]
  exact hk
 ·intro q hq hk
  obtain ⟨b,c',k1,k2,k3,k4⟩:=left_cells gg (hb1 q hq) (hgro q hq)
  refine ⟨b,k1,by rw [k2,conc_cells k4 (by simpa using hk)],rest b k3⟩
 ·intro q hq q' hq' e
  obtain ⟨b,c',k1,_⟩:=left_cells gg (hb1 q hq) (hgro q hq)
  exact gg.rep.inj _ _ _ _ b (hb1 q hq) (hb1 q' hq') k1 (by rw [← e]; exact k1)
 ·exact gg.below.block k ⟨hk,fun h=>hn (.inl h),fun p hp e=>hn (.inr ⟨p,hp,e⟩)⟩
noncomputable def eqE:Exit→Exit→Bool
 | .normal,.normal=>true
 | .ret,.ret=>true
 | .exit i,.exit j=>Nat.beq i j
 | _,_=>false
theorem eqE_eq {e e':Exit} (h:eqE e e'=true) : e=e':=by
 unfold eqE at h
 split at h
 ·rfl
 ·rfl
 ·rw [Nat.eq_of_beq_eq_true h]
 ·cases h
noncomputable def segIs (ex:Exit) (live:List (Nat×Value)) (bl1:List Blk) (g':Nat) : Option FRes→Bool
 | some (e,t,[],s)=>eqE e ex && (live.all (fun p=>eqV 4 (t.get p.1) p.2) && (bl1.all (blkIs s) && (ghIs s (some g') && bl1.all (fun q=>Nat.beq (q.1 % 4) 0))))
 | _=>false
theorem segIs_ok {ex:Exit} {live:List (Nat×Value)} {bl1:List Blk} {g':Nat} {r:Option FRes} (h:segIs ex live bl1 g' r=true) :
  ∃ t s,r=some (ex,t,[],s)∧(∀ p ∈ live,t.get p.1=p.2)∧(∀ q ∈ bl1,s.look q.1=some (.cells q.2.1.toArray q.2.2 (0,0)))∧s.look 3=some (gobj g')∧bl1.all (fun q=>Nat.beq (q.1 % 4) 0)=true:=by
 unfold segIs at h
 split at h
 ·rename_i e t s
  simp only [Bool.and_eq_true] at h
  obtain ⟨h1,h2,h3,h4,h5⟩:=h
  obtain ⟨_,k2,k3⟩:=outIs_ok (r:=.bool true) (bl:=bl1) (g:=some g') (v:=.bool true) (s:=s) (by
   have h0:eqV 4 (.bool true) (.bool true)=true:=rfl
   simp only [outIs,h0,h3,h4,Bool.and_self])
  rw [List.all_eq_true] at h2
  exact ⟨t,s,by rw [eqE_eq h1],fun p hp=>eqV_eq _ _ _ (h2 p hp),k2,k3 _ rfl,h5⟩
 ·cases h
theorem from_env {tm:List Value} {N:Nat} (h1:tm.length=N) (h2:N≤4094) {β:Type} (k:TV→β) : ∃ t,fromK tm 0 .leaf k=k t∧Env N t [] ⟨tm.toArray,[]⟩:=by
 obtain ⟨t,e,he⟩:=start_env (args:=tm) (n:=N) (by omega) h2 k
 refine ⟨t,e,?_⟩
 rw [h1,Nat.sub_self,show (Array.replicate 0 undef:Array Value) = #[] from rfl,Array.append_empty] at he
 exact he
theorem seg_run {P:Program} (hP:P.check=.ok ()) (hcal:CalOK P) (hm:P.follows .mixedOrders=true) {n m N i k:Nat} {f:FuncId} {p:List Nat} {tm:List Value} {rn:List (Nat×Nat)} {bl bl1:List Blk} {g g':Nat} {ex:Exit} {live:List (Nat×Value)}
  (h:withB P (fun B=>segB B f p (fun _ c=>Nat.beq tm.length N && (Nat.ble N 4094 && (idsB m rn bl && segIs ex live bl1 g' (fromK tm 0 .leaf (fun t=>pieceF B n N k ((flat c).drop i) t (stOf (objsOf bl g) m)))))))=true)
  {F:Nat→Prop} {w:World} {A:Act} (hb:Blks rn bl F w) (hg:Sig.GR g (renOf rn) F w) (hF:∀ j,F j→j < w.heap.size) (ha:LRel (renOf rn) tm A.tmps.toList) (hd:A.defers=[]) {Q:Exit→Act→World→Prop}
  (hQ:∀ κ A1 w1,A1.tmps.size=N→A1.defers=[]→(∀ p ∈ live,VRel κ p.2 (A1.tmps.getD p.1 undef))→Left rn bl1 g' F w κ w1→Exit.then (wpL P (stm P f p (i+k)) Q) Q ex A1 w1) :
  wpL P (stm P f p i) Q A w:=by
 obtain ⟨B,hB,rfl,hf,hbo,h⟩:=segB_ok h
 simp only [Bool.and_eq_true] at h
 obtain ⟨h1,h2,h3,h4⟩:=h
 have h1:=Nat.eq_of_beq_eq_true h1
 have h2:=Nat.le_of_ble_eq_true h2
 obtain ⟨t,e,he⟩:=from_env h1 h2 (fun t=>pieceF B n N k (stm B.P f p i) t (stOf (objsOf bl g) m))
 rw [e] at h4
 obtain ⟨t1,s1,r1,r2,r3,r4,r5⟩:=segIs_ok h4
 obtain ⟨a1,q1,q2⟩:=pieceF_ok hB n N k he r1
 obtain ⟨i1,i2,i3,i4⟩:=idsB_ok h3
 refine piece_ok (ev_local B.P n) (ev_ok hP hcal hm n).1 k q1 (fun c hc=>flat_ok (at_ok (body_ok hP hf hbo)) c (List.mem_of_mem_drop hc)) (fun id x y=>?_) (renOf rn) A w ⟨⟨by simpa using ha.1,fun i v v' a b=>ha.2 i v v' (by simpa using a) (by simpa using b)⟩,by rw [hd]; exact .nil⟩ (seg_rep h3 hb hg hF) (fun id x y=>?_) Q (fun κ A1 w1 hA1 gg=>?_)
 ·rw [stOf_look m (objsOf bl g) id (fun p hp=>by
   rcases List.mem_cons.1 hp with rfl | hp
   ·show 3 < lim; unfold lim; omega
   ·obtain ⟨q,hq,rfl⟩:=List.mem_map.1 hp
    have:=(i4 q hq).1
    show q.1 < lim
    omega)]
  cases hf:((objsOf bl g).find? fun p=>p.1 == id).map (·.2) with
  | none=>rfl
  | some o =>
   have x':4 * m≤id:=x
   rcases List.mem_cons.1 (find_mem hf) with e | hp
   ·cases e; omega
   ·obtain ⟨q,hq,e⟩:=List.mem_map.1 hp
    cases e
    have:=(i4 q hq).1
    omega
 ·refine renOf_none (fun p hp e=>?_)
  have:=(i3 p hp).1
  have x':4 * m≤id:=x
  omega
 ·have sz:A1.tmps.size=N:=by rw [← hA1.tmps.1,q2.sz]
  have df:A1.defers=[]:=by
   have:=hA1.dfs
   rw [q2.df] at this
   generalize A1.defers=dd at this
   cases this
   rfl
  rw [List.drop_drop]
  refine hQ κ A1 w1 sz df (fun p hp=>?_) (seg_left h3 r5 gg r3 r4)
  rw [← r2 p hp,q2.get p.1]
  exact tmp_rel hA1.tmps p.1
theorem seg_end {P:Program} (hP:P.check=.ok ()) (hcal:CalOK P) (hm:P.follows .mixedOrders=true) {n m N i k:Nat} {f:FuncId} {p:List Nat} {tm:List Value} {rn:List (Nat×Nat)} {bl bl1:List Blk} {g g':Nat} {r:Value}
  (h:withB P (fun B=>segB B f p (fun fn c=>Nat.beq tm.length N && (Nat.beq fn.ntmps N && (Nat.ble N 4094 && (idsB m rn bl && ((bl1.all (fun q=>Nat.beq (q.1 % 4) 0) && isNil ((flat c).drop (i+k))) && outIs r bl1 (some g') (fromK tm 0 .leaf (fun t=>fret B.P fn (pieceF B n N k ((flat c).drop i) t (stOf (objsOf bl g) m))))))))))=true)
  {F:Nat→Prop} {w:World} {A:Act} (hb:Blks rn bl F w) (hg:Sig.GR g (renOf rn) F w) (hF:∀ j,F j→j < w.heap.size) (ha:LRel (renOf rn) tm A.tmps.toList) (hd:A.defers=[]) {R:Ending→World→Prop}
  (hQ:∀ κ v' w1,VRel κ r v'→Left rn bl1 g' F w κ w1→R (.returned v') w1) :
  wpL P (stm P f p i) (bodyPostM Fence.wide 0 P (fnOf P f) R) A w:=by
 obtain ⟨B,hB,rfl,hf,hbo,h⟩:=segB_ok h
 simp only [Bool.and_eq_true] at h
 obtain ⟨h1,h0,h2,h3,⟨h5,h6⟩,h4⟩:=h
 have h1:=Nat.eq_of_beq_eq_true h1
 have h0:=Nat.eq_of_beq_eq_true h0
 have h2:=Nat.le_of_ble_eq_true h2
 obtain ⟨t,e,he⟩:=from_env h1 h2 (fun t=>fret B.P (fnOf B.P f) (pieceF B n N k (stm B.P f p i) t (stOf (objsOf bl g) m)))
 rw [e] at h4
 cases hx:fret B.P (fnOf B.P f) (pieceF B n N k (stm B.P f p i) t (stOf (objsOf bl g) m)) with
 | none=>rw [hx] at h4; cases h4
 | some x =>
 obtain ⟨v,s1⟩:=x
 rw [hx] at h4
 obtain ⟨rfl,r3,r4⟩:=outIs_ok h4
 have r4:=r4 _ rfl
 obtain ⟨i1,i2,i3,i4⟩:=idsB_ok h3
 have hl:=ev_local B.P n
 obtain ⟨ex,a2,s2,q1,q2⟩ : ∃ ex a2 s2,pieceA (ev B.P n) k (stm B.P f p i) ⟨tm.toArray,[]⟩ (stOf (objsOf bl g) m)=some (ex,a2,s2)∧aleave B.P (fnOf B.P f) ex a2 s2=some (v,s1):=by
  unfold fret at hx
  split at hx
  ·rename_i t d s2 hrun
   obtain ⟨a1,q1,q2⟩:=pieceF_ok hB n N k he hrun
   rw [← h0] at q2
   exact ⟨_,a1,s2,q1,fend_ok q2 hx rfl⟩
  ·rename_i t d s2 hrun
   obtain ⟨a1,q1,q2⟩:=pieceF_ok hB n N k he hrun
   rw [← h0] at q2
   exact ⟨_,a1,s2,q1,fend_ok q2 hx rfl⟩
  ·cases hx
 unfold aleave at q2
 split at q2
 case h_2=>cases q2
 rename_i hex
 split at q2
 case h_2=>cases q2
 rename_i s3 hmk
 have n1:=pieceA_next hl k q1
 have n2:=(amarks_local B.P a2.defers).next hmk
 have n3:=arun_next B.P _ _ _ _ q2
 have hwin:Win (stOf (objsOf bl g) m) (stOf (objsOf bl g) m).next s1.next:=fun id x y=>by
  rw [stOf_look m (objsOf bl g) id (fun p hp=>by
   rcases List.mem_cons.1 hp with rfl | hp
   ·show 3 < lim; unfold lim; omega
   ·obtain ⟨q,hq,rfl⟩:=List.mem_map.1 hp
    have:=(i4 q hq).1
    show q.1 < lim
    omega)]
  cases hf:((objsOf bl g).find? fun p=>p.1 == id).map (·.2) with
  | none=>rfl
  | some o =>
   have x':4 * m≤id:=x
   rcases List.mem_cons.1 (find_mem hf) with e | hp
   ·cases e; omega
   ·obtain ⟨q,hq,e⟩:=List.mem_map.1 hp
    cases e
    have:=(i4 q hq).1
    omega
 have hfr:Fresh (renOf rn) (stOf (objsOf bl g) m) s1:=fun id x y=>by
  refine renOf_none (fun p hp e=>?_)
  have:=(i3 p hp).1
  have x':4 * m≤id:=x
  omega
 refine piece_ok hl (ev_ok hP hcal hm n).1 k q1 (fun c hc=>flat_ok (at_ok (body_ok hP hf hbo)) c (List.mem_of_mem_drop hc)) (hwin.left (Nat.le_trans n2 n3)) (renOf rn) A w ⟨⟨by simpa using ha.1,fun i v v' a b=>ha.2 i v v' (by simpa using a) (by simpa using b)⟩,by rw [hd]; exact .nil⟩ (seg_rep h3 hb hg hF) (hfr.left (Nat.le_trans n2 n3)) _ (fun κ A1 w1 hA1 g1=>?_)
 have f1:=hfr.right g1 n1
 have fin:LeavesInM Fence.wide 0 B.P (fnOf B.P f) A1.tmps R A1.defers .returning w1:=by
  refine marks_sound a2.defers A1.defers s2 s3 κ w1 hA1.dfs hmk g1.rep (f1.left n3) (fun μ w2 g2=>?_)
  have f2:=f1.right g2 n2
  obtain ⟨ν,v',w3,r1,r4',g3⟩:=sim_goes (sim_results (P:=B.P) (base:=Rest rn F w) (fnOf B.P f) (hA1.tmps.mono (g2.le (f1.left n3)))) g2.rep q2 f2
  have hw:=results_still (P:=B.P) (fnOf B.P f) A1.tmps w2 v' w3 r1
  subst hw
  exact ⟨v',r1,hQ ν v' _ r4' (seg_left h3 h5 (g1.trans (g2.trans g3 n2 n3) n1 (Nat.le_trans n2 n3)) r3 r4)⟩
 cases ex with
 | normal =>
  rw [List.drop_drop]
  have h6':isNil (stm B.P f p (i+k))=true:=h6
  show wpL B.P (stm B.P f p (i+k)) _ A1 w1
  cases hs:stm B.P f p (i+k) with
  | nil=>exact fin
  | cons c l=>rw [hs] at h6'; cases h6'
 | ret=>exact fin
 | _=>cases hex
theorem garb_ex (v':Value) : ∃ v:Value,∀ ι:Ren,VRel ι v v' :=
 match v' with
 | .bool b=>⟨_,fun ι=>.bool b⟩
 | .int k n=>⟨_,fun ι=>.int k n⟩
 | .float k n=>⟨_,fun ι=>.float k n⟩
 | .complex k n m=>⟨_,fun ι=>.junk 0 _ rfl⟩
 | .string b=>⟨_,fun ι=>.junk 0 _ rfl⟩
 | .pointer a=>⟨_,fun ι=>.junk 0 _ rfl⟩
 | .slice a n c=>⟨_,fun ι=>.junk 0 _ rfl⟩
 | .map a=>⟨_,fun ι=>.junk 0 _ rfl⟩
 | .func f a b=>⟨_,fun ι=>.junk 0 _ rfl⟩
 | .nilFunc=>⟨_,fun ι=>.junk 0 _ rfl⟩
 | .iface t v=>⟨_,fun ι=>.junk 0 _ rfl⟩
 | .nilIface=>⟨_,fun ι=>.junk 0 _ rfl⟩
 | .agg f=>by
  have h:∀ i (hi:i < f.size),∃ v:Value,∀ ι:Ren,VRel ι v f[i]:=fun i hi=>garb_ex f[i]
  exact ⟨.agg (Array.ofFn (n:=f.size) fun i=>Classical.choose (h i.1 i.2)),fun ι=>.agg _ _ (by simp) (fun i v v' h1 h2=>by
   obtain ⟨hi,rfl⟩:=Array.getElem?_eq_some_iff.1 h2
   rw [Array.getElem?_ofFn,dif_pos hi] at h1
   cases h1
   exact Classical.choose_spec (h i hi) ι)⟩
 | .tuple f=>by
  have h:∀ i (hi:i < f.size),∃ v:Value,∀ ι:Ren,VRel ι v f[i]:=fun i hi=>garb_ex f[i]
  exact ⟨.tuple (Array.ofFn (n:=f.size) fun i=>Classical.choose (h i.1 i.2)),fun ι=>.tuple _ _ (by simp) (fun i v v' h1 h2=>by
   obtain ⟨hi,rfl⟩:=Array.getElem?_eq_some_iff.1 h2
   rw [Array.getElem?_ofFn,dif_pos hi] at h1
   cases h1
   exact Classical.choose_spec (h i hi) ι)⟩
 | .chan r=>⟨_,fun ι=>.junk 0 _ rfl⟩
termination_by v'
decreasing_by
 all_goals
  subst_vars
  simp only [Value.agg.sizeOf_spec,Value.tuple.sizeOf_spec]
  have:=Array.sizeOf_get f i hi
  omega
end pieces
noncomputable def resTmps:List ResultVar→List Nat→Bool
 | [],[]=>true
 | .tmp i::l,j::m=>Nat.beq i j && resTmps l m
 | _,_=>false
theorem resTmps_ok:∀ {l:List ResultVar} {m:List Nat},resTmps l m=true→l=m.map .tmp
 | [],[],_=>rfl
 | .tmp i::l,j::m,h=>by
  have h':(Nat.beq i j && resTmps l m)=true:=h
  rw [Bool.and_eq_true] at h'
  rw [Nat.eq_of_beq_eq_true h'.1,resTmps_ok h'.2]
  rfl
 | [],_::_,h=>by cases h
 | .tmp i::l,[],h=>by cases h
theorem results_one {P:Program} {fn:Func} {i:Nat} {T:Array Value} {w:World} (h:fn.results.toList=[.tmp i]) : (results fn T).run P w=.ok (T.getD i undef) w:=by
 unfold results
 rw [Array.mapM_eq_mapM_toList,h]
 rfl
theorem post_ret {P:Program} {f:FuncId} {i:Nat} (h:withB P (fun B=>segB B f [] (fun fn _=>resTmps fn.results.toList [i]))=true) {R:Ending→World→Prop} {A:Act} {w:World} (hd:A.defers=[]) (hR:R (.returned (A.tmps.getD i undef)) w) : bodyPostM Fence.wide 0 P (fnOf P f) R .ret A w:=by
 obtain ⟨B,_,_,hf,hb,h⟩:=segB_ok h
 show LeavesInM Fence.wide 0 P (fnOf P f) A.tmps R A.defers .returning w
 rw [hd]
 exact ⟨_,results_one (resTmps_ok h),hR⟩
end Go.Ev
namespace Go.Ev
open Go.RowKit
set_option linter.unusedVariables false
set_option linter.unusedSimpArgs false
set_option linter.unusedSectionVars false
theorem addMk (b off n:Nat) : (⟨b,off,none⟩ : Addr).add n=⟨b,off+n,none⟩:=@Addr.add_mk noSig b off n
def EmpV (v:Value) : Prop:=v=.slice none 0 0∨∃ b off,v=.slice (some ⟨b,off,none⟩) 0 0
theorem EmpV.base {v:Value} (h:EmpV v) : ∃ a:Option Addr,v=.slice a 0 0:=by
 rcases h with rfl | ⟨b,off,rfl⟩ <;> exact ⟨_,rfl⟩
def SlV (e:TypeId) (sz:Nat) (v:Value) (n:Nat) (xs:List Value) (F:Nat→Prop) (w:World) : Prop :=
 xs.length=n * sz∧((EmpV v∧n=0∧∀ j,¬ F j) ∨
  ∃ b off c arr,v=.slice (some ⟨b,off,none⟩) n c∧(∀ j,F j↔j=b)∧w.heap[b]? = some (.cells arr e (0,0))∧(∀ i,i < n * sz→arr[off+i]? = xs[i]?)∧off+c * sz≤arr.size∧n≤c)
theorem SlV.keep {e:TypeId} {sz n:Nat} {v:Value} {xs:List Value} {F:Nat→Prop} {w w':World} (h:SlV e sz v n xs F w) (hk:∀ j,F j→w'.heap[j]? = w.heap[j]?) : SlV e sz v n xs F w':=by
 obtain ⟨h1,h2 | ⟨b,off,c,arr,k1,k2,k3,k4⟩⟩:=h
 ·exact ⟨h1,.inl h2⟩
 ·exact ⟨h1,.inr ⟨b,off,c,arr,k1,k2,by rw [hk b ((k2 b).2 rfl)]; exact k3,k4⟩⟩
theorem SlV.lt {e:TypeId} {sz n:Nat} {v:Value} {xs:List Value} {F:Nat→Prop} {w:World} (h:SlV e sz v n xs F w) : ∀ j,F j→j < w.heap.size:=by
 intro j hj
 obtain ⟨h1,⟨_,_,h2⟩ | ⟨b,off,c,arr,k1,k2,k3,k4⟩⟩:=h
 ·exact (h2 j hj).elim
 ·rw [(k2 j).1 hj]
  exact (Array.getElem?_eq_some_iff.1 k3).1
theorem SlV.code {e:TypeId} {sz n:Nat} {v:Value} {xs:List Value} {F:Nat→Prop} {w:World} (h:SlV e sz v n xs F w) : ∃ c,dec c=v:=by
 obtain ⟨h1,⟨rfl | ⟨b,off,rfl⟩,_⟩ | ⟨b,off,c,arr,rfl,_⟩⟩:=h
 ·exact ⟨_,dec_slice0⟩
 ·exact ⟨_,dec_slice b off 0 0⟩
 ·exact ⟨_,dec_slice b off n c⟩
theorem SlV.leaf {e:TypeId} {sz n:Nat} {v:Value} {xs:List Value} {F:Nat→Prop} {w:World} (h:SlV e sz v n xs F w) : leafV v=true:=by
 obtain ⟨h1,⟨rfl | ⟨b,off,rfl⟩,_⟩ | ⟨b,off,c,arr,rfl,_⟩⟩:=h <;> rfl
theorem SlV.nil (e:TypeId) (sz:Nat) (w:World) : SlV e sz (.slice none 0 0) 0 [] (fun _=>False) w:=⟨by simp,.inl ⟨.inl rfl,rfl,fun _ h=>h⟩⟩
theorem SlV.append {P:Program} {t u ty e:TypeId} {i:TypeInfo} {z:Value} {v y:Value} {n m:Nat} {xs cs:List Value} {F:Nat→Prop} {w:World} (h:SlV e i.size v n xs F w) (ht:P.underlying t=some (.slice e)) (hi:P.info? e=some i) (hz:i.zero=some z) (hzs:z.cells.size=i.size)
  (hs:Src P i.size u y m cs w) (hb:(n+m) * i.bytes≤140737488355328) (hnm:n+m≤1000000000) :
  ∃ v' w' F',(Builtin.append_ #[t,u] ty #[v,y]).run P w=.ok v' w'∧SlV e i.size v' (n+m) (xs++cs) F' w'∧Turn F w w'∧(∀ j,F' j→j < w'.heap.size∧(F j∨w.heap.size≤j)):=by
 obtain ⟨hl,hv⟩:=h
 have hcl:=hs.newsLen
 have grow:∀ (base:Option Addr) (c:Nat),v=.slice base n c→c < n+m→(Builtin.firstCells i.size n (.slice base n c)).run P w.drew=.ok xs.toArray w.drew →
   ∃ v' w' F',(Builtin.append_ #[t,u] ty #[v,y]).run P w=.ok v' w'∧SlV e i.size v' (n+m) (xs++cs) F' w'∧Turn F w w'∧(∀ j,F' j→j < w'.heap.size∧(F j∨w.heap.size≤j)):=by
  intro base c hv0 hlt hold
  have hrun:=run_append_grow_src (P:=P) w t u ty e i z ht hi hz base n c xs hold y m cs hs hlt (by omega) (growslice_fits hlt hb)
  have hcap:=grownCap_ge w (n+m) c e
  generalize grownCap w (n+m) c e=cap at hrun hcap
  refine ⟨.slice (some ⟨w.heap.size,0,none⟩) (n+m) cap,w.drew.alloc (.cells ((xs++cs).toArray++Builtin.zeroCells z.cells (cap - (n+m))) e),(fun j=>j=w.heap.size),by rw [hv0]; exact hrun,⟨by rw [List.length_append,hl,hcl,Nat.add_mul],.inr ⟨w.heap.size,0,cap,(xs++cs).toArray++Builtin.zeroCells z.cells (cap - (n+m)),rfl,fun _=>Iff.rfl,?_,?_,?_,hcap⟩⟩,⟨rfl,rfl,rfl,by simp,fun k hk _=>?_⟩,fun j hj=>?_⟩
  ·show (w.heap.push _)[w.heap.size]? = _
   rw [Array.getElem?_push_size]
  ·intro k hk
   rw [Nat.zero_add,Array.getElem?_append_left (by simp [hl,hcl,← Nat.add_mul]; exact hk)]
   simp
  ·have e2:(Builtin.zeroCells z.cells (cap - (n+m))).size=(cap - (n+m)) * i.size:=by simp [Builtin.zeroCells,hzs]
   rw [Array.size_append,e2]
   simp only [List.size_toArray,List.length_append,hl,hcl]
   rw [Nat.zero_add,← Nat.add_mul,← Nat.add_mul]
   rw [show n+m+(cap - (n+m))=cap by omega]
   exact Nat.le_refl _
  ·exact Below.heap_alloc _ _ _ hk
  ·rw [hj]
   exact ⟨by simp,.inr (Nat.le_refl _)⟩
 rcases hv with ⟨hv,rfl,hF⟩ | ⟨b,off,c,arr,hv,hF,hb0,hx,hsz,hnc⟩
 ·by_cases hm:m=0
  ·subst hm
   have hcs:cs=[]:=List.eq_nil_of_length_eq_zero (by rw [hcl]; simp)
   subst hcs
   refine ⟨v,w,F,?_,⟨by simpa using hl,.inl ⟨hv,rfl,hF⟩⟩,⟨rfl,rfl,rfl,Nat.le_refl _,fun _ _ _=>rfl⟩,fun j hj=>(hF j hj).elim⟩
   obtain ⟨a,hv⟩:=hv.base
   rw [hv]
   exact run_append_nothing w t u ty e i ht hi a 0 0 (Nat.le_refl _) y hs
  ·have hxs:xs=[]:=List.eq_nil_of_length_eq_zero (by rw [hl]; simp)
   rcases hv with hv | ⟨b,off,hv⟩
   ·exact grow none 0 hv (by omega) (by rw [hxs]; exact run_firstCells_none _ _ _ _ _)
   ·exact grow (some ⟨b,off,none⟩) 0 hv (by omega) (run_firstCells_some _ _ _ _ _ _ _ hl (fun j x hj=>by rw [hxs] at hj; cases hj))
 ·by_cases hroom:n+m≤c
  ·have hnm':(n+m) * i.size≤c * i.size:=Nat.mul_le_mul_right _ hroom
   rw [Nat.add_mul] at hnm'
   have cell:∀ j,j < cs.length→∃ x,w.cell? ⟨b,off+n * i.size+j,none⟩=some x:=by
    intro j hj
    have hlt:off+n * i.size+j < arr.size:=by omega
    exact ⟨arr[off+n * i.size+j],by simp [World.cell?,hb0,Array.getElem?_eq_getElem hlt]⟩
   have hrun:=run_append_room_src (P:=P) w t u ty e i ht hi b off n c y m cs hs hroom (fun j hj=>by obtain ⟨x,hx⟩:=cell j hj; rw [hx]; rfl) (fun j hj=>by simp [World.frozen?,hb0])
   obtain ⟨cur,s1,s2,s3,s4⟩:=@heap_setCells noSig _ _ cs (off+n * i.size) w arr hb0
   refine ⟨_,_,F,by rw [hv]; exact hrun,⟨by rw [List.length_append,hl,hcl,Nat.add_mul],.inr ⟨b,off,c,cur,rfl,hF,s1,?_,by rw [s2]; exact hsz,hroom⟩⟩,⟨?_,?_,?_,by rw [@setCells_size noSig]; exact Nat.le_refl _,fun k _ hk=>@setCells_other noSig _ _ _ _ _ (fun e=>hk ((hF k).2 e))⟩,fun j hj=>⟨?_,.inl hj⟩⟩
   ·intro k hk
    by_cases hkn:k < n * i.size
    ·rw [s3 _ (by omega),hx k hkn,List.getElem?_append_left (by omega)]
    ·have e1:off+k=off+n * i.size+(k - n * i.size):=by omega
     rw [Nat.add_mul] at hk
     have hlt2:k - n * i.size < cs.length:=by omega
     rw [List.getElem?_append_right (by omega),hl,e1,List.getElem?_eq_getElem hlt2]
     exact s4 _ _ (List.getElem?_eq_getElem hlt2) (by omega)
   ·exact (@setCells_below noSig (base:=fun _=>False) (b:=b) (fun h=>h) cs (off+n * i.size) w).os
   ·exact (@setCells_below noSig (base:=fun _=>False) (b:=b) (fun h=>h) cs (off+n * i.size) w).tape
   ·exact (@setCells_below noSig (base:=fun _=>False) (b:=b) (fun h=>h) cs (off+n * i.size) w).output
   ·rw [@setCells_size noSig,(hF j).1 hj]
    exact (Array.getElem?_eq_some_iff.1 hb0).1
  ·refine grow (some ⟨b,off,none⟩) c hv (by omega) (run_firstCells_some _ _ _ _ _ _ _ hl (fun j x hj=>?_))
   have hjl:j < n * i.size:=by
    rw [← hl]
    exact (List.getElem?_eq_some_iff.1 hj).1
   have:=hx j hjl
   rw [hj] at this
   show w.cell? ((⟨b,off,none⟩ : Addr).add j)=some x
   rw [addMk]
   simp [World.cell?,hb0,this]
section
variable {P:Program} {t e:TypeId} {i:TypeInfo} {v:Value} {n:Nat} {xs:List Value} {F:Nat→Prop} {w:World}
theorem SlV.len (h:SlV e i.size v n xs F w) (ht:P.underlying t=some (.slice e)) (ty:TypeId) : (Builtin.len_ #[t] ty #[v]).run P w=.ok (.int .i64 n) w:=by
 obtain ⟨h1,⟨rfl | ⟨b,off,rfl⟩,rfl,_⟩ | ⟨b,off,c,arr,rfl,_⟩⟩:=h <;> simp [Builtin.len_,run_underlying ht,goInt]
theorem SlV.drop (h:SlV e i.size v n xs F w) (ht:P.underlying t=some (.slice e)) (hi:P.info? e=some i) {kd:IntKind} {lo:Nat} (hlo:lo≤n) :
  ∃ v',(Instr.sliceAt t v (some (.int kd lo)) none none).run P w=.ok v' w∧SlV e i.size v' (n - lo) (xs.drop (lo * i.size)) F w:=by
 obtain ⟨h1,h2⟩:=h
 have hle:=Nat.mul_le_mul_right i.size hlo
 have hbd:∀ c:Nat,n≤c→(Instr.sliceBounds true n c (some (.int kd lo)) none none).run P w=.ok (lo,n,c) w:=by
  intro c hc
  simp [Instr.sliceBounds,run_sliceBound,hlo,hc]
 have hs:(Instr.sliceAt t v (some (.int kd lo)) none none).run P w=(Instr.slice t v (some (.int kd lo)) none none).run P w:=by
  simp [Instr.sliceAt,run_underlying ht]
 rcases h2 with ⟨he,rfl,hF⟩ | ⟨b,off,c,arr,rfl,hF,hb0,hx,hsz,hnc⟩
 ·obtain rfl:lo=0:=by omega
  refine ⟨v,?_,⟨by simp [h1],.inl ⟨he,rfl,hF⟩⟩⟩
  rw [hs]
  rcases he with rfl | ⟨b,off,rfl⟩
  ·simp only [Instr.slice,Sem.run_bind,run_underlying ht,Result.andThen]
   rw [hbd 0 (Nat.le_refl _)]
   simp [sizeOf,typeInfo,hi]
  ·simp only [Instr.slice,Sem.run_bind,run_underlying ht,Result.andThen]
   rw [hbd 0 (Nat.le_refl _)]
   simp [sizeOf,typeInfo,hi]
 ·have hlc:=Nat.mul_le_mul_right i.size (Nat.le_trans hlo hnc)
  by_cases e1:c=lo
  ·obtain rfl:n=lo:=by omega
   subst e1
   refine ⟨.slice (some ⟨b,off,none⟩) 0 0,?_,⟨by simp [h1],.inr ⟨b,off,0,arr,by rw [Nat.sub_self],hF,hb0,fun k hk=>by simp at hk,by omega,by omega⟩⟩⟩
   rw [hs]
   simp only [Instr.slice,Sem.run_bind,run_underlying ht,Result.andThen]
   rw [hbd c (Nat.le_refl _)]
   simp [sizeOf,typeInfo,hi]
  ·refine ⟨.slice (some ⟨b,off+lo * i.size,none⟩) (n - lo) (c - lo),?_,⟨by rw [List.length_drop,h1,Nat.sub_mul],.inr ⟨b,off+lo * i.size,c - lo,arr,rfl,hF,hb0,fun k hk=>?_,?_,by omega⟩⟩⟩
   ·rw [hs]
    simp only [Instr.slice,Sem.run_bind,run_underlying ht,Result.andThen]
    rw [hbd c hnc]
    simp [sizeOf,typeInfo,hi,e1,addMk]
   ·rw [Nat.sub_mul] at hk
    rw [List.getElem?_drop,Nat.add_assoc]
    exact hx _ (by omega)
   ·rw [Nat.sub_mul]
    omega
theorem SlV.take (h:SlV e i.size v n xs F w) (ht:P.underlying t=some (.slice e)) (hi:P.info? e=some i) {kd:IntKind} {m:Nat} (hm:m≤n) :
  ∃ v',(Instr.sliceAt t v none (some (.int kd m)) none).run P w=.ok v' w∧SlV e i.size v' m (xs.take (m * i.size)) F w:=by
 obtain ⟨h1,h2⟩:=h
 have hle:=Nat.mul_le_mul_right i.size hm
 have hs:(Instr.sliceAt t v none (some (.int kd m)) none).run P w=(Instr.slice t v none (some (.int kd m)) none).run P w:=by
  simp [Instr.sliceAt,run_underlying ht]
 rcases h2 with ⟨he,rfl,hF⟩ | ⟨b,off,c,arr,rfl,hF,hb0,hx,hsz,hnc⟩
 ·obtain rfl:m=0:=by omega
  refine ⟨v,?_,⟨by simp,.inl ⟨he,rfl,hF⟩⟩⟩
  rw [hs]
  rcases he with rfl | ⟨b,off,rfl⟩
  ·simp [Instr.slice,run_underlying ht,Instr.sliceBounds,run_sliceBound,sizeOf,typeInfo,hi]
  ·simp [Instr.slice,run_underlying ht,Instr.sliceBounds,run_sliceBound,sizeOf,typeInfo,hi]
 ·refine ⟨.slice (some ⟨b,off,none⟩) m c,?_,⟨by rw [List.length_take,h1]; omega,.inr ⟨b,off,c,arr,rfl,hF,hb0,fun k hk=>?_,hsz,by omega⟩⟩⟩
  ·rw [hs]
   have hmc:(m:Int)≤c:=by omega
   simp [Instr.slice,run_underlying ht,Instr.sliceBounds,run_sliceBound,sizeOf,typeInfo,hi,hmc,addMk]
  ·rw [List.getElem?_take,if_pos hk]
   exact hx k (by omega)
theorem SlV.at (h:SlV e i.size v n xs F w) (ht:P.underlying t=some (.slice e)) (hi:P.info? e=some i) {kd:IntKind} {k:Nat} (hk:k < n) :
  ∃ b off c,v=.slice (some ⟨b,off,none⟩) n c∧(Instr.indexAt t v (.int kd k)).run P w=.ok (.pointer (some ⟨b,off+k * i.size,none⟩)) w∧F b∧∀ j,j < i.size→w.cell? ⟨b,off+k * i.size+j,none⟩=xs[k * i.size+j]?∧w.frozen? ⟨b,off+k * i.size+j,none⟩=false:=by
 obtain ⟨h1,h2⟩:=h
 rcases h2 with ⟨_,rfl,hF⟩ | ⟨b,off,c,arr,rfl,hF,hb0,hx,hsz,hnc⟩
 ·omega
 ·refine ⟨b,off,c,rfl,?_,(hF b).2 rfl,fun j hj=>?_⟩
  ·have hc:(0:Int)≤(k:Int)∧(k:Int) < (n:Int):=⟨by omega,by omega⟩
   simp [Instr.indexAt,run_underlying ht,hc,sizeOf,typeInfo,hi,addMk,asIntOf]
   intro h
   omega
  ·have hlt:k * i.size+j < n * i.size:=by
    have:=Nat.mul_le_mul_right i.size (show k+1≤n by omega)
    rw [Nat.add_mul] at this
    omega
   refine ⟨?_,by simp [World.frozen?,hb0]⟩
   rw [← hx _ hlt]
   simp [World.cell?,hb0,Nat.add_assoc]
theorem SlV.set {sz b off c k:Nat} (h:SlV e sz v n xs F w) (hv:v=.slice (some ⟨b,off,none⟩) n c) (hk:k < n * sz) (x:Value) : SlV e sz v n (xs.set k x) F (w.setCell ⟨b,off+k,none⟩ x):=by
 obtain ⟨h1,h2⟩:=h
 rcases h2 with ⟨_,rfl,hF⟩ | ⟨b',off',c',arr,hv',hF,hb0,hx,hsz,hnc⟩
 ·simp at hk
 ·rw [hv] at hv'
  cases hv'
  have hn:=Nat.mul_le_mul_right sz hnc
  refine ⟨by simpa using h1,.inr ⟨b,off,c,arr.setIfInBounds (off+k) x,hv,hF,@heap_setCell_same noSig _ _ _ _ _ _ hb0,fun i hi=>?_,by simpa using hsz,hnc⟩⟩
  rw [Array.getElem?_setIfInBounds,List.getElem?_set]
  by_cases e:k=i
  ·subst e
   rw [if_pos rfl,if_pos rfl,if_pos (by omega),if_pos (by omega)]
  ·rw [if_neg (by omega),if_neg e]
   exact hx i hi
end
end Go.Ev
namespace Go.Ev
open Go.RowKit
set_option linter.unusedVariables false
set_option linter.unusedSimpArgs false
set_option linter.unusedSectionVars false
structure StarAt (l:List Asr) (Fs:List (Nat→Prop)) (ι:Ren) (F:Nat→Prop) (w:World) : Prop where
 len:Fs.length=l.length
 holds:∀ (i:Nat) a f,l[i]? = some a→Fs[i]? = some f→a.p ι f w
 apart:∀ (i j:Nat) f f',i ≠ j→Fs[i]? = some f→Fs[j]? = some f'→∀ x,f x→¬ f' x
 all:∀ x,F x↔∃ (i:Nat) (f:Nat→Prop),Fs[i]? = some f∧f x
def star (l:List Asr) : Asr where
 p:=fun ι F w=>∃ Fs,StarAt l Fs ι F w
 keep:=fun ι F w w' hk ⟨Fs,h⟩=>⟨Fs,h.len,fun i a f h1 h2=>a.keep ι f w w' (fun j hj=>hk j ((h.all j).2 ⟨i,f,h2,hj⟩)) (h.holds i a f h1 h2),h.apart,h.all⟩
 mono:=fun ι κ F w hk ⟨Fs,h⟩=>⟨Fs,h.len,fun i a f h1 h2=>a.mono ι κ f w hk (h.holds i a f h1 h2),h.apart,h.all⟩
theorem StarAt.turn {l l':List Asr} {Fs Fs':List (Nat→Prop)} {ι κ:Ren} {F:Nat→Prop} {w w':World} (h:StarAt l Fs ι F w) (lt:∀ x,F x→x < w.heap.size) (C:Nat→Prop) (hle:RLe ι κ) (hl:l'.length=l.length) (hf:Fs'.length=Fs.length)
  (same:∀ i:Nat,¬ C i→l'[i]? = l[i]?∧Fs'[i]? = Fs[i]?) (new:∀ (i:Nat) a f,C i→l'[i]? = some a→Fs'[i]? = some f→a.p κ f w')
  (dis:∀ (i j:Nat) f f',C i→C j→i ≠ j→Fs'[i]? = some f→Fs'[j]? = some f'→∀ x,f x→¬ f' x)
  (sub:∀ (i:Nat) f,C i→Fs'[i]? = some f→∀ x,f x→x < w'.heap.size∧((∃ (j:Nat) (f0:Nat→Prop),C j∧Fs[j]? = some f0∧f0 x)∨w.heap.size≤x))
  (ht:Turn (fun x=>∃ (j:Nat) (f0:Nat→Prop),C j∧Fs[j]? = some f0∧f0 x) w w') :
  ∃ F',StarAt l' Fs' κ F' w'∧Turn F w w'∧∀ x,F' x→x < w'.heap.size∧(F x∨w.heap.size≤x):=by
 have hlt:∀ (i:Nat) f,Fs[i]? = some f→∀ x,f x→x < w.heap.size:=fun i f hi x hx=>lt x ((h.all x).2 ⟨i,f,hi,hx⟩)
 refine ⟨fun x=>∃ (i:Nat) (f:Nat→Prop),Fs'[i]? = some f∧f x,⟨by rw [hf,hl,h.len],fun i a f h1 h2=>?_,fun i j f f' hij h1 h2 x hx hx'=>?_,fun x=>Iff.rfl⟩,⟨ht.os,ht.tape,ht.output,ht.size,fun x hx hn=>ht.block x hx (fun ⟨j,f0,_,q2,q3⟩=>hn ((h.all x).2 ⟨j,f0,q2,q3⟩))⟩,?_⟩
 ·by_cases hc:C i
  ·exact new i a f hc h1 h2
  ·obtain ⟨s1,s2⟩:=same i hc
   rw [s1] at h1
   rw [s2] at h2
   refine a.mono ι κ f w' hle (a.keep ι f w w' (fun x hx=>ht.block x (hlt i f h2 x hx) ?_) (h.holds i a f h1 h2))
   rintro ⟨j,f0,q1,q2,q3⟩
   exact h.apart i j f f0 (fun e=>hc (e ▸ q1)) h2 q2 x hx q3
 ·by_cases hc:C i
  ·by_cases hc':C j
   ·exact dis i j f f' hc hc' hij h1 h2 x hx hx'
   ·rw [(same j hc').2] at h2
    rcases (sub i f hc h1 x hx).2 with ⟨j0,f0,q1,q2,q3⟩ | q
    ·exact h.apart j0 j f0 f' (fun e=>hc' (e ▸ q1)) q2 h2 x q3 hx'
    ·have:=hlt j f' h2 x hx'
     omega
  ·rw [(same i hc).2] at h1
   by_cases hc':C j
   ·rcases (sub j f' hc' h2 x hx').2 with ⟨j0,f0,q1,q2,q3⟩ | q
    ·exact h.apart i j0 f f0 (fun e=>hc (e ▸ q1)) h1 q2 x hx q3
    ·have:=hlt i f h1 x hx
     omega
   ·rw [(same j hc').2] at h2
    exact h.apart i j f f' hij h1 h2 x hx hx'
 ·rintro x ⟨i,f,h1,hx⟩
  by_cases hc:C i
  ·refine ⟨(sub i f hc h1 x hx).1,(sub i f hc h1 x hx).2.imp (fun ⟨j,f0,_,q2,q3⟩=>(h.all x).2 ⟨j,f0,q2,q3⟩) id⟩
  ·rw [(same i hc).2] at h1
   have:=hlt i f h1 x hx
   exact ⟨Nat.lt_of_lt_of_le this ht.size,.inl ((h.all x).2 ⟨i,f,h1,hx⟩)⟩
theorem get_set {α:Type} {l:List α} {i:Nat} (hi:i < l.length) (x:α) (j:Nat) : (l.set i x)[j]? = if i=j then some x else l[j]?:=by
 rw [List.getElem?_set]
 by_cases e:i=j
 ·subst e; simp [hi]
 ·simp [e]
theorem StarAt.one {l:List Asr} {Fs:List (Nat→Prop)} {ι κ:Ren} {F f:Nat→Prop} {w w':World} (h:StarAt l Fs ι F w) (lt:∀ x,F x→x < w.heap.size) {i:Nat} (hi:Fs[i]? = some f) (hle:RLe ι κ) (a':Asr) (f':Nat→Prop) (ha:a'.p κ f' w') (ht:Turn f w w')
  (hs:∀ x,f' x→x < w'.heap.size∧(f x∨w.heap.size≤x)) : ∃ F',(star (l.set i a')).p κ F' w'∧Turn F w w'∧∀ x,F' x→x < w'.heap.size∧(F x∨w.heap.size≤x):=by
 have hlt:i < Fs.length:=(List.getElem?_eq_some_iff.1 hi).1
 have hlt':i < l.length:=by rw [← h.len]; exact hlt
 obtain ⟨F',h1,h2⟩:=h.turn (l':=l.set i a') (Fs':=Fs.set i f') lt (fun j=>j=i) hle (by simp) (by simp) (fun j hj=>by rw [get_set hlt',get_set hlt,if_neg (fun e=>hj e.symm),if_neg (fun e=>hj e.symm)]; exact ⟨rfl,rfl⟩)
  (fun j a g hj h1 h2=>by
   subst hj
   rw [get_set hlt',if_pos rfl] at h1
   rw [get_set hlt,if_pos rfl] at h2
   cases h1; cases h2
   exact ha)
  (fun j k g g' hj hk hjk=>absurd (hj.trans hk.symm) hjk)
  (fun j g hj h1 x hx=>by
   subst hj
   rw [get_set hlt,if_pos rfl] at h1
   cases h1
   exact ⟨(hs x hx).1,(hs x hx).2.imp (fun hf=>⟨j,f,rfl,hi,hf⟩) id⟩)
  ⟨ht.os,ht.tape,ht.output,ht.size,fun x hx hn=>ht.block x hx (fun hf=>hn ⟨i,f,rfl,hi,hf⟩)⟩
 exact ⟨F',⟨_,h1⟩,h2⟩
end Go.Ev
