/- Part of a proof: see the last text. -/
import Derived.Test.YtimhpaijbbegaaaZw14
import GoSem.Core.CheckCode
namespace Go.Ev
open Go.RowKit
set_option linter.unusedVariables false
set_option linter.unusedSimpArgs false
set_option linter.unusedSectionVars false
variable [Sig]
theorem bind_ok {ε α β:Type} {x:Except ε α} {f:α→Except ε β} {r:β} (h:x >>= f=.ok r) : ∃ a,x=.ok a∧f a=.ok r:=by
 cases x with
 | error e=>cases h
 | ok a=>exact ⟨a,rfl,h⟩
theorem forM_ok {ε α:Type} {f:α→Except ε Unit} : ∀ {l:List α},l.forM f=.ok ()→∀ x ∈ l,f x=.ok ():=by
 intro l
 induction l with
 | nil=>intro _ x hx; cases hx
 | cons y rest ih =>
  intro h x hx
  obtain ⟨u,h1,h2⟩:=bind_ok (show f y >>= (fun _=>rest.forM f)=.ok () from h)
  rcases List.mem_cons.1 hx with e | e
  ·rw [e]; exact h1
  ·exact ih h2 x e
theorem require_ok {b:Bool} {m:String} (h:CheckCode.require b m=.ok ()) : b=true:=by
 cases b with
 | true=>rfl
 | false=>cases h
theorem CodeOK.seq {P:Program} {x y:Code} (h:CodeOK P (.seq x y)) : CodeOK P x∧CodeOK P y:=by
 obtain ⟨fn,bl,lb,h⟩:=h
 unfold CheckCode.code at h
 obtain ⟨_,h1,h2⟩:=bind_ok h
 exact ⟨⟨fn,bl,lb,h1⟩,⟨fn,bl,lb,h2⟩⟩
theorem CodeOK.cond {P:Program} {c:Operand} {x y:Code} (h:CodeOK P (.cond c x y)) : CodeOK P x∧CodeOK P y:=by
 obtain ⟨fn,bl,lb,h⟩:=h
 unfold CheckCode.code at h
 obtain ⟨_,_,h⟩:=bind_ok h
 obtain ⟨_,h1,h2⟩:=bind_ok h
 exact ⟨⟨fn,bl,lb,h1⟩,⟨fn,bl,lb,h2⟩⟩
theorem CodeOK.block {P:Program} {id:Nat} {x:Code} (h:CodeOK P (.block id x)) : CodeOK P x:=by
 obtain ⟨fn,bl,lb,h⟩:=h
 unfold CheckCode.code at h
 exact ⟨fn,_,_,h⟩
theorem CodeOK.loop {P:Program} {x:Code} (h:CodeOK P (.loop x)) : CodeOK P x:=by
 obtain ⟨fn,bl,lb,h⟩:=h
 unfold CheckCode.code at h
 exact ⟨fn,_,_,h⟩
theorem CodeOK.scope {P:Program} {x:Code} (h:CodeOK P (.scope x)) : CodeOK P x:=by
 obtain ⟨fn,bl,lb,h⟩:=h
 unfold CheckCode.code at h
 exact ⟨fn,_,_,h⟩
theorem code_label {P:Program} {fn:Func} {bl lb:List Nat} {l:Nat} : ∀ {c rest:Code},CheckCode.code P fn bl lb c=.ok ()→findLabel c l=some rest→CheckCode.code P fn bl lb rest=.ok ():=by
 intro c
 induction c with
 | seq x y ihx ihy =>
  intro rest h hf
  unfold CheckCode.code at h
  obtain ⟨_,h1,h2⟩:=bind_ok h
  unfold findLabel at hf
  split at hf
  ·rename_i r hr
   cases hf
   have:=ihx h1 hr
   unfold CheckCode.code
   rw [this]
   exact h2
  ·exact ihy h2 hf
 | label l' =>
  intro rest h hf
  unfold findLabel at hf
  split at hf
  ·cases hf; rfl
  ·cases hf
 | _=>intro rest h hf; cases hf
theorem CodeOK.label {P:Program} {c rest:Code} {l:Nat} (h:CodeOK P c) (hf:findLabel c l=some rest) : CodeOK P rest:=by
 obtain ⟨fn,bl,lb,h⟩:=h
 exact ⟨fn,bl,lb,code_label h hf⟩
theorem wp_scope_once {P:Program} {c:Code} {a:Act} {w:World} {Q:Exit→Act→World→Prop} (h:c.wp P (fun e a w=>match e with | .goto l=>∃ rest,findLabel c l=some rest∧rest.wp P (Exit.noGoto Q) a w | e=>Q e a w) a w) : (Code.scope c).wp P Q a w:=by
 intro b k cs
 obtain ⟨e,a₁,w₁,hq,harr⟩:=h b (.inScope c::k) cs
 cases e with
 | normal=>exact ⟨.normal,a₁,w₁,hq,.head step_scope (Steps.trans harr (.one step_inScope))⟩
 | exit id=>exact ⟨.exit id,a₁,w₁,hq,fun k' hk=>.head step_scope (harr k' (by simp [exitTo,hk]))⟩
 | goto l =>
  obtain ⟨rest,hf,hr⟩:=hq
  have hg:gotoIn l (.inScope c::k)=some (.code rest::.inScope c::k):=by simp [gotoIn,hf]
  obtain ⟨e₂,a₂,w₂,hq₂,harr₂⟩:=hr b (.inScope c::k) cs
  cases e₂ with
  | normal=>exact ⟨.normal,a₂,w₂,hq₂,.head step_scope (Steps.trans (harr _ hg) (Steps.trans harr₂ (.one step_inScope)))⟩
  | exit id=>exact ⟨.exit id,a₂,w₂,hq₂,fun k' hk=>.head step_scope (Steps.trans (harr _ hg) (harr₂ k' (by simp [exitTo,hk])))⟩
  | goto l'=>exact hq₂.elim
  | ret=>exact ⟨_,a₂,w₂,hq₂,.of_steps (.head step_scope (harr _ hg)) harr₂⟩
  | panic ch=>exact ⟨_,a₂,w₂,hq₂,.of_steps (.head step_scope (harr _ hg)) harr₂⟩
  | outgrown=>exact ⟨_,a₂,w₂,hq₂,.of_steps (.head step_scope (harr _ hg)) harr₂⟩
 | ret=>exact ⟨_,a₁,w₁,hq,.of_steps (.one step_scope) harr⟩
 | panic ch=>exact ⟨_,a₁,w₁,hq,.of_steps (.one step_scope) harr⟩
 | outgrown=>exact ⟨_,a₁,w₁,hq,.of_steps (.one step_scope) harr⟩
theorem CodeOK.region {P:Program} {id:Nat} {ops:Array Oper} {draw:Bool} (h:CodeOK P (.region id ops draw)) : Region.ok P.types ops draw=true:=by
 obtain ⟨fn,bl,lb,h⟩:=h
 unfold CheckCode.code at h
 unfold CheckCode.region at h
 obtain ⟨_,_,h⟩:=bind_ok h
 obtain ⟨_,_,h⟩:=bind_ok h
 exact require_ok h
theorem CodeOK.rangeFunc {P:Program} {g:Operand} {ps:Array Tmp} {x y:Code} (h:CodeOK P (.rangeFunc g ps x y)) : CodeOK P x∧CodeOK P y:=by
 obtain ⟨fn,bl,lb,h⟩:=h
 unfold CheckCode.code at h
 obtain ⟨_,_,h⟩:=bind_ok h
 obtain ⟨_,_,h⟩:=bind_ok h
 obtain ⟨_,_,h⟩:=bind_ok h
 obtain ⟨_,h1,h2⟩:=bind_ok h
 exact ⟨⟨fn,_,_,h1⟩,⟨fn,_,_,h2⟩⟩
theorem body_ok {P:Program} (hP:P.check=.ok ()) {f:FuncId} {fn:Func} {body:Code} (hf:P.funcs[f]? = some fn) (hb:fn.body=some body) : CodeOK P body:=by
 unfold Program.check at hP
 obtain ⟨_,h,_⟩:=bind_ok hP
 have hlt:f < P.funcs.size:=(Array.getElem?_eq_some_iff.1 hf).1
 have h1:=forM_ok h f (List.mem_range.2 hlt)
 unfold CheckCode.funcAt at h1
 rw [hf] at h1
 dsimp only at h1
 have h2:CheckCode.func P fn=.ok ():=by
  cases hx:CheckCode.func P fn with
  | ok u=>rfl
  | error e=>rw [hx] at h1; cases h1
 unfold CheckCode.func at h2
 obtain ⟨_,_,h2⟩:=bind_ok h2
 obtain ⟨_,_,h2⟩:=bind_ok h2
 obtain ⟨_,_,h2⟩:=bind_ok h2
 rw [hb] at h2
 dsimp only at h2
 obtain ⟨_,_,h2⟩:=bind_ok h2
 obtain ⟨_,h3,_⟩:=bind_ok h2
 exact ⟨fn,[],[],h3⟩
def EvOK (P:Program) (base:Nat→Prop) (run:Runner) : Prop :=
 ∀ rd c a s ex a1 s1,run rd c a s=some (ex,a1,s1)→CodeOK P c→Win s s.next s1.next→∀ (ι:Ren) (ro:Option Nat) (A:Act) (w:World),RdRel ι rd ro→ActRel ι a A→Rep P base ι s.look w→Fresh ι s s1→∀ Q:Exit→Act→World→Prop,
  (∀ κ A1 w1,ActRel κ a1 A1→Goes P base ι κ s s1 w w1→Q ex A1 w1)→c.wpIn (FR ro) 0 P Q A w
theorem RunLocal.next {run:Runner} (hl:RunLocal run) {rd:Option Nat} {c:Code} {a a1:Act} {s s1:St} {e:Exit} (h:run rd c a s=some (e,a1,s1)) : s.next≤s1.next :=
 (hl rd c a).next (r:=(e,a1)) (by unfold evL; rw [h])
theorem RunLocal.win {run:Runner} (hl:RunLocal run) {rd:Option Nat} {c:Code} {a a1:Act} {s s1:St} {e:Exit} (h:run rd c a s=some (e,a1,s1)) {m:Nat} (hw:Win s s.next m) (hm:s1.next≤m) : Win s1 s1.next m :=
 (hl rd c a).win (r:=(e,a1)) (by unfold evL; rw [h]) hw hm
theorem sim_goes {α β:Type} {P:Program} {base:Nat→Prop} {R:Ren→α→β→Prop} {ι:Ren} {m:Sem α} {m':Sem β} (h:Sim P base R ι m m') {s s1:St} {w:World} {x:α} (hr:Rep P base ι s.look w) (hx:arun P m s=some (x,s1)) (hfr:Fresh ι s s1) :
  ∃ κ y w1,m'.run P w=.ok y w1∧R κ x y∧Goes P base ι κ s s1 w w1:=by
 obtain ⟨κ,y,w1,h1,h2,h3,h4,h5⟩:=h s w x s1 hr hx hfr
 exact ⟨κ,y,w1,h1,h4,h2,h3,h5⟩
theorem marks_sound {P:Program} {base:Nat→Prop} {fn:Func} {T:Array Value} {R:Ending→World→Prop} : ∀ (ds ds':List Deferred) (s s1:St) (ι:Ren) (w:World),DRel ι ds ds'→amarks P ds s=some ((),s1)→Rep P base ι s.look w→Fresh ι s s1 →
  (∀ κ w1,Goes P base ι κ s s1 w w1→LeavesInM Fence.wide 0 P fn T R [] .returning w1)→LeavesInM Fence.wide 0 P fn T R ds' .returning w:=by
 intro ds
 induction ds with
 | nil =>
  intro ds' s s1 ι w hd h hr hfr hg
  cases hd
  cases h
  exact hg ι w (Goes.refl hr)
 | cons d ds ih =>
  intro ds' s s1 ι w hd h hr hfr hg
  cases hd with
  | cons r r' l l' hr' ht =>
   simp only [amarks] at h
   split at h
   ·rename_i x s2 hx
    have n1:=arun_next P _ _ _ _ hx
    have n2:=(amarks_local P ds).next h
    obtain ⟨κ,y,w1,h1,⟨e1,e2⟩,g⟩:=sim_goes (sim_takeDeferred (P:=P) (base:=base) hr') hr hx (hfr.left n2)
    subst e2
    refine ⟨(fun h=>by cases h),.inl ⟨r',w1,rfl,h1,?_⟩⟩
    exact ih l' s2 s1 κ w1 (ht.mono (g.le (hfr.left n2))) h g.rep (hfr.right g n1) (fun μ w2 g2=>hg μ w2 (g.trans g2 n1 n2))
   ·cases h
theorem acallF_ok {P:Program} {base:Nat→Prop} (hP:P.check=.ok ()) (hcal:CalOK P) {run:Runner} (hl:RunLocal run) (hrun:EvOK P base run) :
  ∀ f args s v s1,acallF P run f args s=some (v,s1)→Win s s.next s1.next→∀ ι args' w,Rep P base ι s.look w→ARel ι args args'→Fresh ι s s1 →
   Calls P f args' w fun e w1=>∃ κ v',e=.returned v'∧Goes P base ι κ s s1 w w1∧VRel κ v v':=by
 intro f args s v s1 h hwin
 unfold acallF at h
 split at h
 ·rename_i r hq
  cases h
  intro ι args' w hr ha hfr
  refine (hcal.cal f args _ hq ι args' w ha).mono ?_
  rintro e w1 ⟨v',rfl,hv,hb⟩
  exact ⟨ι,v',rfl,Goes.below_all hr hb _ (fun _=>rfl),hv⟩
 ·split at h
  ·rename_i q hq
   intro ι args' w hr ha hfr
   obtain ⟨g,F,ng,g1,g2,g3,g4,g5⟩:=agop_sound h hwin hr hfr
   refine (hcal.gcal f args q hq g _ _ ng g1 ι args' F w ha g2 g3 g4).mono ?_
   rintro e w1 ⟨v',rfl,hg⟩
   obtain ⟨κ,gg,hv⟩:=g5 v' w1 hg
   exact ⟨κ,v',rfl,gg,hv⟩
  split at h
  case h_2=>cases h
  rename_i fn hf
  split at h
  ·rename_i body hb
   split at h
   ·rename_i ex a s2 hr1
    unfold aleave at h
    split at h
    ·rename_i hex
     split at h
     ·rename_i s3 hmk
      have n1:=hl.next hr1
      have n2:=(amarks_local P a.defers).next hmk
      have n3:=arun_next P _ _ _ _ h
      have hs:=hrun _ _ _ _ _ _ _ hr1 (body_ok hP hf hb) (hwin.left (Nat.le_trans n2 n3))
      intro ι args' w hr ha hfr
      refine callsIn_wide.1 (callsIn_of_wp_marks (F:=Fence.wide) (n:=0) hf hb trivial ?_)
      have hact:ActRel ι { tmps:=args++Array.replicate (fn.ntmps - args.size) undef,defers:=[] } { tmps:=args'++Array.replicate (fn.ntmps - args'.size) undef,defers:=[] }:=by
       refine ⟨?_,.nil⟩
       rw [ha.1]
       refine ha.append (ARel.of_flat (fun i x hx=>?_))
       rw [Array.getElem?_replicate] at hx
       split at hx
       ·cases hx; exact undef_rel ι
       ·cases hx
      refine hs ι none _ w trivial hact hr (hfr.left (Nat.le_trans n2 n3)) _ (fun κ A1 w1 hA1 g=>?_)
      have f1:=hfr.right g n1
      have fin:LeavesInM Fence.wide 0 P fn A1.tmps (fun e w1=>∃ κ v',e=.returned v'∧Goes P base ι κ s s1 w w1∧VRel κ v v') A1.defers .returning w1:=by
       refine marks_sound a.defers A1.defers s2 s3 κ w1 hA1.dfs hmk g.rep (f1.left n3) (fun μ w2 g2=>?_)
       have f2:=f1.right g2 n2
       obtain ⟨ν,v',w3,r1,r4,g3⟩:=sim_goes (sim_results (P:=P) (base:=base) fn (hA1.tmps.mono (g2.le (f1.left n3)))) g2.rep h f2
       have hw:=results_still (P:=P) fn A1.tmps w2 v' w3 r1
       subst hw
       exact ⟨v',r1,ν,v',rfl,g.trans (g2.trans g3 n2 n3) n1 (Nat.le_trans n2 n3),r4⟩
      cases ex with
      | normal=>exact fin
      | ret=>exact fin
      | _=>cases hex
     ·cases h
    ·cases h
   ·cases h
  ·cases h
theorem acallR_ok {P:Program} {base:Nat→Prop} {run:Runner} (hl:RunLocal run) (hrun:EvOK P base run) :
  ∀ l tmps assign body s v s1,acallR P run l tmps assign body s=some (v,s1)→CodeOK P assign→CodeOK P body→Win s s.next s1.next→∀ ι l' tmps' w,Rep P base ι s.look w→ι l=some l'→ARel ι tmps tmps'→Fresh ι s s1 →
   ∀ f',RoundIn Fence.wide 0 P l' f' tmps' assign body w fun e w1=>∃ κ v',e=.returned v'∧Goes P base ι κ s s1 w w1∧VRel κ v v':=by
 intro l tmps assign body s v s1 h o1 o2 hwin ι l' tmps' w hr hl' ht hfr f'
 unfold acallR at h
 split at h
 case h_2=>cases h
 rename_i e1 a1 s2 h1
 split at h
 case isFalse=>cases h
 rename_i hno
 split at h
 case h_2=>cases h
 rename_i u s3 h2
 split at h
 case h_2=>cases h
 rename_i e2 a2 s4 h3
 have m1:=hl.next h1
 have m2:=arun_next P _ _ _ _ h2
 have m3:=hl.next h3
 have m4:s4.next≤s1.next:=by
  unfold aend at h
  split at h
  ·exact arun_next P _ _ _ _ h
  ·cases h
 have e1n:e1=.normal:=by cases e1 <;> first | rfl | cases hno
 subst e1n
 refine roundIn_of_wpIn (F:=Fence.wide) trivial ?_
 have w2:=hl.win h1 hwin (by omega)
 have w3:=(arun_local P (Instr.beginRound l)).win h2 w2 (by omega)
 refine hrun _ _ _ _ _ _ _ h1 o1 (hwin.left (by omega)) ι (some l') _ w hl' ⟨ht,.nil⟩ hr (hfr.left (by omega)) _ (fun κ A1 w1 hA1 g=>?_)
 have f1:=hfr.right g m1
 have k1:κ l=some l':=(g.le (hfr.left (by omega))) _ _ hl'
 obtain ⟨μ,y,w2',r1,_,g2⟩:=sim_goes (sim_beginRound (P:=P) (base:=base) k1) g.rep h2 (f1.left (by omega))
 have f2:=f1.right g2 m2
 have le2:=g2.le (f1.left (by omega))
 refine ⟨w2',r1,?_⟩
 refine hrun _ _ _ _ _ _ _ h3 o2 (w3.left (by omega)) μ (some l') A1 w2' (le2 _ _ k1) (hA1.mono le2) g2.rep (f2.left (by omega)) _ (fun ν A2 w3' hA2 g3=>?_)
 have f3:=f2.right g3 m3
 have le3:=g3.le (f2.left (by omega))
 unfold aend at h
 split at h
 ·rename_i j hj
  obtain ⟨ξ,v',w4,q1,q2,g4⟩:=sim_goes (sim_endRound (P:=P) (base:=base) (le3 _ _ (le2 _ _ k1)) j) g3.rep h f3
  have gg:Goes P base ι ξ s s1 w w4:=g.trans (g2.trans (g3.trans g4 m3 m4) m2 (by omega)) m1 (by omega)
  cases e2 with
  | normal=>cases hj; exact ⟨v',w4,q1,ξ,v',rfl,gg,q2⟩
  | ret=>cases hj; exact ⟨v',w4,q1,ξ,v',rfl,gg,q2⟩
  | exit id=>cases hj; exact ⟨v',w4,q1,ξ,v',rfl,gg,q2⟩
  | _=>cases hj
 ·cases h
theorem acall_ok {P:Program} {base:Nat→Prop} (hP:P.check=.ok ()) (hcal:CalOK P) {run:Runner} (hl:RunLocal run) (hrun:EvOK P base run) : CallOK P base (acall P run) :=
 ⟨acallF_ok hP hcal hl hrun,acallR_ok hl hrun⟩
theorem arange_ok {P:Program} {base:Nat→Prop} (hP:P.check=.ok ()) (hcal:CalOK P) {run:Runner} (hl:RunLocal run) (hrun:EvOK P base run) (hjmp:∀ rd c a s,(c=.ret∨∃ id,c=.exit id)→∀ r,run rd c a s=some r→r=(match c with | .ret=>Exit.ret | .exit id=>Exit.exit id | _=>Exit.normal,a,s))
  {rd:Option Nat} {g:Operand} {ps:Array Tmp} {assign body:Code} {a:Act} {s:St} {ex:Exit} {a1:Act} {s1:St} (h:arange P run rd g ps assign body a s=some (ex,a1,s1)) (o1:CodeOK P assign) (o2:CodeOK P body) (hwin:Win s s.next s1.next)
  (ι:Ren) (ro:Option Nat) (A:Act) (w:World) (hrd:RdRel ι rd ro) (hA:ActRel ι a A) (hr:Rep P base ι s.look w) (hfr:Fresh ι s s1) (Q:Exit→Act→World→Prop)
  (hQ:∀ κ A1 w1,ActRel κ a1 A1→Goes P base ι κ s s1 w w1→Q ex A1 w1) : (Code.rangeFunc g ps assign body).wpIn (FR ro) 0 P Q A w:=by
 unfold arange at h
 split at h
 case h_2=>cases h
 rename_i l mark s2 h1
 split at h
 case h_2=>cases h
 rename_i f args h2
 split at h
 case h_2=>cases h
 rename_i v s3 h3
 split at h
 case h_2=>cases h
 rename_i j s4 h4
 split at h
 case isFalse=>cases h
 rename_i hj
 have m1:=arun_next P _ _ _ _ h1
 have m2:=(acallF_local hl f args).next h3
 have m3:=arun_next P _ _ _ _ h4
 have last:s1=s4∧a1 = { a with defers:=mark++a.defers }∧((j=none∧ex=.normal)∨(j=some .ret∧ex=.ret)∨∃ id,j=some (.exit id)∧ex=.exit id):=by
  cases j with
  | none=>cases h; exact ⟨rfl,rfl,.inl ⟨rfl,rfl⟩⟩
  | some c =>
   have hc:c=.ret∨∃ id,c=.exit id:=by
    unfold jumpOk at hj
    split at hj
    ·rename_i e; cases e
    ·rename_i e; cases e; exact .inl rfl
    ·rename_i id e; cases e; exact .inr ⟨id,rfl⟩
    ·cases hj
   have:=hjmp rd c _ _ hc _ h
   rcases hc with rfl | ⟨id,rfl⟩
   ·cases this; exact ⟨rfl,rfl,.inr (.inl ⟨rfl,rfl⟩)⟩
   ·cases this; exact ⟨rfl,rfl,.inr (.inr ⟨id,rfl,rfl⟩)⟩
 obtain ⟨rfl,rfl,hjx⟩:=last
 refine wpIn_rangeFunc (fun fn _=>?_)
 obtain ⟨κ,⟨l',mark'⟩,w1,q1,⟨k1,k2⟩,g1⟩:=sim_goes (sim_enterLoop (P:=P) (base:=base) 0 fn ps assign body hA.tmps hrd o1 o2) hr h1 (hfr.left (by omega))
 have f1:=hfr.right g1 m1
 have le1:=g1.le (hfr.left (by omega))
 have win1:=(arun_local P _).win h1 hwin (by omega)
 unfold aloopCall at h2
 split at h2
 case isFalse=>cases h2
 rename_i hgo
 split at h2
 case h_2=>cases h2
 rename_i f0 first captured hg
 split at h2
 case isFalse=>cases h2
 rename_i hfn
 cases h2
 have hv:=eval_rel hA g hgo
 rw [hg] at hv
 generalize hAg:A.eval g=Ag at hv
 cases hv with
 | func _ _ f' _ c' hy hf hc h5 h6 =>
  have hargs:ARel κ ((first ++ #[.func (.yield l) #[] #[]])++captured) ((f' ++ #[.func (.yield l') #[] #[]])++c'):=by
   refine ARel.append (ARel.append (ARel.mono le1 ⟨hf,h5⟩) ⟨rfl,?_⟩) (ARel.mono le1 ⟨hc,h6⟩)
   intro i x y hx hy
   match i with
   | 0 =>
    simp only [List.size_toArray,List.length_cons,List.length_nil,Nat.zero_add,Nat.lt_add_one,Array.getElem?_eq_getElem,List.getElem_toArray,List.getElem_cons_zero,Option.some.injEq] at hx hy
    subst hx hy
    exact .yield _ _ k1
   | i+1=>simp at hx
  refine ⟨l',mark',w1,{ target:=.fn (.func f) c',args:=f' ++ #[.func (.yield l') #[] #[]] },w1,f,(f' ++ #[.func (.yield l') #[] #[]])++c',w1,?_,?_,fun f _=>FR_fn ro f,?_,FR_room ro,?_⟩
  ·rw [FR_round]; exact q1
  ·have hres:resolve A.eval (rangeCall g l') 0=Deferred.ofValue (A.eval g) #[.func (.yield l') #[] #[]]:=by
    unfold resolve
    simp [rangeCall,Act.eval]
   rw [hres,hAg]
   rfl
  ·exact run_callFunc hfn _ w1
  ·refine callsFR ro ((acallF_ok hP hcal hl hrun _ _ _ _ _ h3 (win1.left m3) κ _ w1 g1.rep hargs (f1.left m3)).mono ?_)
   rintro e w2 ⟨μ,v',rfl,g2,_⟩
   have le2:=g2.le (f1.left m3)
   have f2:=f1.right g2 m2
   obtain ⟨ν,j',w3,q3,ej,g3⟩:=sim_goes (sim_endLoop (P:=P) (base:=base) (le2 _ _ k1)) g2.rep h4 f2
   subst ej
   have le3:=g3.le f2
   have gg:Goes P base ι ν s s1 w w3:=g1.trans (g2.trans g3 m2 m3) m1 (by omega)
   have hA2:ActRel ν { a with defers:=mark++a.defers } { A with defers:=mark'++A.defers }:=by
    have leall:=gg.le hfr
    exact ⟨hA.tmps.mono leall,DRel.append ((k2.mono le2).mono le3) (hA.dfs.mono leall)⟩
   refine ⟨j',w3,q3,?_⟩
   rcases hjx with ⟨rfl,rfl⟩ | ⟨rfl,rfl⟩ | ⟨id,rfl,rfl⟩
   ·exact hQ _ _ _ hA2 gg
   ·exact wpIn_ret (hQ _ _ _ hA2 gg)
   ·exact wpIn_exit (hQ _ _ _ hA2 gg)
theorem ev_ok {P:Program} {base:Nat→Prop} (hP:P.check=.ok ()) (hcal:CalOK P) (hm:P.follows .mixedOrders=true) : ∀ n,EvOK P base (ev P n)∧∀ rd body a s ex a1 s1,ev P n rd (.loop body) a s=some (ex,a1,s1)→CodeOK P body→Win s s.next s1.next→∀ (ι:Ren) (ro:Option Nat) (A:Act) (w:World),RdRel ι rd ro→ActRel ι a A→Rep P base ι s.look w→Fresh ι s s1→∀ Q:Exit→Act→World→Prop,
  (∀ κ A1 w1,ActRel κ a1 A1→Goes P base ι κ s s1 w w1→Q ex A1 w1)→Code.roundsIn (FR ro) 0 P body Q n A w:=by
 intro n
 induction n with
 | zero=>exact ⟨(fun rd c a s ex a1 s1 h=>by cases h),(fun rd body a s ex a1 s1 h=>by cases h)⟩
 | succ n ih =>
  obtain ⟨ih1,ih2⟩:=ih
  have hl:=ev_local P n
  have hloop:∀ rd body a s ex a1 s1,ev P (n+1) rd (.loop body) a s=some (ex,a1,s1)→CodeOK P body→Win s s.next s1.next→∀ (ι:Ren) (ro:Option Nat) (A:Act) (w:World),RdRel ι rd ro→ActRel ι a A→Rep P base ι s.look w→Fresh ι s s1→∀ Q:Exit→Act→World→Prop,
    (∀ κ A1 w1,ActRel κ a1 A1→Goes P base ι κ s s1 w w1→Q ex A1 w1)→Code.roundsIn (FR ro) 0 P body Q (n+1) A w:=by
   intro rd body a s ex a1 s1 h hco hwin
   simp only [ev] at h
   split at h
   ·rename_i a2 s2 hb
    have n1:=hl.next hb
    have n2:=hl.next h
    intro ι ro A w hrd hA hr hfr Q hQ
    rw [roundsIn_succ]
    refine ih1 _ _ _ _ _ _ _ hb hco (hwin.left n2) ι ro A w hrd hA hr (hfr.left n2) _ (fun κ A1 w1 hA1 g=>?_)
    exact ih2 _ _ _ _ _ _ _ h hco (hl.win hb hwin n2) κ ro A1 w1 (hrd.mono (g.le (hfr.left n2))) hA1 g.rep (hfr.right g n1) Q (fun μ A2 w2 hA2 g2=>hQ μ A2 w2 hA2 (g.trans g2 n1 n2))
   ·rename_i hb
    intro ι ro A w hrd hA hr hfr Q hQ
    rw [roundsIn_succ]
    refine ih1 _ _ _ _ _ _ _ h hco hwin ι ro A w hrd hA hr hfr _ (fun κ A1 w1 hA1 g=>?_)
    have:=hQ κ A1 w1 hA1 g
    cases ex with
    | normal=>exact (hb _ _ h).elim
    | _=>exact this
  refine ⟨?_,fun rd body a s ex a1 s1 h hco hwin ι ro A w hrd hA hr hfr Q hQ=>hloop rd body a s ex a1 s1 h hco hwin ι ro A w hrd hA hr hfr Q hQ⟩
  intro rd c a s ex a1 s1 h hco hwin
  cases c with
  | skip =>
   simp only [ev] at h
   cases h
   exact fun ι ro A w hrd hA hr hfr Q hQ=>wpIn_skip (hQ ι A w hA (Goes.refl hr))
  | label l =>
   simp only [ev] at h
   cases h
   exact fun ι ro A w hrd hA hr hfr Q hQ=>wpIn_label (hQ ι A w hA (Goes.refl hr))
  | ret =>
   simp only [ev] at h
   cases h
   exact fun ι ro A w hrd hA hr hfr Q hQ=>wpIn_ret (hQ ι A w hA (Goes.refl hr))
  | exit id =>
   simp only [ev] at h
   cases h
   exact fun ι ro A w hrd hA hr hfr Q hQ=>wpIn_exit (hQ ι A w hA (Goes.refl hr))
  | goto l =>
   simp only [ev] at h
   cases h
   exact fun ι ro A w hrd hA hr hfr Q hQ=>wpIn_goto (hQ ι A w hA (Goes.refl hr))
  | seq x y =>
   obtain ⟨co1,co2⟩:=hco.seq
   simp only [ev] at h
   split at h
   ·rename_i a2 s2 hb
    have n1:=hl.next hb
    have n2:=hl.next h
    refine fun ι ro A w hrd hA hr hfr Q hQ=>wpIn_seq ?_
    refine ih1 _ _ _ _ _ _ _ hb co1 (hwin.left n2) ι ro A w hrd hA hr (hfr.left n2) _ (fun κ A1 w1 hA1 g=>?_)
    exact ih1 _ _ _ _ _ _ _ h co2 (hl.win hb hwin n2) κ ro A1 w1 (hrd.mono (g.le (hfr.left n2))) hA1 g.rep (hfr.right g n1) Q (fun μ A2 w2 hA2 g2=>hQ μ A2 w2 hA2 (g.trans g2 n1 n2))
   ·rename_i hb
    refine fun ι ro A w hrd hA hr hfr Q hQ=>wpIn_seq ?_
    refine ih1 _ _ _ _ _ _ _ h co1 hwin ι ro A w hrd hA hr hfr _ (fun κ A1 w1 hA1 g=>?_)
    have:=hQ κ A1 w1 hA1 g
    cases ex with
    | normal=>exact (hb _ _ h).elim
    | _=>exact this
  | cond c x y =>
   obtain ⟨co1,co2⟩:=hco.cond
   simp only [ev] at h
   split at h
   ·rename_i b hok hb
    have co:CodeOK P (if b=true then x else y):=by cases b <;> assumption
    refine fun ι ro A w hrd hA hr hfr Q hQ=>?_
    have hv:=eval_rel hA c hok
    rw [hb] at hv
    generalize hAc:A.eval c=Ac at hv
    cases hv
    exact wpIn_cond hAc (ih1 _ _ _ _ _ _ _ h co hwin ι ro A w hrd hA hr hfr Q hQ)
   ·cases h
  | block id body =>
   have co:=hco.block
   simp only [ev] at h
   split at h
   ·rename_i i a2 s2 hb
    split at h
    ·rename_i he
     cases h
     refine fun ι ro A w hrd hA hr hfr Q hQ=>wpIn_block (ih1 _ _ _ _ _ _ _ hb co hwin ι ro A w hrd hA hr hfr _ (fun κ A1 w1 hA1 g=>?_))
     show (if i=id then Q .normal A1 w1 else Q (.exit i) A1 w1)
     rw [if_pos he]
     exact hQ κ A1 w1 hA1 g
    ·rename_i he
     cases h
     refine fun ι ro A w hrd hA hr hfr Q hQ=>wpIn_block (ih1 _ _ _ _ _ _ _ hb co hwin ι ro A w hrd hA hr hfr _ (fun κ A1 w1 hA1 g=>?_))
     show (if i=id then Q .normal A1 w1 else Q (.exit i) A1 w1)
     rw [if_neg he]
     exact hQ κ A1 w1 hA1 g
   ·rename_i hb
    refine fun ι ro A w hrd hA hr hfr Q hQ=>wpIn_block (ih1 _ _ _ _ _ _ _ h co hwin ι ro A w hrd hA hr hfr _ (fun κ A1 w1 hA1 g=>?_))
    have:=hQ κ A1 w1 hA1 g
    cases ex with
    | exit i=>exact (hb _ _ _ h).elim
    | _=>exact this
  | loop body =>
   exact fun ι ro A w hrd hA hr hfr Q hQ=>wpIn_loop_rounds (n+1) (hloop rd body a s ex a1 s1 h hco.loop hwin ι ro A w hrd hA hr hfr Q hQ)
  | scope body =>
   have co:=hco.scope
   cases rd with
   | some l=>simp [ev] at h
   | none =>
    simp only [ev] at h
    unfold ascope at h
    split at h
    ·rename_i l a2 s2 hb
     split at h
     case h_2=>cases h
     rename_i rest hf
     have n1:=hl.next hb
     have main:∀ r,ev P n none rest a2 s2=some r→(∀ l,r.1 ≠ .goto l)→r=(ex,a1,s1)→s2.next≤s1.next∧∀ (ι:Ren) (ro:Option Nat) (A:Act) (w:World),RdRel ι none ro→ActRel ι a A→Rep P base ι s.look w→Fresh ι s s1→∀ Q:Exit→Act→World→Prop,
       (∀ κ A1 w1,ActRel κ a1 A1→Goes P base ι κ s s1 w w1→Q ex A1 w1)→(Code.scope body).wpIn (FR ro) 0 P Q A w:=by
      rintro r hr2 hng rfl
      have n2:=hl.next hr2
      refine ⟨n2,fun ι ro A w hrd hA hr hfr Q hQ=>?_⟩
      cases ro with
      | some l=>exact hrd.elim
      | none =>
       refine wpIn_wide.2 (wp_scope_once (wpIn_wide.1 (ih1 _ _ _ _ _ _ _ hb co (hwin.left n2) ι none A w trivial hA hr (hfr.left n2) _ (fun κ A1 w1 hA1 g=>?_))))
       refine ⟨rest,hf,wpIn_wide.1 (ih1 _ _ _ _ _ _ _ hr2 (co.label hf) (hl.win hb hwin n2) κ none A1 w1 trivial hA1 g.rep (hfr.right g n1) _ (fun μ A2 w2 hA2 g2=>?_))⟩
       have:=hQ μ A2 w2 hA2 (g.trans g2 n1 n2)
       cases ex with
       | goto l=>exact (hng _ rfl).elim
       | _=>exact this
     split at h
     ·cases h
     ·rename_i hng
      exact (main _ h (fun l e=>by
       simp only at e
       subst e
       exact hng _ _ _ h) rfl).2
    ·rename_i hb
     refine fun ι ro A w hrd hA hr hfr Q hQ=>?_
     cases ro with
     | some l=>exact hrd.elim
     | none =>
      refine wpIn_wide.2 (wp_scope_straight (wpIn_wide.1 (ih1 _ _ _ _ _ _ _ h co hwin ι none A w trivial hA hr hfr _ (fun κ A1 w1 hA1 g=>?_))))
      have:=hQ κ A1 w1 hA1 g
      cases ex with
      | goto l=>exact (hb _ _ _ h).elim
      | _=>exact this
  | rangeFunc g ps assign body =>
   obtain ⟨co1,co2⟩:=hco.rangeFunc
   simp only [ev] at h
   refine fun ι ro A w hrd hA hr hfr Q hQ=>arange_ok hP hcal hl ih1 (fun rd c a s hc r hr=>?_) h co1 co2 hwin ι ro A w hrd hA hr hfr Q hQ
   cases n with
   | zero=>cases hr
   | succ n =>
    rcases hc with rfl | ⟨id,rfl⟩
    ·cases hr; rfl
    ·cases hr; rfl
  | region id ops draw =>
   have hok:=hco.region
   simp only [ev] at h
   split at h
   ·rename_i a2 s2 hb
    cases h
    exact fun ι ro A w hrd hA hr hfr Q hQ=>region_sound hcal hm (acall_local hl) (acall_ok hP hcal hl ih1) ro hok hb hwin id hA hr hfr hQ
   ·cases h
  | _=>simp [ev] at h
theorem call_ok {P:Program} {base:Nat→Prop} (hP:P.check=.ok ()) (hcal:CalOK P) (hm:P.follows .mixedOrders=true) (n:Nat) : CallOK P base (acall P (ev P n)):=acall_ok hP hcal (ev_local P n) (ev_ok hP hcal hm n).1
theorem leaf_look (id:Nat) : s0.look id=none:=Tr.get_leaf _ _
theorem start_rep (P:Program) (w:World) : Rep P (· < w.heap.size) (fun _=>none) s0.look w :=
 ⟨(fun id id' o o' b h=>by rw [leaf_look] at h; cases h),(fun id o h=>by rw [leaf_look] at h; cases h),fun k hk=>hk,(fun id o g h=>by rw [leaf_look] at h; cases h)⟩
theorem closed {P:Program} (hP:P.check=.ok ()) (hcal:CalOK P) (hm:P.follows .mixedOrders=true) {n:Nat} {f:FuncId} {args args':Array Value} {v:Value} {s1:St} (h:acall P (ev P n) (.fn f args) s0=some (v,s1)) (ha:ARel (fun _=>none) args args') (w:World) :
  Calls P f args' w fun e w1=>∃ κ v',e=.returned v'∧Goes P (· < w.heap.size) (fun _=>none) κ s0 s1 w w1∧VRel κ v v' :=
 (call_ok hP hcal hm n).1 f args s0 v s1 h (fun id _ _=>leaf_look id) _ args' w (start_rep P w) ha (fun id _ _=>rfl)
theorem closed_bool {P:Program} (hP:P.check=.ok ()) (hcal:CalOK P) (hm:P.follows .mixedOrders=true) {n:Nat} {f:FuncId} {args args':Array Value} (h:isTrue (acall P (ev P n) (.fn f args) s0)=true) (ha:ARel (fun _=>none) args args') (w:World) :
  Calls P f args' w fun e w1=>e=.returned (.bool true)∧Below w.heap.size w w1:=by
 unfold isTrue at h
 split at h
 ·rename_i b s1 hc
  subst h
  refine (closed hP hcal hm hc ha w).mono ?_
  rintro e w1 ⟨κ,v',rfl,g,hv⟩
  cases hv
  exact ⟨rfl,g.below.below⟩
 ·cases h
@[reducible] def noSig:Sig where
 val:=fun _=>.int .i64 0
 leaf:=fun _=>rfl
 bin:=fun _ _ _=>none
 bin_ok:=fun _ _ _ _ h=>by cases h
 una:=fun _ _=>none
 una_ok:=fun _ _ _ h=>by cases h
 cnv:=fun _ _=>none
 cnv_ok:=fun _ _ _ h=>by cases h
 cal:=fun _ _=>none
 cal_sym:=fun _ _ _ h=>by cases h
 GR:=fun _ _ _ _=>False
 GR_keep:=fun _ _ _ _ _ _ h=>h
 GR_mono:=fun _ _ _ _ _ _ h=>h
 gop:=fun _ _=>none
 gcal:=fun _ _=>none
theorem noCal (P:Program) : @CalOK noSig P:=@CalOK.mk noSig P (fun _ _ _ h=>by cases h) (fun _ _ _ h=>by cases h) (fun _ _ _ h=>by cases h)
end Go.Ev
namespace Go.Ev
open Go.RowKit
set_option linter.unusedVariables false
set_option linter.unusedSimpArgs false
set_option linter.unusedSectionVars false
variable [Sig]
inductive TV where
 | leaf
 | node (v:Value) (l r:TV)
noncomputable def TV.get (t:TV) : Nat→Value :=
 @TV.rec (fun _=>Nat→Value) (fun _=>undef)
  (fun v _ _ gl gr n=>@Bool.rec (fun _=>Value) (@Bool.rec (fun _=>Value) (gr (Nat.sub (Nat.div n 2) 1)) (gl (Nat.div n 2)) (Nat.beq (Nat.mod n 2) 1)) v (Nat.beq n 0)) t
noncomputable def TV.setK {β:Type} (d:Nat) : TV→Nat→Value→(TV→β)→β :=
 @Nat.rec (fun _=>TV→Nat→Value→(TV→β)→β) (fun t _ _ k=>k t)
  (fun _ ih t n x k=>@TV.rec (fun _=>β)
   (@Bool.rec (fun _=>β)
    (@Bool.rec (fun _=>β) (ih .leaf (Nat.sub (Nat.div n 2) 1) x (fun r=>k (.node undef .leaf r))) (ih .leaf (Nat.div n 2) x (fun l=>k (.node undef l .leaf))) (Nat.beq (Nat.mod n 2) 1))
    (k (.node x .leaf .leaf)) (Nat.beq n 0))
   (fun v l r _ _=>@Bool.rec (fun _=>β)
    (@Bool.rec (fun _=>β) (ih r (Nat.sub (Nat.div n 2) 1) x (fun r'=>k (.node v l r'))) (ih l (Nat.div n 2) x (fun l'=>k (.node v l' r))) (Nat.beq (Nat.mod n 2) 1))
    (k (.node x l r)) (Nat.beq n 0)) t) d
noncomputable def frcN {β:Type} (n:Nat) (k:Nat→β) : β:=@Nat.rec (fun _=>β) (k 0) (fun m _=>k (Nat.succ m)) n
noncomputable def frcI {β:Type} (i:Int) (k:Int→β) : β:=@Int.rec (fun _=>β) (fun n=>frcN n (fun n=>k (.ofNat n))) (fun n=>frcN n (fun n=>k (.negSucc n))) i
noncomputable def frcA {β:Type} (a:Option Addr) (k:Option Addr→β) : β :=
 match a with
 | none=>k none
 | some ⟨b,off,sp⟩=>frcN b (fun b=>frcN off (fun off=>k (some ⟨b,off,sp⟩)))
noncomputable def frcV {β:Type} (v:Value) (k:Value→β) : β :=
 match v with
 | .pointer a=>frcA a (fun a=>k (.pointer a))
 | .slice a n c=>frcA a (fun a=>frcN n (fun n=>frcN c (fun c=>k (.slice a n c))))
 | v=>k v
noncomputable def Tr.gt (d:Nat) : Tr→Nat→Option Obj :=
 @Nat.rec (fun _=>Tr→Nat→Option Obj) (fun _ _=>none)
  (fun _ ih t n=>@Tr.rec (fun _=>Option Obj) none (fun v l r _ _=>@Bool.rec (fun _=>Option Obj) (@Bool.rec (fun _=>Option Obj) (ih r (Nat.div n 2)) (ih l (Nat.div n 2)) (Nat.beq (Nat.mod n 2) 0)) v (Nat.beq n 0)) t) d
noncomputable def Tr.stK {β:Type} (d:Nat) : Tr→Nat→Option Obj→(Tr→β)→β :=
 @Nat.rec (fun _=>Tr→Nat→Option Obj→(Tr→β)→β) (fun t _ _ k=>k t)
  (fun _ ih t n x k=>@Tr.rec (fun _=>β)
   (@Bool.rec (fun _=>β)
    (@Bool.rec (fun _=>β) (ih .leaf (Nat.div n 2) x (fun r=>k (.node none .leaf r))) (ih .leaf (Nat.div n 2) x (fun l=>k (.node none l .leaf))) (Nat.beq (Nat.mod n 2) 0))
    (k (.node x .leaf .leaf)) (Nat.beq n 0))
   (fun v l r _ _=>@Bool.rec (fun _=>β)
    (@Bool.rec (fun _=>β) (ih r (Nat.div n 2) x (fun r'=>k (.node v l r'))) (ih l (Nat.div n 2) x (fun l'=>k (.node v l' r))) (Nat.beq (Nat.mod n 2) 0))
    (k (.node x l r)) (Nat.beq n 0)) t) d
noncomputable def lget (l:List Value) : Nat→Option Value :=
 @List.rec Value (fun _=>Nat→Option Value) (fun _=>none) (fun v _ ih n=>@Nat.rec (fun _=>Option Value) (some v) (fun m _=>ih m) n) l
noncomputable def lsetK {β:Type} (l:List Value) (x:Value) : Nat→(List Value→β)→β :=
 @List.rec Value (fun _=>Nat→(List Value→β)→β) (fun _ k=>k []) (fun v l ih n k=>@Nat.rec (fun _=>β) (k (x::l)) (fun m _=>ih m (fun l'=>k (v::l'))) n) l
noncomputable def ikn:IntKind→Nat
 | .i8=>0 | .i16=>1 | .i32=>2 | .i64=>3 | .u8=>4 | .u16=>5 | .u32=>6 | .u64=>7
noncomputable def fwrap (k:IntKind) (n:Int) : Int :=
 match k,n with
 | .i64,.ofNat m=>@Bool.rec (fun _=>Int) (IntKind.i64.wrap (.ofNat m)) (.ofNat m) (Nat.ble m 9223372036854775807)
 | .i64,.negSucc m=>@Bool.rec (fun _=>Int) (IntKind.i64.wrap (.negSucc m)) (.negSucc m) (Nat.ble m 9223372036854775807)
 | .u64,.ofNat m=>.ofNat (Nat.mod m 18446744073709551616)
 | .u32,.ofNat m=>.ofNat (Nat.mod m 4294967296)
 | .u8,.ofNat m=>.ofNat (Nat.mod m 256)
 | k,n=>k.wrap n
noncomputable def ible:Int→Int→Bool
 | .ofNat a,.ofNat b=>Nat.ble a b
 | .ofNat _,.negSucc _=>false
 | .negSucc _,.ofNat _=>true
 | .negSucc a,.negSucc b=>Nat.ble b a
noncomputable def ibeq:Int→Int→Bool
 | .ofNat a,.ofNat b=>Nat.beq a b
 | .ofNat _,.negSucc _=>false
 | .negSucc _,.ofNat _=>false
 | .negSucc a,.negSucc b=>Nat.beq a b
noncomputable def fint (op:BinOp) (k:IntKind) (a b:Int) : Option Value :=
 match op with
 | .add=>frcI (fwrap k (Int.add a b)) (fun n=>some (.int k n))
 | .sub=>frcI (fwrap k (Int.sub a b)) (fun n=>some (.int k n))
 | .mul=>frcI (fwrap k (Int.mul a b)) (fun n=>some (.int k n))
 | .eql=>@Bool.rec (fun _=>Option Value) (some (.bool false)) (some (.bool true)) (ibeq a b)
 | .neq=>@Bool.rec (fun _=>Option Value) (some (.bool true)) (some (.bool false)) (ibeq a b)
 | .lss=>@Bool.rec (fun _=>Option Value) (some (.bool true)) (some (.bool false)) (ible b a)
 | .leq=>@Bool.rec (fun _=>Option Value) (some (.bool false)) (some (.bool true)) (ible a b)
 | .gtr=>@Bool.rec (fun _=>Option Value) (some (.bool true)) (some (.bool false)) (ible a b)
 | .geq=>@Bool.rec (fun _=>Option Value) (some (.bool false)) (some (.bool true)) (ible b a)
 | _=>none
noncomputable def fbin (op:BinOp) (x y:Value) : Option Value :=
 match x,y with
 | .int k a,.int k' b=>@Bool.rec (fun _=>Option Value) none (fint op k a b) (Nat.beq (ikn k) (ikn k'))
 | _,_=>none
noncomputable def feval (t:TV) (x:Operand) : Value :=
 @Operand.rec (fun _=>Value) (fun i=>t.get i) (fun v=>v) (fun g=>.pointer (some ⟨g,0,none⟩)) (fun f=>.func (.func f) #[] #[]) x
inductive Tri (α:Type) where
 | leaf
 | node (v:Option α) (l r:Tri α)
noncomputable def Tri.get {α:Type} (t:Tri α) : Nat→Option α :=
 @Tri.rec α (fun _=>Nat→Option α) (fun _=>none)
  (fun v _ _ gl gr n=>@Bool.rec (fun _=>Option α) (@Bool.rec (fun _=>Option α) (gr (Nat.sub (Nat.div n 2) 1)) (gl (Nat.div n 2)) (Nat.beq (Nat.mod n 2) 1)) v (Nat.beq n 0)) t
noncomputable def Tri.setK {α β:Type} (d:Nat) : Tri α→Nat→α→(Tri α→β)→β :=
 @Nat.rec (fun _=>Tri α→Nat→α→(Tri α→β)→β) (fun t _ _ k=>k t)
  (fun _ ih t n x k=>@Tri.rec α (fun _=>β)
   (@Bool.rec (fun _=>β)
    (@Bool.rec (fun _=>β) (ih .leaf (Nat.sub (Nat.div n 2) 1) x (fun r=>k (.node none .leaf r))) (ih .leaf (Nat.div n 2) x (fun l=>k (.node none l .leaf))) (Nat.beq (Nat.mod n 2) 1))
    (k (.node (some x) .leaf .leaf)) (Nat.beq n 0))
   (fun v l r _ _=>@Bool.rec (fun _=>β)
    (@Bool.rec (fun _=>β) (ih r (Nat.sub (Nat.div n 2) 1) x (fun r'=>k (.node v l r'))) (ih l (Nat.div n 2) x (fun l'=>k (.node v l' r))) (Nat.beq (Nat.mod n 2) 1))
    (k (.node (some x) l r)) (Nat.beq n 0)) t) d
noncomputable def Tri.ofK {α β:Type} (l:List α) : Nat→Tri α→(Tri α→β)→β :=
 @List.rec α (fun _=>Nat→Tri α→(Tri α→β)→β) (fun _ t k=>k t) (fun v _ ih i t k=>Tri.setK 16 t i v (fun t1=>ih (Nat.succ i) t1 k)) l
structure Base where
 P:Program
 T:Tri TypeInfo
 F:Tri Func
noncomputable def tund (B:Base) (t:TypeId) : Option TypeDesc :=
 match B.T.get t with
 | some i =>
  match i.desc with
  | .named _ u=>(match B.T.get u with | some j=>some j.desc | none=>none)
  | d=>some d
 | none=>none
noncomputable def scalarT (B:Base) (t:TypeId) : Bool :=
 match tund B t with
 | some (.struct _)=>false
 | some (.array _ _)=>false
 | some _=>true
 | none=>false
noncomputable def foff (B:Base) (t:TypeId) (f:Nat) : Option Nat :=
 match tund B t with
 | some (.struct fields) =>
  match fields[f]? with
  | some fd=>(match B.T.get fd.type with | some i=>@Bool.rec (fun _=>Option Nat) (some fd.offset) none (Nat.beq i.size 0) | none=>none)
  | none=>none
 | _=>none
noncomputable def oneT (B:Base) (t:TypeId) : Bool :=
 match B.T.get t with
 | some i=>Nat.beq i.size 1
 | none=>false
noncomputable def ptrT (B:Base) (t:TypeId) : Bool :=
 match tund B t with
 | some (.pointer _)=>true
 | _=>false
noncomputable def zeroT (B:Base) (t:TypeId) : Option (Array Value) :=
 match B.T.get t with
 | some i=>(match i.zero with | some z=>@Bool.rec (fun _=>Option (Array Value)) none (some z.cells) (flatN 6 z) | none=>none)
 | none=>none
noncomputable def elemZ (B:Base) (t:TypeId) : Option Nat :=
 match tund B t with
 | some (.slice e)=>(match B.T.get e with | some i=>some i.size | none=>none)
 | _=>none
noncomputable def intT (B:Base) (t:TypeId) : Option IntKind :=
 match tund B t with
 | some (.int k)=>some k
 | _=>none
noncomputable def lenT (B:Base) (t:TypeId) : Nat :=
 match tund B t with
 | some (.slice _)=>1
 | some .string=>2
 | _=>0
noncomputable def fnF (B:Base) (f:FuncId) : Bool :=
 match B.F.get f with
 | some fn=>fn.name != "runtime.NumGoroutine" && fn.body.isSome
 | none=>false
noncomputable def fnew (c:Array Value) (e:TypeId) (s:St) : Option (Next×St) :=
 match s with
 | ⟨h,nx,lg⟩=>@Bool.rec (fun _=>Option (Next×St)) none (Tr.stK deep h (Nat.mul 4 nx) (some (.cells c e (0,0))) (fun h'=>some (.value (.pointer (some ⟨Nat.mul 4 nx,0,none⟩)),⟨h',Nat.succ nx,⟨Nat.mul 4 nx,none,true⟩::lg⟩))) (Nat.blt (Nat.mul 4 nx) lim)
noncomputable def falloc (B:Base) (t:TypeId) (s:St) : Option (Next×St) :=
 match zeroT B t with
 | some c=>fnew c t s
 | none=>none
noncomputable def fbox (t:TypeId) (v:Value) (s:St) : Option (Next×St):=fnew v.cells t s
noncomputable def flen (B:Base) (t:TypeId) (x:Value) (s:St) : Option (Next×St) :=
 match x with
 | .slice _ n _=>@Bool.rec (fun _=>Option (Next×St)) none (some (.value (.int .i64 (.ofNat n)),s)) (Nat.beq (lenT B t) 1)
 | .string b=>@Bool.rec (fun _=>Option (Next×St)) none (some (.value (.int .i64 (.ofNat b.size)),s)) (Nat.beq (lenT B t) 2)
 | _=>none
noncomputable def findex (B:Base) (t:TypeId) (x i:Value) (s:St) : Option (Next×St) :=
 match x,i with
 | .slice (some ⟨b,off,none⟩) n _,.int _ (.ofNat i)=>(match elemZ B t with | some z=>@Bool.rec (fun _=>Option (Next×St)) none (some (.value (.pointer (some ⟨b,Nat.add off (Nat.mul i z),none⟩)),s)) (Nat.blt i n) | none=>none)
 | _,_=>none
noncomputable def fconv (B:Base) (t u:TypeId) (x:Value) (s:St) : Option (Next×St) :=
 match x with
 | .int _ n=>(match intT B t,intT B u with | some _,some k=>frcI (fwrap k n) (fun n=>some (.value (.int k n),s)) | _,_=>none)
 | _=>none
noncomputable def fnilq (B:Base) (op:BinOp) (t:TypeId) (x y:Value) (s:St) : Option (Next×St) :=
 match x,y with
 | .pointer (some _),.pointer none=>@Bool.rec (fun _=>Option (Next×St)) none (match op with | .eql=>some (.value (.bool false),s) | .neq=>some (.value (.bool true),s) | _=>none) (ptrT B t)
 | .pointer none,.pointer none=>@Bool.rec (fun _=>Option (Next×St)) none (match op with | .eql=>some (.value (.bool true),s) | .neq=>some (.value (.bool false),s) | _=>none) (ptrT B t)
 | _,_=>none
noncomputable def fload (B:Base) (ty:TypeId) (x:Value) (s:St) : Option (Next×St) :=
 match x,s with
 | .pointer (some ⟨b,off,none⟩),⟨h,nx,lg⟩ =>
  @Bool.rec (fun _=>Option (Next×St)) none
   (match Tr.gt deep h b with
    | some (.cells c _ _)=>(match lget c.toList off with | some v=>some (.value v,⟨h,nx,⟨b,some off,false⟩::lg⟩) | none=>none)
    | _=>none) (scalarT B ty)
 | _,_=>none
noncomputable def fstore (B:Base) (ty:TypeId) (x v:Value) (s:St) : Option (Next×St) :=
 match x,s with
 | .pointer (some ⟨b,off,none⟩),⟨h,nx,lg⟩ =>
  @Bool.rec (fun _=>Option (Next×St)) none
   (match Tr.gt deep h b with
    | some (.cells c e (0,0))=>@Bool.rec (fun _=>Option (Next×St)) none (lsetK c.toList v off (fun l=>Tr.stK deep h b (some (.cells ⟨l⟩ e (0,0))) (fun h'=>some (.skip,⟨h',nx,⟨b,some off,true⟩::lg⟩)))) (Nat.blt off c.toList.length && Nat.blt b lim)
    | _=>none) (oneCell v && oneT B ty)
 | _,_=>none
noncomputable def ffield (B:Base) (ty:TypeId) (x:Value) (f:Nat) (s:St) : Option (Next×St) :=
 match x with
 | .pointer (some ⟨b,off,none⟩)=>(match foff B ty f with | some d=>some (.value (.pointer (some ⟨b,Nat.add off d,none⟩)),s) | none=>none)
 | _=>none
noncomputable def fnil (x:Value) (s:St) : Option (Next×St) :=
 match x with
 | .pointer (some _)=>some (.value x,s)
 | .func (.func _) _ _=>some (.value x,s)
 | .iface _ _=>some (.value x,s)
 | _=>none
noncomputable def fpick (c x y:Value) (s:St) : Option (Next×St) :=
 match c with
 | .bool b=>some (.value (@Bool.rec (fun _=>Value) y x b),s)
 | _=>none
noncomputable def fextract (x:Value) (i:Nat) (s:St) : Option (Next×St) :=
 match x with
 | .tuple vs=>(match lget vs.toList i with | some v=>some (.value v,s) | none=>none)
 | _=>none
noncomputable def fnot (op:UnOp) (x:Value) (s:St) : Option (Next×St) :=
 match op,x with
 | .not,.bool b=>@Bool.rec (fun _=>Option (Next×St)) (some (.value (.bool true),s)) (some (.value (.bool false),s)) b
 | _,_=>none
noncomputable def fargs (t:TV) (xs:List Operand) : List Value:=@List.rec Operand (fun _=>List Value) [] (fun x _ ih=>feval t x::ih) xs
noncomputable def rFlat (P:Program) (ρ:Operand→Value) (o:Oper) (s:St) : Option (Next×St) :=
 if flatOp o.op && o.op.operands.toList.all (fun x=>opdOk x && flatN 5 (ρ x)) then
  match qrun P (execOp ρ o) with
  | some (.value v)=>if flatN 5 v then some (.value v,s) else none
  | _=>none
 else none
noncomputable def rCall (P:Program) (ρ:Operand→Value) (c:Call) (ty:TypeId) (s:St) : Option (Next×St) :=
 if allOk c.operands.toList then
  match c.callee with
  | .value f =>
   match ρ f with
   | .func (.func g) first captured=>if fnOk P g then some (.enter g ((first++c.args.map ρ)++captured),s) else none
   | .func (.yield l) first captured=>if first.isEmpty && captured.isEmpty then arun P (Instr.yield l (c.args.map ρ)) s else none
   | _=>none
  | .invoke r name =>
   match ρ r with
   | .iface t v=>(match aMethod P t v name with | some f=>if fnOk P f then some (.enter f (#[v]++c.args.map ρ),s) else none | none=>none)
   | _=>none
  | .builtin b =>
   match b,c.args.toList,c.argTypes.toList with
   | .len,[x],[t]=>sv (arun P (Builtin.len_ #[t] ty #[ρ x]) s)
   | .cap,[x],[t]=>if capOk (ρ x) then sv (arun P (Builtin.cap_ #[t] ty #[ρ x]) s) else none
   | .append,[x,y],[t,u]=>if inRoom P u (ρ x) (ρ y) then sv (arun P (Builtin.append_ #[t,u] ty #[ρ x,ρ y]) s) else sv (aAppend P s t u (ρ x) (ρ y))
   | .copy,[x,y],[t,u]=>sv (arun P (Builtin.copy_ #[t,u] ty #[ρ x,ρ y]) s)
   | .delete,[x,y],[t,u]=>(aDelete P s t (ρ x) (ρ y)).map fun s1=>(.value (.tuple #[]),s1)
   | _,_,_=>none
 else none
noncomputable def rexec (P:Program) (ρ:Operand→Value) (o:Oper) (s:St) : Option (Next×St) :=
 match o.op with
 | .move x | .assign x=>if opdOk x then some (.value (ρ x),s) else none
 | .pick c x y =>
  if allOk [c,x,y] then
   match ρ c with
   | .bool b=>some (.value (if b then ρ x else ρ y),s)
   | _=>none
  else none
 | .alloc t=>if zOk P t then sv (arun P (Instr.alloc t true (.tuple #[])) s) else none
 | .box t x=>if opdOk x then sv (arun P (Instr.box t (ρ x)) s) else none
 | .build t ps=>if zOk P t && allOk (ps.toList.map (·.2)) then sv (arun P (Instr.build t (ps.map fun (i,x)=>(i,ρ x))) s) else none
 | .buildSlice t n ps=>if zOk P (elemT P t) && zPos P (elemT P t) && allOk (ps.toList.map (·.2)) then sv (arun P (Instr.buildSlice t n (ps.map fun (i,x)=>(i,ρ x))) s) else none
 | .load t x=>if opdOk x then sv (arun P (Instr.loadAt t (ρ x)) s) else none
 | .store t x y=>if allOk [x,y] then su (arun P (Instr.storeAt t (ρ x) (ρ y)) s) else none
 | .nilCheck x =>
  if opdOk x then
   match ρ x with
   | .pointer (some b)=>some (.value (ρ x),s)
   | .func (.func _) _ _=>some (.value (ρ x),s)
   | .iface _ _=>some (.value (ρ x),s)
   | _=>none
  else none
 | .binOp op t x y _ =>
  match rFlat P ρ o s with
  | some r=>some r
  | none=>if allOk [x,y] then (if aNilEq P t (ρ x) (ρ y) then (match op with | .eql=>some (.value (.bool false),s) | .neq=>some (.value (.bool true),s) | _=>none) else sBin op (ρ x) (ρ y) s) else none
 | .unOp op _ x =>
  match rFlat P ρ o s with
  | some r=>some r
  | none=>if opdOk x then sUna op (ρ x) s else none
 | .convert t u x =>
  match rFlat P ρ o s with
  | some r=>some r
  | none=>if opdOk x then sCnv P t u (ρ x) s else none
 | .makeInterface t x=>if opdOk x then sv (arun P (Instr.makeInterface t (ρ x)) s) else none
 | .makeFunc (.func f) first captured=>if allOk first.toList && allOk captured.toList then some (.value (.func (.func f) (first.map ρ) (captured.map ρ)),s) else none
 | .makeMap t none=>sv (arun P (Instr.makeMap t none) s)
 | .makeMap t (some x)=>if opdOk x then sv (arun P (Instr.makeMap t (some (ρ x))) s) else none
 | .makeSlice t l c=>if zOk P (elemT P t) && zPos P (elemT P t) && allOk [l,c] then sv (arun P (Instr.makeSlice t (ρ l) (ρ c)) s) else none
 | .slice t x lo hi mx =>
  if slOk P t && opdOk x && allOk lo.toList && allOk hi.toList && allOk mx.toList && mxOk (ρ x) (mx.map ρ) then
   match arun P (Instr.sliceAt t (ρ x) (lo.map ρ) (hi.map ρ) (mx.map ρ)) s with
   | some (v,s1)=>if resOk v then some (.value v,s1) else none
   | none=>none
  else none
 | .fieldAddr t x f=>if opdOk x && fldOk P t f then sv (arun P (Instr.fieldAt t (ρ x) f) s) else none
 | .field t x f=>if opdOk x then sv (arun P (Instr.field t (ρ x) f) s) else none
 | .indexAddr t x i=>if allOk [x,i] then sv (arun P (Instr.indexAt t (ρ x) (ρ i)) s) else none
 | .index t x i=>if allOk [x,i] then sv (arun P (Instr.index t (ρ x) (ρ i)) s) else none
 | .lookup t m k ok=>if allOk [m,k] then sv (aLookup P s t (ρ m) (ρ k) ok) else none
 | .mapUpdate t m k v=>if allOk [m,k,v] then (aUpdate P s t (ρ m) (ρ k) (ρ v)).map fun s1=>(.skip,s1) else none
 | .insert t m k v=>if allOk [m,k,v] then (aUpdate P s t (ρ m) (ρ k) (ρ v)).map fun s1=>(.skip,s1) else none
 | .mapEntry t m k=>if allOk [m,k] then sv (aEntry P s t (ρ m) (ρ k)) else none
 | .entryStore _ m st v=>if allOk [m,st,v] then (aStamp s (ρ m) (ρ st) (ρ v)).map fun s1=>(.skip,s1) else none
 | .range t x=>if opdOk x then sv (arun P (Instr.range t (ρ x)) s) else none
 | .next x str=>if opdOk x then sv (arun P (Instr.next (ρ x) str o.type) s) else none
 | .entry x=>if opdOk x then sv (arun P (Instr.entry (ρ x)) s) else none
 | .typeAssert x t u ok=>if opdOk x && (!ok || zOk P u) then sv (arun P (Instr.typeAssert (ρ x) t u ok) s) else none
 | .extract x i=>if opdOk x then sv (arun P (Instr.extract (ρ x) i) s) else none
 | .call c=>(match rFlat P ρ o s with | some r=>some r | none=>rCall P ρ c o.type s)
 | _=>none
theorem rexec_eq (P:Program) (a:Act) (o:Oper) (s:St) : rexec P a.eval o s=aexec P a o s:=rfl
noncomputable def fall (B:Base) (t:TV) (o:Oper) (s:St) : Option (Next×St):=rexec B.P (feval t) o s
noncomputable def orF (r:Option (Next×St)) (f:Option (Next×St)) : Option (Next×St):=@Option.rec (Next×St) (fun _=>Option (Next×St)) f (fun x=>some x) r
noncomputable def ifF (c:Bool) (r:Option (Next×St)) : Option (Next×St):=@Bool.rec (fun _=>Option (Next×St)) none r c
noncomputable def fbuiltin (B:Base) (t:TV) (o:Oper) (c:Call) (b:Builtin) (s:St) : Option (Next×St) :=
 match b,c.args.toList,c.argTypes.toList with
 | .len,[x],[ty]=>ifF (allOk c.operands.toList) (orF (flen B ty (feval t x) s) (fall B t o s))
 | _,_,_=>fall B t o s
noncomputable def fcallee (B:Base) (t:TV) (o:Oper) (c:Call) (s:St) : Option (Next×St) :=
 match c.callee with
 | .value f =>
  match feval t f with
  | .func (.func g) first captured=>ifF (allOk c.operands.toList && fnF B g) (some (.enter g ⟨List.append first.toList (List.append (fargs t c.args.toList) captured.toList)⟩,s))
  | _=>fall B t o s
 | .builtin b=>fbuiltin B t o c b s
 | _=>fall B t o s
noncomputable def fexec (B:Base) (t:TV) (o:Oper) (s:St) : Option (Next×St) :=
 match o.op with
 | .move x=>ifF (opdOk x) (some (.value (feval t x),s))
 | .assign x=>ifF (opdOk x) (some (.value (feval t x),s))
 | .pick c x y=>ifF (allOk [c,x,y]) (fpick (feval t c) (feval t x) (feval t y) s)
 | .binOp op ty x y u=>ifF (allOk [x,y]) (match fbin op (feval t x) (feval t y) with | some v=>some (.value v,s) | none=>orF (fnilq B op ty (feval t x) (feval t y) s) (fall B t o s))
 | .unOp op ty x=>ifF (opdOk x) (orF (fnot op (feval t x) s) (fall B t o s))
 | .convert a u x=>ifF (opdOk x) (orF (fconv B a u (feval t x) s) (fall B t o s))
 | .alloc ty=>orF (falloc B ty s) (fall B t o s)
 | .box ty x=>ifF (opdOk x) (orF (fbox ty (feval t x) s) (fall B t o s))
 | .load ty x=>ifF (opdOk x) (orF (fload B ty (feval t x) s) (fall B t o s))
 | .store ty x y=>ifF (allOk [x,y]) (orF (fstore B ty (feval t x) (feval t y) s) (fall B t o s))
 | .fieldAddr ty x f=>ifF (opdOk x) (orF (ffield B ty (feval t x) f s) (fall B t o s))
 | .indexAddr ty x i=>ifF (allOk [x,i]) (orF (findex B ty (feval t x) (feval t i) s) (fall B t o s))
 | .nilCheck x=>ifF (opdOk x) (fnil (feval t x) s)
 | .extract x i=>ifF (opdOk x) (orF (fextract (feval t x) i s) (fall B t o s))
 | .call c=>fcallee B t o c s
 | _=>fall B t o s
abbrev FRes:=Exit×TV×List Deferred×St
abbrev FRun:=Option Nat→Nat→Code→TV→List Deferred→St→Option FRes
abbrev FCaller:=Cal→St→Option (Value×St)
noncomputable def fput {β:Type} (n:Nat) (t:TV) (d:Option Tmp) (v:Value) (k:TV→β) : β :=
 match d with
 | none=>k t
 | some d=>@Bool.rec (fun _=>β) (k t) (frcV v (fun v=>TV.setK 12 t d v k)) (Nat.blt d n)
noncomputable def fstep {β:Type} (B:Base) (call:FCaller) (n:Nat) (t:TV) (o:Oper) (s:St) (k:TV→St→Option β) : Option β :=
 match Sig.gop o.op (fargs t o.op.operands.toList) with
 | some q=>@Bool.rec (fun _=>Option β) none (match agopsV q (fargs t o.op.operands.toList) s with | some (v,s1)=>fput n t o.dst v (fun t1=>k t1 s1) | none=>none) (allOk o.op.operands.toList)
 | none =>
 match fexec B t o s with
 | some (.value v,s1)=>fput n t o.dst v (fun t1=>k t1 s1)
 | some (.skip,s1)=>fput n t o.dst undef (fun t1=>k t1 s1)
 | some (.enter f args,s1)=>(match call (.fn f args) s1 with | some (v,s2)=>fput n t o.dst v (fun t1=>k t1 s2) | none=>none)
 | some (.round l _ tmps assign body,s1)=>(match call (.rnd l tmps assign body) s1 with | some (v,s2)=>fput n t o.dst v (fun t1=>k t1 s2) | none=>none)
 | _=>none
noncomputable def fyield (ops:Array Oper) (t:TV) (j:Nat) : Option Bool :=
 match (ops[j]?).bind (·.dst) with
 | some d=>(match t.get d with | .bool b=>some b | _=>none)
 | none=>none
noncomputable def fwant (ops:Array Oper) (t:TV) (o:Oper) : Bool :=
 match o.guard with
 | none=>true
 | some (j,want) =>
  match fyield ops t j,want with
  | some true,true=>true
  | some false,false=>true
  | _,_=>false
noncomputable def flist (B:Base) (call:FCaller) (n:Nat) (ops:Array Oper) (d:List Deferred) (l:List Oper) : TV→St→Option FRes :=
 @List.rec Oper (fun _=>TV→St→Option FRes) (fun t s=>some (.normal,t,d,s))
  (fun o _ ih t s=>@Bool.rec (fun _=>Option FRes) (fput n t o.dst undef (fun t1=>ih t1 s)) (fstep B call n t o s (fun t1 s1=>ih t1 s1)) (fwant ops t o)) l
noncomputable def flogs (B:Base) (call:FCaller) (n:Nat) (ops:Array Oper) (d:List Deferred) (l:List Oper) : TV→St→List (List Touch)→Option FRes :=
 @List.rec Oper (fun _=>TV→St→List (List Touch)→Option FRes)
  (fun t s ls=>@Bool.rec (fun _=>Option FRes) none (some (.normal,t,d,s)) (guardsOk ops && noClash (Region.before ops) ls (ops.size - 1)))
  (fun o _ ih t s ls=>@Bool.rec (fun _=>Option FRes) (fput n t o.dst undef (fun t1=>ih t1 s ([]::ls)))
   (@St.rec (fun _=>Option FRes) (fun h nx lg=>fstep B call n t o ⟨h,nx,[]⟩ (fun t1 s1=>@St.rec (fun _=>Option FRes) (fun h1 nx1 lg1=>ih t1 ⟨h1,nx1,List.append lg1 lg⟩ (lg1::ls)) s1)) s) (fwant ops t o)) l
noncomputable def fseq (r:Option FRes) (k:TV→List Deferred→St→Option FRes) : Option FRes :=
 match r with
 | some (.normal,t,d,s)=>k t d s
 | some (e,t,d,s)=>some (e,t,d,s)
 | none=>none
noncomputable def fblock (id:Nat) (r:Option FRes) : Option FRes :=
 match r with
 | some (.exit i,t,d,s)=>@Bool.rec (fun _=>Option FRes) (some (.exit i,t,d,s)) (some (.normal,t,d,s)) (Nat.beq i id)
 | some (e,t,d,s)=>some (e,t,d,s)
 | none=>none
noncomputable def fscopeJ (r:Option FRes) : Option FRes :=
 match r with
 | some (.goto _,_,_,_)=>none
 | some (e,t,d,s)=>some (e,t,d,s)
 | none=>none
noncomputable def fscope (run:Code→TV→List Deferred→St→Option FRes) (body:Code) (r:Option FRes) : Option FRes :=
 match r with
 | some (.goto l,t,d,s)=>(match findLabel body l with | some rest=>fscopeJ (run rest t d s) | none=>none)
 | some (e,t,d,s)=>some (e,t,d,s)
 | none=>none
noncomputable def fcond (v:Value) (x y:Option FRes) : Option FRes :=
 match v with
 | .bool b=>@Bool.rec (fun _=>Option FRes) y x b
 | _=>none
noncomputable def fromK {β:Type} (l:List Value) : Nat→TV→(TV→β)→β :=
 @List.rec Value (fun _=>Nat→TV→(TV→β)→β) (fun _ t k=>k t) (fun v _ ih i t k=>TV.setK 12 t i v (fun t1=>ih (Nat.succ i) t1 k)) l
noncomputable def TV.lst (t:TV) (k:Nat) : Nat→List Value:=@Nat.rec (fun _=>Nat→List Value) (fun _=>[]) (fun _ ih i=>t.get i::ih (Nat.succ i)) k
noncomputable def TV.lstK {β:Type} (t:TV) (k:Nat) : Nat→(List Value→β)→β:=@Nat.rec (fun _=>Nat→(List Value→β)→β) (fun _ f=>f []) (fun _ ih i f=>frcV (t.get i) (fun v=>ih (Nat.succ i) (fun l=>f (v::l)))) k
noncomputable def TV.act (t:TV) (n:Nat) : Act:=⟨⟨t.lst n 0⟩,[]⟩
noncomputable def fresS (t:TV) (r:ResultVar) (ih:Option (List Value)) : Option (List Value) :=
 match r,ih with
 | .tmp i,some l=>some (t.get i::l)
 | _,_=>none
noncomputable def fresL (t:TV) (l:List ResultVar) : Option (List Value):=@List.rec ResultVar (fun _=>Option (List Value)) (some []) (fun r _ ih=>fresS t r ih) l
noncomputable def fres (P:Program) (fn:Func) (t:TV) (s:St) : Option (Value×St) :=
 match fn.results.toList with
 | [.tmp i]=>some (t.get i,s)
 | []=>some (.tuple #[],s)
 | a::b::l=>(match fresL t (a::b::l) with | some vs=>some (.tuple ⟨vs⟩,s) | none=>arun P (results fn (t.act fn.ntmps).tmps) s)
 | _=>arun P (results fn (t.act fn.ntmps).tmps) s
noncomputable def fend (P:Program) (fn:Func) (t:TV) (d:List Deferred) (s:St) : Option (Value×St) :=
 match amarks P d s with
 | some (_,s1)=>fres P fn t s1
 | none=>none
noncomputable def fret (P:Program) (fn:Func) (r:Option FRes) : Option (Value×St) :=
 match r with
 | some (.ret,t,d,s)=>fend P fn t d s
 | some (.normal,t,d,s)=>fend P fn t d s
 | _=>none
noncomputable def fcallF (B:Base) (run:FRun) (f:FuncId) (args:List Value) (s:St) : Option (Value×St) :=
 match Sig.cal f args with
 | some r=>some (r,s)
 | none =>
 match Sig.gcal f args with
 | some q=>agop q s
 | none =>
 match B.F.get f with
 | some fn =>
  match fn.body with
  | some body=>@Bool.rec (fun _=>Option (Value×St)) none (fromK args 0 .leaf (fun t=>fret B.P fn (run none fn.ntmps body t [] s))) (Nat.ble args.length fn.ntmps && Nat.ble fn.ntmps 4094)
  | none=>none
 | none=>none
noncomputable def frend (P:Program) (l:Nat) (r:Option FRes) : Option (Value×St) :=
 match r with
 | some (e,_,_,s)=>aend P l e s
 | none=>none
noncomputable def frnd (B:Base) (run:FRun) (l n:Nat) (body:Code) (r:Option FRes) : Option (Value×St) :=
 match r with
 | some (.normal,t,d,s) =>
  match arun B.P (Instr.beginRound l) s with
  | some (_,s1)=>frend B.P l (run (some l) n body t d s1)
  | none=>none
 | _=>none
noncomputable def fcallR (B:Base) (run:FRun) (l:Nat) (tmps:List Value) (assign body:Code) (s:St) : Option (Value×St) :=
 frcN tmps.length (fun n=>@Bool.rec (fun _=>Option (Value×St)) none (fromK tmps 0 .leaf (fun t=>frnd B run l n body (run (some l) n assign t [] s))) (Nat.ble n 4094))
noncomputable def fcall (B:Base) (run:FRun) (c:Cal) (s:St) : Option (Value×St) :=
 match c with
 | .fn f args=>fcallF B run f args.toList s
 | .rnd l tmps assign body=>fcallR B run l tmps.toList assign body s
noncomputable def floopCall (B:Base) (t:TV) (g:Operand) (l:Nat) : Option (FuncId×List Value) :=
 match feval t g with
 | .func (.func f) first captured=>@Bool.rec (fun _=>Option (FuncId×List Value)) none (some (f,List.append first.toList (.func (.yield l) #[] #[]::captured.toList))) (opdOk g && fnF B f)
 | _=>none
noncomputable def fjump (run:FRun) (rd:Option Nat) (n:Nat) (j:Option Code) (t:TV) (d:List Deferred) (s:St) : Option FRes :=
 match j with
 | none=>some (.normal,t,d,s)
 | some c=>run rd n c t d s
noncomputable def frangeE (B:Base) (run:FRun) (rd:Option Nat) (n l:Nat) (t:TV) (d:List Deferred) (r:Option (Value×St)) : Option FRes :=
 match r with
 | some (_,s2) =>
  match arun B.P (Instr.endLoop l) s2 with
  | some (j,s3)=>@Bool.rec (fun _=>Option FRes) none (fjump run rd n j t d s3) (jumpOk j)
  | none=>none
 | none=>none
noncomputable def frange (B:Base) (run:FRun) (rd:Option Nat) (n:Nat) (g:Operand) (ps:Array Tmp) (assign body:Code) (t:TV) (d:List Deferred) (s:St) : Option FRes :=
 t.lstK n 0 (fun L =>
 match arun B.P (Instr.enterLoop 0 ⟨L⟩ ps assign body rd) s with
 | some ((l,mark),s1) =>
  match floopCall B t g l with
  | some (f,args)=>frangeE B run rd n l t (List.append mark d) (fcallF B run f args s1)
  | none=>none
 | none=>none)
noncomputable def fcode (B:Base) (run:FRun) (rd:Option Nat) (n:Nat) (c:Code) (t:TV) (d:List Deferred) (s:St) : Option FRes :=
 match c with
 | .skip=>some (.normal,t,d,s)
 | .label _=>some (.normal,t,d,s)
 | .ret=>some (.ret,t,d,s)
 | .exit id=>some (.exit id,t,d,s)
 | .goto l=>some (.goto l,t,d,s)
 | .seq x y=>fseq (run rd n x t d s) (fun t1 d1 s1=>run rd n y t1 d1 s1)
 | .cond c x y=>@Bool.rec (fun _=>Option FRes) none (fcond (feval t c) (run rd n x t d s) (run rd n y t d s)) (opdOk c)
 | .block id body=>fblock id (run rd n body t d s)
 | .loop body=>fseq (run rd n body t d s) (fun t1 d1 s1=>run rd n (.loop body) t1 d1 s1)
 | .scope body=>(match rd with | none=>fscope (run none n) body (run none n body t d s) | some _=>none)
 | .rangeFunc g ps assign body=>frange B run rd n g ps assign body t d s
 | .region _ ops draw=>@Bool.rec (fun _=>Option FRes) (flist B (fcall B run) n ops d ops.toList t s) (flogs B (fcall B run) n ops d ops.toList t s []) draw
 | _=>none
noncomputable def frcL {α β:Type} (l:List α) : (List α→β)→β :=
 @List.rec α (fun _=>(List α→β)→β) (fun k=>k []) (fun v _ ih k=>ih (fun l=>k (v::l))) l
noncomputable def withB {β:Type} (P:Program) (k:Base→β) : β :=
 match P with
 | ⟨⟨a1,a2,a3,a4,types,a6,a7,a8,a9,a10,a11⟩,funcs⟩=>frcL types.toList (fun L=>frcL funcs.toList (fun M=>Tri.ofK L 0 .leaf (fun T=>Tri.ofK M 0 .leaf (fun F=>k ⟨⟨⟨a1,a2,a3,a4,⟨L⟩,a6,a7,a8,a9,a10,a11⟩,⟨M⟩⟩,T,F⟩))))
noncomputable def fev (B:Base) (fuel:Nat) : FRun :=
 @Nat.rec (fun _=>FRun) (fun _ _ _ _ _ _=>none) (fun _ ih rd n c t d s=>fcode B ih rd n c t d s) fuel
end Go.Ev
