/- Part of a proof: see the last text. -/
import Derived.Test.YtkmccgombmogmaaGreatZf5
set_option linter.unusedSectionVars false
set_option linter.unusedSimpArgs false
set_option linter.unusedVariables false
namespace Go.Ev
open Go.RowKit
variable[bB]
def d_(call:Caller):Prop:=∀ c,Local (call c)
def tK(P:Program)(call:Caller)(a:Act)(o:Oper)(s:St):Option (Value×St) :=
 match bB.I2 o.op (lA a o.op) with
 | some q=>rr q a o s
 | none =>
 match bA P a o s with
 | some (.value v,s1)=>some (v,s1)
 | some (.skip,s1)=>some (undef,s1)
 | some (.enter f args,s1)=>call (.fn f args) s1
 | some (.round l _ tmps assign body,s1)=>call (.Es l tmps assign body) s1
 | _=>none
theorem rD(P:Program)(call:Caller)(a:Act)(o:Oper)(s:St) :
  jg P call a o s=match tK P call a o s with | some (v,s1)=>some (a.put o.dst v,s1) | none=>none:=by
 unfold jg tK;cases bB.I2 o.op (lA a o.op) with
 | some q=>rfl
 | none =>
 dsimp only;cases bA P a o s with
 | none=>rfl
 | some x =>
  obtain⟨n,s1⟩:=x;cases n<;>rfl
theorem xO{x y:Option Obj}{a:Addr}(hx:x=some (.view a 0))(h:Eu ⟨3,some 1,false⟩ x y):y=some (.view a 0):=by
 obtain⟨h1,h2⟩:=h;obtain⟨a',rfl⟩:=jY h1 hx;subst hx;simp only[tg,if_true,Option.some.injEq,Value.pointer.injEq]at h2;rw[h2]
theorem nE(q:GQ):Local (tC q):=by
 intro s r s1 h;unfold tC at h
 split at h
 case h_2=>cases h
 rename_i x hl
 split at h
 ·rename_i v hq
  cases h;refine⟨Nat.le_refl _,λhcl=>⟨[⟨3,some 1,false⟩],rfl,λj _=>⟨rfl,λk _=>rfl⟩,?_,?_⟩⟩
  ·intro u hu _
   rw[List.mem_singleton]at hu;subst hu;exact λhno=>by have hno:s.look 3=none:=hno;rw[hno]at hl;cases hl
  ·intro z hz hag hzc
   have h0:=xO hl (hag ⟨3,some 1,false⟩ (List.mem_singleton.2 rfl) (λ⟨x,y⟩=>Nat.lt_irrefl _ (Nat.lt_of_le_of_lt x y)));refine⟨z.touch 3 (some 1) false,?_,hz,rfl,?_⟩
   ·unfold tC
    rw[h0];show(match q x.block (4*z.next+3) with | some (r,none)=>some (r,z.touch 3 (some 1) false) | some (r,some g)=>some (r,{ (z.put 3 (some (iG g))).touch 3 (some 1) true with next:=z.next+1 }) | none=>none)=_;rw[hz,hq]
   ·intro j
    have nw:¬ jh [⟨3,some 1,false⟩] j:=λ⟨u,hu,_,hw,_⟩=>by rw[List.mem_singleton]at hu;subst hu;cases hw
    exact⟨λh=>(nw h).elim,λ_=>⟨rfl,λk=>⟨(λ⟨u,hu,_,hw,_⟩=>by rw[List.mem_singleton]at hu;subst hu;cases hw),λ_=>rfl⟩⟩⟩
 ·rename_i v g hq
  cases h;have lk:∀ (z:St) (n:Nat) j,(({ (z.put 3 (some (iG g))).touch 3 (some 1) true with next:=n } : St)).look j=if j=3 then some (iG g) else z.look j:=by
   intro z n j
   by_cases ej:j=3
   ·rw[if_pos ej,ej];exact St.cx _ 3 _ (show 3<lim by unfold lim;omega)
   ·rw[if_neg ej];exact St.bD _ _ _ _ ej
  have nall:∀ j,¬ jh [⟨3,some 1,true⟩] j:=λj ⟨u,hu,_,_,hn⟩=>by rw[List.mem_singleton]at hu;subst hu;cases hn
  have Qk:∀ j k,mU [⟨3,some 1,true⟩] j k->j=3/\k=1:=λj k ⟨u,hu,hid,_,hn⟩=>by rw[List.mem_singleton]at hu;subst hu;cases hn;exact⟨hid.symm,rfl⟩
  have N6:mU [⟨3,some 1,true⟩] 3 1:=⟨_,List.mem_singleton.2 rfl,rfl,rfl,rfl⟩;have PQ:∀ (a:Addr) k,k≠1->tg (some (.view a 0)) k=none:=λa k hk=>by simp[tg,hk]
  refine⟨Nat.le_succ _,λhcl=>⟨[⟨3,some 1,true⟩],rfl,?_,?_,?_⟩⟩
  ·intro j _
   rw[lk s _ j]
   by_cases ej:j=3
   ·subst ej
    rw[if_pos rfl,hl];refine⟨rfl,λk hk=>?_⟩;have hk1:k≠1:=λe=>hk (e▸N6)
    rw[PQ x k hk1];exact PQ _ k hk1
   ·rw[if_neg ej]
    exact⟨rfl,λ_ _=>rfl⟩
  ·intro u hu _
   rw[List.mem_singleton]at hu;subst hu;exact λhno=>by have hno:s.look 3=none:=hno;rw[hno]at hl;cases hl
  ·intro z hz hag hzc
   have h0:z.look 3=some (.view x 0):=xO hl (hag ⟨3,some 1,true⟩ (List.mem_singleton.2 rfl) (λhh=>by
    have:=hcl 3 hh.1 hh.2;rw[hl]at this
    cases this))
   refine⟨{ (z.put 3 (some (iG g))).touch 3 (some 1) true with next:=s.next+1 },?_,rfl,rfl,?_⟩
   ·unfold tC
    rw[h0];show(match q x.block (4*z.next+3) with | some (r,none)=>some (r,z.touch 3 (some 1) false) | some (r,some g)=>some (r,{ (z.put 3 (some (iG g))).touch 3 (some 1) true with next:=z.next+1 }) | none=>none)=_;rw[hz,hq]
   ·intro j
    rw[lk z _ j,lk s _ j];refine⟨λh=>(nall j h).elim,λ_=>?_⟩
    by_cases ej:j=3
    ·subst ej
     rw[if_pos rfl,h0];refine⟨rfl,λk=>⟨λ_=>by rw[if_pos rfl],λhk=>?_⟩⟩;have hk1:k≠1:=λe=>hk (e▸N6)
     rw[PQ x k hk1];exact PQ _ k hk1
    ·rw[if_neg ej]
     exact⟨rfl,λk=>⟨λhk=>(ej (Qk j k hk).1).elim,λ_=>rfl⟩⟩
 ·cases h
theorem xP(sz:Nat)(x:Value):Local (xF sz x):=Local.congr (λs=>rfl) (lT sz x)
theorem Ey{r:Value}{x y:Option Obj}(h:kJ x=kJ y):rk r y=rk r x:=by
 cases x with
 | none=>rw[dX h.symm]
 | some o =>
  cases o with
  | view a n =>
   obtain⟨a',rfl⟩:=jY h rfl;unfold rk;cases n<;>rfl
  | cells c e f =>
   obtain⟨c',rfl,_⟩:=jX h rfl;rfl
  | _=>rw[iJ h (by intro c e f hh;cases hh) (by intro a n hh;cases hh)]
theorem vH(q:qx)(vals:List Value):Local (nA q vals):=by
 cases q with
 | now q=>exact Local.congr (λs=>rfl) (nE q)
 | stay r =>
  refine Local.congr (λs=>?_) (Local.read 3 (some 0) (rk r) (λx y h=>Ey h.1) rfl);simp only[nA];cases rk r (s.look 3)<;>rfl
 | src sz j q =>
  cases hv:vals[j]? with
  | none=>exact Local.congr (λs=>by simp[nA,hv]) Local.none
  | some y =>
   refine Local.congr (λs=>?_) (Local.bind (xP sz y) (λc=>nE (q c.toList)));simp only[nA,hv];cases xF sz y s with
   | none=>rfl
   | some z=>rfl
theorem xQ(q:qx)(a:Act)(o:Oper):Local (rr q a o):=by
 unfold rr;cases bX o.op.operands.toList with
 | true=>exact Local.congr (λs=>by simp) (vH q (lA a o.op))
 | false=>exact Local.congr (λs=>by simp) Local.none
theorem rE{P:Program}{call:Caller}(hc:d_ call)(a:Act)(o:Oper):Local (tK P call a o):=by
 cases hg:bB.I2 o.op (lA a o.op) with
 | some q=>exact Local.congr (λs=>by unfold tK;rw[hg]) (xQ q a o)
 | none =>
 refine Local.congr (λs=>?_) (Local.bind (lU P a o) (g:=λn s=>match n with | .value v=>some (v,s) | .skip=>some (undef,s) | .enter f args=>call (.fn f args) s | .round l _ tmps assign body=>call (.Es l tmps assign body) s | _=>none) (λn=>?_))
 ·unfold tK
  rw[hg];dsimp only;cases bA P a o s with
  | none=>rfl
  | some x=>obtain⟨n,s1⟩:=x;cases n<;>rfl
 ·cases n with
  | value v=>exact Local.pure v
  | skip=>exact Local.pure undef
  | enter f args=>exact hc (.fn f args)
  | round l f tmps assign body=>exact hc (.Es l tmps assign body)
  | _=>exact Local.none
theorem jB{P:Program}{call:Caller}(hc:d_ call)(a:Act)(o:Oper):Local (jg P call a o):=by
 refine Local.congr (λs=>?_) (Local.bind (rE (P:=P) hc a o) (λv=>Local.pure (a.put o.dst v)));rw[rD];cases tK P call a o s with
 | none=>rfl
 | some x=>rfl
theorem Local.N7{α:Type}{f:St->Option (α×St)}(hf:Local f) :
  Local (λs=>match f { s with log:=[] } with | some (a,s1)=>some ((a,s1.log),{ s1 with log:=s1.log++s.log }) | Option.none=>Option.none):=by
 intro s r s1 h;dsimp only at h
 split at h
 ·rename_i a s2 hfs
  cases h;obtain⟨n,k⟩:=hf _ _ _ hfs;refine⟨n,λhcl=>?_⟩;obtain⟨L,e,u,b,l⟩:=k hcl;have eL:s2.log=L:=by rw[e];simp
  refine⟨L,by rw[← eL],u,b,?_⟩;intro z hz hag hzc;obtain⟨z1,f1,m1,g1,r1⟩:=l { z with log:=[] } hz hag hzc;have RQ:z1.log=L:=by rw[g1];simp
  refine⟨{ z1 with log:=z1.log++z.log },?_,m1,by rw[RQ],r1⟩;dsimp only;rw[f1];dsimp only;rw[eL,RQ]
 ·cases h
theorem qg{P:Program}{call:Caller}(hc:d_ call)(ops:Array Oper):∀ (l:List Oper) (a:Act),Local (lO P call ops l a):=by
 intro l
 induction l with
 | nil=>intro a;exact Local.congr (λs=>rfl) (Local.pure a)
 | cons o rest ih =>
  intro a;cases hw:Region.wanted o (yielded ops a.tmps) with
  | false=>exact Local.congr (λs=>by simp only[lO,hw,Bool.false_eq_true,if_false]) (ih (a.put o.dst undef))
  | true =>
   refine Local.congr (λs=>?_) (Local.bind (jB (P:=P) hc a o) ih);simp only[lO,hw,if_true];cases jg P call a o s with
   | none=>rfl
   | some x=>rfl
theorem xR{P:Program}{call:Caller}(hc:d_ call)(ops:Array Oper):∀ (l:List Oper) (a:Act) (ls:List (List Touch)),
  Local (λs=>match lB P call ops l a s ls with | some (a1,s1,m)=>some ((a1,m),s1) | none=>none):=by
 intro l
 induction l with
 | nil=>intro a ls;exact Local.congr (λs=>rfl) (Local.pure (a,ls))
 | cons o rest ih =>
  intro a ls;cases hw:Region.wanted o (yielded ops a.tmps) with
  | false=>exact Local.congr (λs=>by simp only[lB,hw,Bool.false_eq_true,if_false]) (ih (a.put o.dst undef) ([]::ls))
  | true =>
   refine Local.congr (λs=>?_) (Local.bind (Local.N7 (jB (P:=P) hc a o)) (λp=>ih p.1 (p.2::ls)));simp only[lB,hw,if_true];cases jg P call a o { s with log:=[] } with
   | none=>rfl
   | some x=>rfl
theorem tL{P:Program}{call:Caller}(hc:d_ call)(ops:Array Oper)(draw:Bool)(a:Act):Local (fE P call ops draw a):=by
 cases draw with
 | false=>exact Local.congr (λs=>by simp[fE]) (qg (P:=P) hc ops ops.toList a)
 | true =>
  refine Local.congr (λs=>?_) (Local.bind (xR (P:=P) hc ops ops.toList a []) (λp=>Local.ite (gU ops&&iH (Region.before ops) p.2 (ops.size-1)) (Local.pure p.1)));simp only[fE,if_true];cases lB P call ops ops.toList a s [] with
  | none=>rfl
  | some x=>rfl
def tj(run:Runner)(rd:Option Nat)(c:Code)(a:Act)(s:St):Option ((Exit×Act)×St) :=
 match run rd c a s with
 | some (e,a1,s1)=>some ((e,a1),s1)
 | none=>none
def dM(run:Runner):Prop:=∀ rd c a,Local (tj run rd c a)
theorem iK(P:Program):∀ ds:List Deferred,Local (kH P ds):=by
 intro ds
 induction ds with
 | nil=>exact Local.congr (λs=>rfl) (Local.pure ())
 | cons d ds ih =>
  obtain⟨t,args⟩:=d;cases t with
  | collected r =>
   refine Local.congr (λs=>?_) (Local.bind (cO P (Instr.takeDeferred r)) (λ_=>ih));simp only[kH];cases ay P (Instr.takeDeferred r) s with
   | none=>rfl
   | some x=>rfl
  | _=>exact Local.congr (λs=>by simp only[kH]) Local.none
theorem vI(P:Program)(fn:Func)(e:Exit)(a:Act):Local (jP P fn e a):=by
 cases h:atEnd e with
 | false=>exact Local.congr (λs=>by simp only[jP,h]) Local.none
 | true =>
  refine Local.congr (λs=>?_) (Local.bind (iK P a.defers) (λ_=>cO P (results fn a.tmps)));simp only[jP,h];cases kH P a.defers s with
  | none=>rfl
  | some x=>rfl
theorem kL{P:Program}{run:Runner}(hr:dM run)(f:FuncId)(args:Array Value):Local (ij P run f args):=by
 unfold ij;cases hq:bB.I8 f args.toList with
 | some r=>exact Local.pure r
 | none =>
 dsimp only;cases Ue:bB.xj f args.toList with
 | some q=>exact nE q
 | none =>
 dsimp only;cases hf:P.funcs[f]? with
 | none=>exact Local.none
 | some fn =>
  dsimp only;cases hb:fn.body with
  | none=>exact Local.none
  | some body =>
   dsimp only;refine Local.congr (λs=>?_) (Local.bind (hr none body { tmps:=args++Array.replicate (fn.ntmps-args.size) undef,defers:=[] }) (g:=λp=>jP P fn p.1 p.2) (λp=>vI P fn p.1 p.2));unfold tj;cases run none body { tmps:=args++Array.replicate (fn.ntmps-args.size) undef,defers:=[] } s with
   | none=>rfl
   | some x=>rfl
theorem vJ{P:Program}{run:Runner}(hr:dM run)(l:Nat)(tmps:Array Value)(assign body:Code):Local (nB P run l tmps assign body):=by
 have h3:∀ e2,Local (tD P l e2):=by
  intro e2;unfold tD;cases Et e2 with
  | none=>exact Local.none
  | some j=>exact cO P _
 have h2:∀ a1,Local (λs=>match run (some l) body a1 s with | some (e2,_,s3)=>tD P l e2 s3 | none=>none):=by
  intro a1;refine Local.congr (λs=>?_) (Local.bind (hr (some l) body a1) (g:=λp=>tD P l p.1) (λp=>h3 p.1));unfold tj;cases run (some l) body a1 s with
  | none=>rfl
  | some x=>rfl
 have h1:∀ a1,Local (λs=>match ay P (Instr.beginRound l) s with | some (_,s2)=>(match run (some l) body a1 s2 with | some (e2,_,s3)=>tD P l e2 s3 | none=>none) | none=>none):=by
  intro a1;refine Local.congr (λs=>?_) (Local.bind (cO P (Instr.beginRound l)) (λ_=>h2 a1));cases ay P (Instr.beginRound l) s with
  | none=>rfl
  | some x=>rfl
 refine Local.congr (λs=>?_) (Local.bind (hr (some l) assign { tmps:=tmps,defers:=[] })
  (g:=λp s=>if oh p.1 then (match ay P (Instr.beginRound l) s with | some (_,s2)=>(match run (some l) body p.2 s2 with | some (e2,_,s3)=>tD P l e2 s3 | none=>none) | none=>none) else none) (λp=>?_))
 ·unfold nB tj
  cases run (some l) assign { tmps:=tmps,defers:=[] } s with
  | none=>rfl
  | some x=>rfl
 ·cases hn:oh p.1 with
  | true=>exact Local.congr (λs=>by simp only[hn,if_true]) (h1 p.2)
  | false=>exact Local.congr (λs=>by simp[hn]) Local.none
theorem qh{P:Program}{run:Runner}(hr:dM run):d_ (lP P run):=by
 intro c;cases c with
 | fn f args=>exact Local.congr (λs=>rfl) (kL hr f args)
 | Es l tmps assign body=>exact Local.congr (λs=>rfl) (vJ hr l tmps assign body)
theorem vK{P:Program}{run:Runner}(hr:dM run)(rd:Option Nat)(g:Operand)(ps:Array Tmp)(assign body:Code)(a:Act) :
  Local (λs=>match nD P run rd g ps assign body a s with | some (e,a1,s1)=>some ((e,a1),s1) | none=>none):=by
 have h3:∀ (j:Option Code) (a1:Act),Local (λs=>match (if nC j then ru run rd j a1 s else none) with | some (e,a1,s1)=>some ((e,a1),s1) | none=>none):=by
  intro j a1;cases hj:nC j with
  | false=>exact Local.congr (λs=>by simp) Local.none
  | true =>
   cases j with
   | none=>exact Local.congr (λs=>by simp[ru]) (Local.pure (Exit.normal,a1))
   | some c=>exact Local.congr (λs=>by simp[ru,tj]) (hr rd c a1)
 have h2:∀ (l:Nat) (a1:Act),Local (λs=>match (match ay P (Instr.endLoop l) s with | some (j,s3)=>(if nC j then ru run rd j a1 s3 else none) | none=>none) with | some (e,a1,s1)=>some ((e,a1),s1) | none=>none):=by
  intro l a1;refine Local.congr (λs=>?_) (Local.bind (cO P (Instr.endLoop l)) (λj=>h3 j a1));cases ay P (Instr.endLoop l) s with
  | none=>rfl
  | some x=>rfl
 refine Local.congr (λs=>?_) (Local.bind (cO P (Instr.enterLoop 0 a.tmps ps assign body rd))
  (g:=λx s=>match gD P a g x.1 with
   | some (f,args)=>(match ij P run f args s with | some (_,s2)=>(match (match ay P (Instr.endLoop x.1) s2 with | some (j,s3)=>(if nC j then ru run rd j { a with defers:=x.2++a.defers } s3 else none) | none=>none) with | some (e,a1,s1)=>some ((e,a1),s1) | none=>none) | none=>none)
   | none=>none) (λx=>?_))
 ·unfold nD
  cases ay P (Instr.enterLoop 0 a.tmps ps assign body rd) s with
  | none=>rfl
  | some x =>
   obtain⟨⟨l,mark⟩,s1⟩:=x;dsimp only[Option.bind];cases gD P a g l with
   | none=>rfl
   | some y =>
    obtain⟨f,args⟩:=y;dsimp only;cases ij P run f args s1 with
    | none=>rfl
    | some z=>rfl
 ·cases hc:gD P a g x.1 with
  | none=>exact Local.congr (λs=>by simp only[hc]) Local.none
  | some y =>
   obtain⟨f,args⟩:=y;refine Local.congr (λs=>?_) (Local.bind (kL (P:=P) hr f args) (λ_=>h2 x.1 { a with defers:=x.2++a.defers }));dsimp only;cases ij P run f args s with
   | none=>rfl
   | some z=>rfl
theorem ot(P:Program):∀ n,dM (ev P n):=by
 intro n
 induction n with
 | zero=>intro rd c a;exact Local.congr (λs=>rfl) Local.none
 | succ n ih =>
  intro rd c a;cases c with
  | skip=>exact Local.congr (λs=>rfl) (Local.pure (Exit.normal,a))
  | label l=>exact Local.congr (λs=>rfl) (Local.pure (Exit.normal,a))
  | ret=>exact Local.congr (λs=>rfl) (Local.pure (Exit.ret,a))
  | exit id=>exact Local.congr (λs=>rfl) (Local.pure (Exit.exit id,a))
  | goto l=>exact Local.congr (λs=>rfl) (Local.pure (Exit.goto l,a))
  | seq x y =>
   refine Local.congr (λs=>?_) (Local.bind (ih rd x a) (g:=λp s=>match p.1 with | .normal=>tj (ev P n) rd y p.2 s | _=>some (p,s)) (λp=>?_))
   ·unfold tj
    simp only[ev];cases ev P n rd x a s with
    | none=>rfl
    | some z =>
     obtain⟨e,a1,s1⟩:=z;cases e<;>rfl
   ·obtain⟨e,a1⟩:=p
    cases e with
    | normal=>exact ih rd y a1
    | _=>exact Local.pure _
  | cond c x y =>
   cases hok:bN c with
   | false=>exact Local.congr (λs=>by simp[tj,ev,hok]) Local.none
   | true =>
    cases hv:a.eval c with
    | bool b =>
     refine Local.congr (λs=>?_) (ih rd (if b then x else y) a);simp only[tj,ev,hok,hv]
    | _=>exact Local.congr (λs=>by simp[tj,ev,hok,hv]) Local.none
  | block id body =>
   refine Local.congr (λs=>?_) (Local.bind (ih rd body a) (g:=λp s=>match p.1 with | .exit i=>some (if i=id then (Exit.normal,p.2) else p,s) | _=>some (p,s)) (λp=>?_))
   ·unfold tj
    simp only[ev];cases ev P n rd body a s with
    | none=>rfl
    | some z =>
     obtain⟨e,a1,s1⟩:=z;cases e<;>first | rfl | skip
     rename_i i;dsimp only
     by_cases hi:i=id
     ·rw[if_pos hi,if_pos hi]
     ·rw[if_neg hi,if_neg hi]
   ·obtain⟨e,a1⟩:=p
    cases e with
    | _=>exact Local.pure _
  | loop body =>
   refine Local.congr (λs=>?_) (Local.bind (ih rd body a) (g:=λp s=>match p.1 with | .normal=>tj (ev P n) rd (.loop body) p.2 s | _=>some (p,s)) (λp=>?_))
   ·unfold tj
    simp only[ev];cases ev P n rd body a s with
    | none=>rfl
    | some z =>
     obtain⟨e,a1,s1⟩:=z;cases e<;>rfl
   ·obtain⟨e,a1⟩:=p
    cases e with
    | normal=>exact ih rd (.loop body) a1
    | _=>exact Local.pure _
  | scope body =>
   cases rd with
   | some l=>exact Local.congr (λs=>by simp[tj,ev]) Local.none
   | none =>
    refine Local.congr (λs=>?_) (Local.bind (ih none body a) (g:=λp s=>match p.1 with | .goto l=>(match findLabel body l with | some rest=>(match tj (ev P n) none rest p.2 s with | some (q,s')=>(match q.1 with | .goto _=>none | _=>some (q,s')) | none=>none) | none=>none) | _=>some (p,s)) (λp=>?_))
    ·unfold tj
     simp only[ev];cases ev P n none body a s with
     | none=>rfl
     | some z =>
      obtain⟨e,a1,s1⟩:=z;cases e<;>first | rfl | skip
      rename_i l;simp only[vo];cases findLabel body l with
      | none=>rfl
      | some rest =>
       dsimp only;cases ev P n none rest a1 s1 with
       | none=>rfl
       | some z =>
        obtain⟨e2,a2,s2⟩:=z;cases e2<;>rfl
    ·obtain⟨e,a1⟩:=p
     cases e with
     | goto l =>
      dsimp only;cases findLabel body l with
      | none=>exact Local.none
      | some rest =>
       refine Local.congr (λs=>?_) (Local.bind (ih none rest a1) (g:=λq s'=>match q.1 with | .goto _=>none | _=>some (q,s')) (λq=>?_))
       ·dsimp only
        cases tj (ev P n) none rest a1 s with
        | none=>rfl
        | some z=>rfl
       obtain⟨e2,a2⟩:=q;cases e2 with
       | goto _=>exact Local.none
       | _=>exact Local.pure _
     | _=>exact Local.pure _
  | rangeFunc g ps assign body =>
   refine Local.congr (λs=>?_) (vK (P:=P) ih rd g ps assign body a);simp only[tj,ev]
  | region id ops draw =>
   refine Local.congr (λs=>?_) (Local.bind (tL (P:=P) (qh (P:=P) ih) ops draw a) (λa1=>Local.pure (Exit.normal,a1)));unfold tj;simp only[ev];cases fE P (lP P (ev P n)) ops draw a s with
   | none=>rfl
   | some z=>rfl
  | _=>exact Local.congr (λs=>by simp[tj,ev]) Local.none
theorem Local.next{α:Type}{f:St->Option (α×St)}(hf:Local f){s s1:St}{r:α}(h:f s=some (r,s1)):s.next<=s1.next:=(hf s r s1 h).1
theorem m6.left{s:St}{n m k:Nat}(h:m6 s n k)(hm:m<=k):m6 s n m:=λid x y=>h id x (by omega)
theorem Local.win{α:Type}{f:St->Option (α×St)}(hf:Local f){s s1:St}{r:α}(h:f s=some (r,s1)){m:Nat}(hw:m6 s s.next m)(hm:s1.next<=m):m6 s1 s1.next m:=by
 obtain⟨n,k⟩:=hf s r s1 h;obtain⟨L,e,u,b,l⟩:=k (hw.left hm);intro id x y;have free:¬ jh L id:=λ⟨t,ht,hid,_⟩=>b t ht (λhh=>by omega) (by rw[hid];exact hw id (by omega) y)
 exact dX (by rw[(u id free).1,hw id (by omega) y];rfl)
end Go.Ev
namespace Go.Ev
open Go.RowKit
variable[bB]
theorem pE{a b:Act}{xs:Array Operand}(h:∀ x ∈ xs,a.eval x=b.eval x):evs a xs=evs b xs:=Array.map_congr_left h
theorem t9{a b:Act}{ps:Array (Nat×Operand)}(h:∀ x ∈ ps.map (·.2),a.eval x=b.eval x):Md a ps=Md b ps :=
 Array.map_congr_left λp hm=>by
  obtain⟨i,x⟩:=p;simp only[h x (Array.mem_map.2 ⟨(i,x),hm,rfl⟩)]
theorem xS{P:Program}{a b:Act}{o:Oper}(h:∀ x ∈ o.op.operands,a.eval x=b.eval x)(s:St):ga P a o s=ga P b o s:=by
 unfold ga;cases hf:kG o.op with
 | false=>simp
 | true =>
  have hs:∀ cs b,o.op≠.select cs b:=by
   intro cs b e;rw[e]at hf;cases hf
  rw[execOp_congr o hs h];have ha:o.op.operands.toList.all (λx=>bN x&&cu 5 (a.eval x))=o.op.operands.toList.all (λx=>bN x&&cu 5 (b.eval x)):=by
   rw[Bool.eq_iff_iff,List.all_eq_true,List.all_eq_true];constructor
   ·intro hh x hx;rw[← h x (by simpa using hx)];exact hh x hx
   ·intro hh x hx;rw[h x (by simpa using hx)];exact hh x hx
  rw[ha]
theorem xT{P:Program}{a b:Act}{c:Call}(ty:TypeId)(h:∀ x ∈ c.operands,a.eval x=b.eval x)(s:St):mY P a c ty s=mY P b c ty s:=by
 have hargs:∀ x ∈ c.args,a.eval x=b.eval x:=λx hx=>h x (by simp[Call.operands,hx])
 have he:evs a c.args=evs b c.args:=pE hargs;have hl:∀ x ∈ c.args.toList,a.eval x=b.eval x:=λx hx=>hargs x (by simpa using hx)
 unfold mY;cases hc:c.callee with
 | value f=>have hf:a.eval f=b.eval f:=h f (by simp[Call.operands,hc]);simp only[hf,he]
 | invoke r m=>have hr:a.eval r=b.eval r:=h r (by simp[Call.operands,hc]);simp only[hr,he]
 | builtin bi =>
  dsimp only;generalize c.args.toList=l at hl;generalize c.argTypes.toList=ts;have e2:∀ x y,l=[x,y]->a.eval x=b.eval x/\a.eval y=b.eval y:=by
   intro x y e;rw[e]at hl;exact⟨hl x (by simp),hl y (by simp)⟩
  have e1:∀ x,l=[x]->a.eval x=b.eval x:=by
   intro x e;rw[e]at hl;exact hl x (by simp)
  match l,ts with
  | [],ts=>cases bi<;>rfl
  | [x],ts =>
   have e:=e1 x rfl;rcases ts with _ | ⟨t,_ | ⟨u,r⟩⟩<;>cases bi<;>first | rfl | simp only[e]
  | [x,y],ts =>
   have e:=(e2 x y rfl).1;have e':=(e2 x y rfl).2;rcases ts with _ | ⟨t,_ | ⟨u,_ | ⟨v,r⟩⟩⟩<;>cases bi<;>first | rfl | simp only[e,e']
  | x::y::z::r,ts=>cases bi<;>rfl
theorem lV{a b:Act}{x:Option Operand}(h:∀ y ∈ x.toList,a.eval y=b.eval y):x.map a.eval=x.map b.eval:=by
 cases x with
 | none=>rfl
 | some y=>simp only[Option.map_some,h y (by simp)]
theorem xU{P:Program}{a b:Act}(o:Oper)(h:∀ x ∈ o.op.operands,a.eval x=b.eval x)(s:St):bA P a o s=bA P b o s:=by
 have hfl:ga P a o s=ga P b o s:=xS h s;obtain⟨dst,op,ty,pos,after,guard⟩:=o;cases op<;>simp only[Op.operands]at h<;>simp only[bA]
 case build t ps=>rw[t9 (λx hx=>h x (by simpa using hx))]
 case buildSlice t n ps=>rw[t9 (λx hx=>h x (by simpa using hx))]
 case makeFunc fn first captured =>
  cases fn with
  | func f =>
   simp only;rw[pE (xs:=first) λx hx=>h x (by simp[hx]),pE (xs:=captured) λx hx=>h x (by simp[hx])]
  | _=>rfl
 case call c=>rw[hfl,xT ty h s]
 case makeMap t r =>
  cases r with
  | none=>rfl
  | some x=>simp only[h x (by simp)]
 case slice t x lo hi mx =>
  have hx:a.eval x=b.eval x:=h x (by simp);have hlo:=lV (a:=a) (b:=b) (x:=lo) (λy hy=>h y (by simp;simp at hy;simp[hy]));have hhi:=lV (a:=a) (b:=b) (x:=hi) (λy hy=>h y (by simp;simp at hy;simp[hy]));have hmx:=lV (a:=a) (b:=b) (x:=mx) (λy hy=>h y (by simp;simp at hy;simp[hy]));rw[hx,hlo,hhi,hmx]
 case binOp op t x y yt=>rw[hfl,h x (by simp),h y (by simp)]
 case unOp op t x=>rw[hfl,h x (by simp)]
 case convert t u x=>rw[hfl,h x (by simp)]
 case move x=>rw[h x (by simp)]
 case assign x=>rw[h x (by simp)]
 case box t x=>rw[h x (by simp)]
 case load t x=>rw[h x (by simp)]
 case nilCheck x=>rw[h x (by simp)]
 case makeInterface t x=>rw[h x (by simp)]
 case fieldAddr t x f=>rw[h x (by simp)]
 case field t x f=>rw[h x (by simp)]
 case range t x=>rw[h x (by simp)]
 case next x str=>rw[h x (by simp)]
 case entry x=>rw[h x (by simp)]
 case typeAssert x t u ok=>rw[h x (by simp)]
 case extract x i=>rw[h x (by simp)]
 case store t x y=>rw[h x (by simp),h y (by simp)]
 case indexAddr t x i=>rw[h x (by simp),h i (by simp)]
 case index t x i=>rw[h x (by simp),h i (by simp)]
 case makeSlice t l c=>rw[h l (by simp),h c (by simp)]
 case lookup t m k ok=>rw[h m (by simp),h k (by simp)]
 case pick c x y=>rw[h c (by simp),h x (by simp),h y (by simp)]
 case mapUpdate t m k v=>rw[h m (by simp),h k (by simp),h v (by simp)]
 case insert t m k v=>rw[h m (by simp),h k (by simp),h v (by simp)]
 case mapEntry t m k=>rw[h m (by simp),h k (by simp)]
 case entryStore t m st v=>rw[h m (by simp),h st (by simp),h v (by simp)]
theorem zV{P:Program}{call:Caller}{a b:Act}(o:Oper)(h:∀ x ∈ o.op.operands,a.eval x=b.eval x)(s:St):tK P call a o s=tK P call b o s:=by
 have e:lA a o.op=lA b o.op:=by
  unfold lA;exact List.map_congr_left (λx hx=>h x (by simpa using hx))
 unfold tK rr;rw[xU o h s,e]
end Go.Ev
namespace Go.Ev
open Go.RowKit
variable[bB]
section Last
variable{X Y:Type}
def Holds(D:Nat->Prop)(W:Nat->X->Prop)(V:Nat->X->Y)(z:X->Y)(x:X):Prop :=
 (∀ m,D m->W m x->(∀ m',D m'->W m' x->m'<=m)->z x=V (m+1) x)/\((∀ m,D m->¬ W m x)->z x=V 0 x)
theorem oA{W:Nat->X->Prop}{V:Nat->X->Y}{N:Nat}{x:X}(hV:∀ i,i<N->¬ W i x->V (i+1) x=V i x)(i:Nat) :
  ∀ d,i+d<=N->(∀ m,i<=m->m<i+d->¬ W m x)->V (i+d) x=V i x:=by
 intro d
 induction d with
 | zero=>intro _ _;rfl
 | succ d ih =>
  intro h hn;rw[← ih (by omega) (λm a b=>hn m a (by omega))];exact hV (i+d) (by omega) (hn (i+d) (by omega) (by omega))
theorem zW(p:Nat->Prop):∀ i,(∃ m,m<i/\p m)->∃ m,m<i/\p m/\∀ m',m'<i->p m'->m'<=m:=by
 intro i
 induction i with
 | zero=>rintro⟨m,h,_⟩;omega
 | succ i ih =>
  rintro⟨m,h,hm⟩
  by_cases hp:p i
  ·exact⟨i,by omega,hp,λm' a _=>by omega⟩
  ·have Ql:m<i:=by
    rcases Nat.lt_or_ge m i with g | g
    ·exact g
    ·have e:m=i:=by omega
     rw[e]at hm;exact absurd hm hp
   obtain⟨k,a,b,c⟩:=ih ⟨m,Ql,hm⟩;refine⟨k,by omega,b,λm' x y=>?_⟩;rcases Nat.lt_or_ge m' i with g | g
   ·exact c m' g y
   ·have:m'=i:=by omega
    rw[this]at y;exact absurd y hp
theorem Holds.read{D:Nat->Prop}{W:Nat->X->Prop}{V:Nat->X->Y}{z:X->Y}{x:X}{N i:Nat}(hz:Holds D W V z x)(hN:i<=N)(hD:∀ m,D m->m<N)(hi:¬ D i)
  (hV:∀ i,i<N->¬ W i x->V (i+1) x=V i x) (hc:∀ m,m<N->m≠i->W m x->(m<i->D m)/\(i<m->¬ D m)):z x=V i x:=by
 have hlt:∀ m,D m->W m x->m<i:=by
  intro m hm hw;rcases Nat.lt_trichotomy m i with g | g | g
  ·exact g
  ·subst g;exact absurd hm hi
  ·exact absurd hm ((hc m (hD m hm) (by omega) hw).2 g)
 by_cases hex:∃ m,m<i/\W m x
 ·obtain⟨m,h1,h2,h3⟩:=zW (λm=>W m x) i hex
  have hm:D m:=(hc m (by omega) (by omega) h2).1 h1;rw[hz.1 m hm h2 (λm' a b=>h3 m' (hlt m' a b) b)];have:=oA (N:=N) hV (m+1) (i-(m+1)) (by omega) (λk a b hk=>by have:=h3 k (by omega) hk;omega);rw[show m+1+(i-(m+1))=i by omega]at this;exact this.symm
 ·rw[hz.2 (λm hm hw=>hex ⟨m,hlt m hm hw,hw⟩)]
  have:=oA (N:=N) hV 0 i (by omega) (λk a b hk=>hex ⟨k,by omega,hk⟩);rw[Nat.zero_add]at this;exact this.symm
theorem Holds.step{D D':Nat->Prop}{W:Nat->X->Prop}{V:Nat->X->Y}{z z':X->Y}{x:X}{i:Nat}(hz:Holds D W V z x)(hD:∀ m,D' m↔m=i\/D m)
  (h1:W i x->z' x=V (i+1) x) (h2:¬ W i x->z' x=z x) (hc:W i x->∀ m,W m x->i<m->¬ D m):Holds D' W V z' x:=by
 by_cases hw:W i x
 ·refine⟨λm hm Ji hmax=>?_,λhno=>absurd hw (hno i ((hD i).2 (.inl rfl)))⟩
  have hge:=hmax i ((hD i).2 (.inl rfl)) hw;have Ql:m=i:=by
   rcases(hD m).1 hm with e | e
   ·exact e
   ·rcases Nat.lt_or_ge i m with g | g
    ·exact absurd e (hc hw m Ji g)
    ·omega
  rw[Ql];exact h1 hw
 ·rw[Holds,h2 hw]
  refine⟨λm hm Ji hmax=>?_,λhno=>hz.2 (λm hm=>hno m ((hD m).2 (.inr hm)))⟩;have hm':D m:=by
   rcases(hD m).1 hm with e | e
   ·rw[e]at Ji;exact absurd Ji hw
   ·exact e
  exact hz.1 m hm' Ji (λm' a b=>hmax m' ((hD m').2 (.inr a)) b)
theorem Holds.start{W:Nat->X->Prop}{V:Nat->X->Y}{D:Nat->Prop}(hD:∀ m,¬ D m)(z:X->Y)(x:X)(h:z x=V 0 x):Holds D W V z x :=
 ⟨λm hm=>absurd hm (hD m),λ_=>h⟩
end Last
theorem xV(look:Nat->Nat)(i:Nat):∀ (l:List Edge) (s:Nat),(l.foldl (λs e=>if Region.binds .any e then s ||| 2 ^ e.on ||| look e.on else s) s).testBit i=true->
  s.testBit i=true\/∃ e ∈ l,Region.binds .any e=true/\(e.on=i\/(look e.on).testBit i=true):=by
 intro l
 induction l with
 | nil=>intro s h;exact .inl h
 | cons e rest ih =>
  intro s h;rw[List.foldl_cons]at h;rcases ih _ h with g | ⟨e',he',hb',hh⟩
  ·split at g
   ·rename_i hb
    rw[Nat.testBit_or,Nat.testBit_or,Bool.or_eq_true,Bool.or_eq_true,Nat.testBit_two_pow,decide_eq_true_eq]at g;rcases g with (g | g) | g
    ·exact .inl g
    ·exact .inr ⟨e,List.mem_cons_self ..,hb,.inl g⟩
    ·exact .inr ⟨e,List.mem_cons_self ..,hb,.inr g⟩
   ·exact .inl g
  ·exact .inr ⟨e',List.mem_cons_of_mem _ he',hb',hh⟩
def Ez(ops:Array Oper)(acc:Array Nat):Prop:=∀ j i,(acc.getD j 0).testBit i=true->
 ∃ o e,ops[j]? = some o/\e ∈ o.after/\Region.binds .any e=true/\(e.on=i\/(e.on<j/\(acc.getD e.on 0).testBit i=true))
theorem xW(ops:Array Oper):Ez ops (Region.before ops):=by
 unfold Region.before;have main:=@Array.foldl_induction _ _ ops (λk acc=>acc.size=k/\Ez ops acc) #[] ⟨rfl,λj i h=>by simp at h⟩
  (λacc o=>acc.push (o.after.foldl (λs e=>if Region.binds .any e then s ||| 2 ^ e.on ||| acc.getD e.on 0 else s) 0)) (by
   rintro⟨k,hk⟩ acc ⟨hs,hb⟩;refine⟨by simp[hs],λj i h=>?_⟩;have hs':acc.size=k:=hs;have gl:∀ v m,m<k->(acc.push v).getD m 0=acc.getD m 0:=by
    intro v m hm;have hm':m<acc.size:=by omega
    have hm2:m<(acc.push v).size:=by simp;omega
    rw[Array.getD,Array.getD,dif_pos hm',dif_pos hm2];exact Array.getElem_push_lt hm'
   rcases Nat.lt_trichotomy j k with g | g | g
   ·rw[gl _ j g]at h
    obtain⟨o,e,h1,h2,h3,h4⟩:=hb j i h;refine⟨o,e,h1,h2,h3,?_⟩;rcases h4 with h4 | ⟨h4,h5⟩
    ·exact .inl h4
    ·refine .inr ⟨h4,?_⟩
     rw[gl _ _ (by omega)];exact h5
   ·subst g
    have hlast:∀ v,(acc.push v).getD j 0=v:=by
     intro v;have hm2:j<(acc.push v).size:=by simp;omega
     rw[Array.getD,dif_pos hm2];show(acc.push v)[j]=v;rw[Array.getElem_push];rw[dif_neg (by omega)]
    rw[hlast]at h;rw[← Array.foldl_toList]at h;rcases xV (λm=>acc.getD m 0) i _ _ h with h | ⟨e,h2,h3,h4⟩
    ·simp at h
    ·refine⟨ops[j],e,Array.getElem?_eq_getElem hk,by simpa using h2,h3,?_⟩
     rcases h4 with h4 | h4
     ·exact .inl h4
     ·have hlt:e.on<j:=by
       rcases Nat.lt_or_ge e.on j with g | g
       ·exact g
       ·have h0:acc.getD e.on 0=0:=by rw[Array.getD,dif_neg (by omega)]
        rw[h0]at h4;simp at h4
      refine .inr ⟨hlt,?_⟩;rw[gl _ _ hlt];exact h4
   ·have h0:∀ v,(acc.push v).getD j 0=0:=by
     intro v;rw[Array.getD,dif_neg (by simp;omega)]
    rw[h0]at h
    simp at h)
 exact main.2
def Down(ops:Array Oper)(D:Nat->Prop):Prop:=∀ j o,ops[j]? = some o->D j->∀ e ∈ o.after,Region.binds .any e=true->D e.on
theorem m8{ops:Array Oper}{D:Nat->Prop}(hd:Down ops D):∀ (n j i:Nat),j<n->((Region.before ops).getD j 0).testBit i=true->
  (∀ o,ops[j]? = some o->∀ e ∈ o.after,Region.binds .any e=true->D e.on)->D i:=by
 intro n
 induction n with
 | zero=>intro j i h;omega
 | succ n ih =>
  intro j i hj h hall;obtain⟨o,e,h1,h2,h3,h4⟩:=xW ops j i h;have hon:=hall o h1 e h2 h3;rcases h4 with h4 | ⟨h4,h5⟩
  ·rw[← h4];exact hon
  ·exact ih e.on i (by omega) h5 (λo' ho' e' he' hb'=>hd _ _ ho' hon e' he' hb')
theorem zX(b:Array Nat):∀ (ls:List (List Touch)) (j:Nat),iH b ls j=true->∀ (p q:Nat) (l m:List Touch),p<q->ls[p]? = some l->ls[q]? = some m->clashes l m=true->(b.getD (j-p) 0).testBit (j-q)=true:=by
 intro ls
 induction ls with
 | nil=>intro j h p q l m hpq hl;cases hl
 | cons x rest ih =>
  intro j h p q l m hpq hl hm hc;simp only[iH,Bool.and_eq_true]at h;obtain⟨h1,h2⟩:=h
  match p,q with
  | p+1,q+1 =>
   have:=ih (j-1) h2 p q l m (by omega) (by simpa using hl) (by simpa using hm) hc;rw[show j-1-p=j-(p+1) by omega,show j-1-q=j-(q+1) by omega]at this;exact this
  | 0,q+1 =>
   simp only[List.getElem?_cons_zero,Option.some.injEq]at hl;subst hl;simp only[List.getElem?_cons_succ]at hm;rw[Bool.or_eq_true]at h1;rcases h1 with h1 | h1
   ·rw[List.isEmpty_iff]at h1
    subst h1;simp[clashes]at hc
   ·rw[List.all_eq_true]at h1
    have h3:=h1 (m,q) (by rw[List.mem_zipIdx_iff_getElem?];exact hm);simp only[Bool.or_eq_true,Bool.not_eq_true']at h3;rcases h3 with (h3 | h3) | h3
    ·rw[List.isEmpty_iff]at h3
     subst h3;simp[clashes]at hc
    ·rw[show j-1-q=j-(q+1) by omega]at h3
     exact h3
    ·rw[h3]at hc;cases hc
theorem vL{b:Array Nat}{N:Nat}{Lf:Nat->List Touch}(h:iH b ((List.range N).map Lf).reverse (N-1)=true){i m:Nat}(him:i<m)(hm:m<N)(hc:clashes (Lf m) (Lf i)=true) :
  (b.getD m 0).testBit i=true:=by
 have get:∀ k,k<N->((List.range N).map Lf).reverse[N-1-k]? = some (Lf k):=by
  intro k hk;rw[List.getElem?_reverse (by simp;omega)];simp only[List.length_map,List.length_range,List.getElem?_map];rw[show N-1-(N-1-k)=k by omega,List.getElem?_range hk];rfl
 have:=zX b _ _ h (N-1-m) (N-1-i) (Lf m) (Lf i) (by omega) (get m hm) (get i (by omega)) hc;rw[show N-1-(N-1-m)=m by omega,show N-1-(N-1-i)=i by omega]at this;exact this
def Stp(P:Program)(call:Caller)(ops:Array Oper)(o:Oper)(a:Act)(s:St)(a1:Act)(s1:St)(L:List Touch):Prop :=
 ∃ v,a1=a.put o.dst v/\((Region.wanted o (yielded ops a.tmps)=true/\∃ s2,tK P call a o { s with log:=[] }=some (v,s2)/\L=s2.log/\s1 = { s2 with log:=s2.log++s.log })\/
  (Region.wanted o (yielded ops a.tmps)=false/\v=undef/\s1=s/\L=[]))
theorem xX{P:Program}{call:Caller}{ops:Array Oper} : ∀ (l:List Oper) (a:Act) (s:St) (ls:List (List Touch)) (a1:Act) (s1:St) (ms:List (List Touch)),lB P call ops l a s ls=some (a1,s1,ms)->
  ∃ (ac:Nat->Act) (S:Nat->St) (Lf:Nat->List Touch),ac 0=a/\S 0=s/\ac l.length=a1/\S l.length=s1/\ms=((List.range l.length).map Lf).reverse++ls/\
   ∀ i o,l[i]? = some o->Stp P call ops o (ac i) (S i) (ac (i+1)) (S (i+1)) (Lf i):=by
 intro l
 induction l with
 | nil =>
  intro a s ls a1 s1 ms h;cases h;exact⟨λ_=>a,λ_=>s,λ_=>[],rfl,rfl,rfl,rfl,rfl,λi o h=>by cases h⟩
 | cons o rest ih =>
  intro a s ls a1 s1 ms h;have key:∃ a2 s2 L,Stp P call ops o a s a2 s2 L/\lB P call ops rest a2 s2 (L::ls)=some (a1,s1,ms):=by
   simp only[lB]at h
   split at h
   ·rename_i hw
    split at h
    ·rename_i a2 s2 hs
     rw[rD]at hs
     split at hs
     ·rename_i v s3 hr
      cases hs;exact⟨_,_,_,⟨v,rfl,.inl ⟨hw,s2,hr,rfl,rfl⟩⟩,h⟩
     ·cases hs
    ·cases h
   ·rename_i hw
    exact⟨_,_,_,⟨undef,rfl,.inr ⟨by simpa using hw,rfl,rfl,rfl⟩⟩,h⟩
  obtain⟨a2,s2,L,hst,hrest⟩:=key;obtain⟨ac,S,Lf,e1,e2,e3,e4,e5,e6⟩:=ih _ _ _ _ _ _ hrest;refine⟨(λn=>match n with | 0=>a | n+1=>ac n),(λn=>match n with | 0=>s | n+1=>S n),(λn=>match n with | 0=>L | n+1=>Lf n),rfl,rfl,e3,e4,?_,?_⟩
  ·rw[e5,List.length_cons,List.range_succ_eq_map,List.map_cons,List.map_map,List.reverse_cons,List.append_assoc]
   rfl
  ·intro i o' hi
   match i with
   | 0 =>
    simp only[List.getElem?_cons_zero,Option.some.injEq]at hi;subst hi;dsimp only;rw[e1,e2];exact hst
   | i+1 =>
    simp only[List.getElem?_cons_succ]at hi;exact e6 i o' hi
theorem Stp.known{P:Program}{call:Caller}{ops:Array Oper}{o:Oper}{a a1:Act}{s s1:St}{L:List Touch}(hcl:d_ call)(h:Stp P call ops o a s a1 s1 L) :
  s.next<=s1.next/\(m6 s s.next s1.next->N4 L s s1/\(∀ t ∈ L,Old s.next s1.next t.id->s.look t.id≠none)/\∃ v,a1=a.put o.dst v/\
   ∀ (b:Act) (z:St),Region.wanted o (yielded ops b.tmps)=Region.wanted o (yielded ops a.tmps)->(∀ x ∈ o.op.operands,b.eval x=a.eval x)->z.next=s.next->
    (∀ t ∈ L,Old s.next s1.next t.id->Eu t (s.look t.id) (z.look t.id))->m6 z s.next s1.next->
    (Region.wanted o (yielded ops b.tmps)=true/\∃ z1,jg P call b o z=some (b.put o.dst v,z1)/\z1.next=s1.next/\Ld L s1 z z1)\/
    (Region.wanted o (yielded ops b.tmps)=false/\v=undef/\s1=s/\L=[])):=by
 obtain⟨v,ha,h | ⟨hw,hv,rfl,rfl⟩⟩:=h
 ·obtain⟨hw,s2,hr,rfl,rfl⟩:=h
  obtain⟨n,k⟩:=rE (P:=P) hcl a o _ _ _ hr;refine⟨n,λhwin=>?_⟩;obtain⟨L,e,u,bd,l⟩:=k hwin;have eL:s2.log=L:=by rw[e];simp
  rw[eL];refine⟨u,bd,v,ha,λb z hwb hev hz hag hzc=>.inl ⟨by rw[hwb];exact hw,?_⟩⟩;obtain⟨z1,f1,m1,g1,r1⟩:=l z hz hag hzc;refine⟨z1,?_,m1,r1⟩;rw[rD,zV o hev z,f1]
 ·exact⟨Nat.le_refl _,λ_=>⟨λid _=>⟨rfl,λk _=>rfl⟩,(λt ht=>by cases ht),v,ha,λb z hwb _ _ _ _=>.inr ⟨by rw[hwb];exact hw,hv,rfl,rfl⟩⟩⟩
end Go.Ev
namespace Go.Ev
open Go.RowKit
variable[bB]
theorem EA{types:Array TypeInfo}{ops:Array Oper}{draw:Bool}(h:Region.ok types ops draw=true) :
  (∀ (i:Nat) (o:Oper),ops[i]? = some o->∀ e ∈ o.after,Region.binds .any e=true->e.on<i)/\
  (∀ (i:Nat) (o:Oper) (j:Nat) (b:Bool),ops[i]? = some o->o.guard=some (j,b)->(∃ e ∈ o.after,e.on=j/\Region.binds .any e=true)/\∃ d,(ops[j]?).bind (·.dst)=some d)/\
  Region.temporariesOk ops (Region.before ops)=true:=by
 unfold Region.ok at h;simp only[Bool.and_eq_true]at h;obtain⟨⟨⟨⟨h1,h2⟩,_⟩,_⟩,_⟩:=h;rw[Array.all_eq_true_iff_forall_mem]at h1;have at_:∀ i o,ops[i]? = some o->(o,i) ∈ ops.zipIdx:=λi o hi=>by
  rw[Array.mem_zipIdx_iff_getElem?];exact hi
 refine⟨λi o hi e he hb=>?_,λi o j b hi hg=>?_,h2⟩
 ·have h3:=h1 (o,i) (at_ i o hi)
  simp only[Bool.and_eq_true,Array.all_eq_true_iff_forall_mem]at h3;have h4:=h3.1 e he;rw[Bool.or_eq_true]at h4;rcases h4 with h4 | h4
  ·simpa using h4
  ·unfold Region.binds at hb
   split at h4
   ·rename_i d hgr
    rw[hgr]at hb;simp at hb
   ·cases h4
 ·have h3:=h1 (o,i) (at_ i o hi)
  simp only[Bool.and_eq_true,hg]at h3;obtain⟨_,h4,h5⟩:=h3;rw[Array.any_eq_true']at h4;obtain⟨e,he,hh⟩:=h4;simp only[Bool.and_eq_true,beq_iff_eq]at hh;exact⟨⟨e,he,hh⟩,by rw[Option.isSome_iff_exists]at h5;exact h5⟩
abbrev ND:=Array (List (Tmp×Nat))
def kM(N:Nat)(w:ND)(x:Oper×Nat):ND :=
 match x.1.dst with
 | some d=>w.modify (d%N) ((d,x.2) :: ·)
 | none=>w
theorem EB(N:Nat)(w:ND)(x:Oper×Nat):(kM N w x).size=w.size:=by
 unfold kM
 split<;>simp
theorem EC(N:Nat)(w:ND)(x:Oper×Nat)(k:Nat)(p:Tmp×Nat)(h:p ∈ w.getD k []):p ∈ (kM N w x).getD k []:=by
 unfold kM
 split
 ·rename_i d hd
  have hk:k<w.size:=by
   rcases Nat.lt_or_ge k w.size with g | g
   ·exact g
   ·rw[Array.getD,dif_neg (by omega)]at h;cases h
  rw[Array.getD,dif_pos (by simpa using hk)];rw[Array.getD,dif_pos hk]at h;show p ∈ (w.modify (d%N) _)[k]'_;rw[Array.getElem_modify]
  split
  ·exact List.mem_cons_of_mem _ h
  ·exact h
 ·exact h
theorem CY(N:Nat):∀ (l:List (Oper×Nat)) (w:ND) (k:Nat) (p:Tmp×Nat),p ∈ w.getD k []->p ∈ (l.foldl (kM N) w).getD k []:=by
 intro l
 induction l with
 | nil=>intro w k p h;exact h
 | cons x rest ih=>intro w k p h;exact ih _ k p (EC N w x k p h)
theorem Jj(N:Nat)(hN:0<N):∀ (l:List (Oper×Nat)) (w:ND),w.size=N->∀ x ∈ l,∀ d,x.1.dst=some d->(d,x.2) ∈ (l.foldl (kM N) w).getD (d%N) []:=by
 intro l
 induction l with
 | nil=>intro w hw x hx;cases hx
 | cons y rest ih =>
  intro w hw x hx d hd;rw[List.foldl_cons];rcases List.mem_cons.1 hx with e | e
  ·subst e
   refine CY N rest _ _ _ ?_;unfold kM;rw[hd];dsimp only;have hk:d%N<w.size:=by rw[hw];exact Nat.mod_lt _ hN
   rw[Array.getD,dif_pos (by simpa using hk)];show _ ∈ (w.modify (d%N) _)[d%N]'_;rw[Array.getElem_modify,if_pos rfl];exact List.mem_cons_self ..
  ·exact ih _ (by rw[EB];exact hw) x e d hd
def nameOf(o:Oper)(t:Tmp):Prop:=o.dst=some t\/.tmp t ∈ o.op.operands
theorem oB{ops:Array Oper}(h:Region.temporariesOk ops (Region.before ops)=true){i m:Nat}{o p:Oper}{t:Tmp}(hi:ops[i]? = some o)(hm:ops[m]? = some p)(hn:nameOf o t)(hd:p.dst=some t)(hne:m≠i) :
  ((Region.before ops).getD (max m i) 0).testBit (min m i)=true:=by
 have hlt:i<ops.size:=(Array.getElem?_eq_some_iff.1 hi).1;unfold Region.temporariesOk at h;simp only[List.all_eq_true]at h
 have h1:=h (o,i) (by rw[List.mem_zipIdx_iff_getElem?];simpa using hi) t (by
  rw[List.mem_append];rcases hn with e | e
  ·exact .inl (by simp[e])
  ·refine .inr ?_
   rw[List.mem_filterMap]
   exact⟨.tmp t,by simpa using e,rfl⟩)
 have hw:=Jj ops.size (by omega) ops.toList.zipIdx (Array.replicate ops.size []) (by simp) (p,m) (by rw[List.mem_zipIdx_iff_getElem?];simpa using hm) t hd;have h2:=h1 (t,m) hw;simp only[bne_self_eq_false,Bool.false_or,Bool.or_eq_true,beq_iff_eq]at h2;rcases h2 with h2 | h2
 ·exact absurd h2 hne
 ·exact h2
theorem zY{ops:Array Oper}(h:gU ops=true){i m:Nat}{o p:Oper}{g:Nat}{b:Bool}{t:Tmp}(hi:ops[i]? = some o)(hg:o.guard=some (g,b))(ht:(ops[g]?).bind (·.dst)=some t)(hm:ops[m]? = some p)(hd:p.dst=some t):m=g:=by
 unfold gU at h;rw[List.all_eq_true]at h;have h1:=h o (by rw[Array.mem_toList_iff];exact Array.mem_of_getElem? hi);rw[hg]at h1;dsimp only at h1;rw[List.all_eq_true]at h1;have h2:=h1 (p,m) (by rw[List.mem_zipIdx_iff_getElem?];simpa using hm);simp only[Bool.or_eq_true,beq_iff_eq,ht,hd,bne_self_eq_false,Bool.false_eq_true,or_false]at h2;exact h2
abbrev Loc:=Nat×Option Nat
def val(H:Nat->Option Obj):Loc->Lc ⊕ Option Value
 | (id,none)=>.inl (kJ (H id))
 | (id,some k)=>.inr (tg (H id) k)
def Wr(L:List Touch):Loc->Prop
 | (id,none)=>jh L id
 | (id,some k)=>jh L id\/mU L id k
def N8(t:Touch)(x:Loc):Prop:=x=(t.id,none)\/∃ k,x=(t.id,some k)/\(t.at_=none\/t.at_=some k)
theorem N4.val{L:List Touch}{s s1:St}(h:N4 L s s1)(x:Loc)(hx:¬ Wr L x):val s1.look x=val s.look x:=by
 obtain⟨id,k⟩:=x;cases k with
 | none=>exact congrArg Sum.inl (h id hx).1
 | some k =>
  have hx':=not_or.1 hx;exact congrArg Sum.inr ((h id hx'.1).2 k hx'.2)
theorem Ld.val{L:List Touch}{s1 s2 s3:St}(h:Ld L s1 s2 s3)(x:Loc):(Wr L x->val s3.look x=val s1.look x)/\(¬ Wr L x->val s3.look x=val s2.look x):=by
 obtain⟨id,k⟩:=x;obtain⟨ha,hb⟩:=h id;cases k with
 | none=>exact⟨λhw=>by unfold Ev.val;dsimp only;rw[ha hw],λhw=>congrArg Sum.inl (hb hw).1⟩
 | some k =>
  refine⟨λhw=>?_,λhw=>?_⟩
  ·by_cases ha':jh L id
   ·unfold Ev.val;dsimp only;rw[ha ha']
   ·exact congrArg Sum.inr (((hb ha').2 k).1 (hw.resolve_left ha'))
  ·have hx':=not_or.1 hw
   exact congrArg Sum.inr (((hb hx'.1).2 k).2 hx'.2)
theorem xY{H H':Nat->Option Obj}(h:∀ x,val H x=val H' x):H=H':=by
 funext id
 exact oj (Sum.inl.inj (h (id,none))) (λk=>Sum.inr.inj (h (id,some k)))
theorem zZ{H H':Nat->Option Obj}(t:Touch)(h:∀ x,N8 t x->val H x=val H' x):Eu t (H t.id) (H' t.id):=by
 unfold Eu
 split
 ·rename_i hn
  exact oj (Sum.inl.inj (h (t.id,none) (.inl rfl))) (λk=>Sum.inr.inj (h (t.id,some k) (.inr ⟨k,rfl,.inl hn⟩)))
 ·rename_i k hk
  exact⟨Sum.inl.inj (h (t.id,none) (.inl rfl)),Sum.inr.inj (h (t.id,some k) (.inr ⟨k,rfl,.inr hk⟩))⟩
theorem Wr.PR{L:List Touch}{x:Loc}(h:Wr L x):∃ t ∈ L,N8 t x:=by
 obtain⟨id,k⟩:=x;cases k with
 | none =>
  obtain⟨t,ht,e,_,_⟩:=h;exact⟨t,ht,.inl (by rw[e])⟩
 | some k =>
  rcases h with ⟨t,ht,e,_,hn⟩ | ⟨t,ht,e,_,hn⟩
  ·exact⟨t,ht,.inr ⟨k,by rw[e],.inl hn⟩⟩
  ·exact⟨t,ht,.inr ⟨k,by rw[e],.inr hn⟩⟩
theorem z6(t u:Touch):clash t u=clash u t:=by
 unfold clash;rw[Bool.beq_comm,Bool.or_comm]
 congr 1
 cases t.at_ with
 | none=>cases u.at_<;>rfl
 | some i =>
  cases u.at_ with
  | none=>rfl
  | some j=>exact Bool.beq_comm
theorem z7{L M:List Touch}{t:Touch}{x:Loc}(ht:t ∈ L)(hx:N8 t x)(hw:Wr M x):clashes L M=true/\clashes M L=true:=by
 have key:∃ u ∈ M,clash t u=true:=by
  rcases hx with e | ⟨k,e,hk⟩
  ·subst e
   obtain⟨u,hu,e1,e2,e3⟩:=hw;refine⟨u,hu,?_⟩;unfold clash;rw[e1,e2,e3];cases t.at_<;>simp
  ·subst e
   rcases hw with ⟨u,hu,e1,e2,e3⟩ | ⟨u,hu,e1,e2,e3⟩
   ·refine⟨u,hu,?_⟩
    unfold clash;rw[e1,e2,e3];cases t.at_<;>simp
   ·refine⟨u,hu,?_⟩
    unfold clash;rw[e1,e2,e3];rcases hk with hk | hk<;>rw[hk]<;>simp
 obtain⟨u,hu,hc⟩:=key;constructor
 ·exact List.any_eq_true.2 ⟨t,ht,List.any_eq_true.2 ⟨u,hu,hc⟩⟩
 ·exact List.any_eq_true.2 ⟨u,hu,List.any_eq_true.2 ⟨t,ht,by rw[z6];exact hc⟩⟩
end Go.Ev
