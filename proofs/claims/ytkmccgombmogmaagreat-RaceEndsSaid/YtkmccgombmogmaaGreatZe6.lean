/- Part of a proof: see the last text. -/
import Derived.Test.YtkmccgombmogmaaGreatZe5
set_option linter.unusedSectionVars false
set_option linter.unusedSimpArgs false
set_option linter.unusedVariables false
namespace Go.Ev
open Go.RowKit
variable[bg]
def dU(call:Caller):Prop:=∀ c,Local (call c)
def tg(P:Program)(call:Caller)(a:Act)(o:Oper)(s:St):Option (Value×St) :=
 match bg.HZ o.op (kW a o.op) with
 | some q=>qN q a o s
 | none =>
 match bf P a o s with
 | some (.value v,s1)=>some (v,s1)
 | some (.skip,s1)=>some (undef,s1)
 | some (.enter f args,s1)=>call (.fn f args) s1
 | some (.round l _ tmps assign body,s1)=>call (.D2 l tmps assign body) s1
 | _=>none
theorem qV(P:Program)(call:Caller)(a:Act)(o:Oper)(s:St) :
  ib P call a o s=match tg P call a o s with | some (v,s1)=>some (a.put o.dst v,s1) | none=>none:=by
 unfold ib tg;cases bg.HZ o.op (kW a o.op) with
 | some q=>rfl
 | none =>
 dsimp only;cases bf P a o s with
 | none=>rfl
 | some x =>
  obtain⟨n,s1⟩:=x;cases n<;>rfl
theorem xh{x y:Option Obj}{a:Addr}(hx:x=some (.view a 0))(h:D4 ⟨3,some 1,false⟩ x y):y=some (.view a 0):=by
 obtain⟨h1,h2⟩:=h;obtain⟨a',rfl⟩:=jJ h1 hx;subst hx;simp only[sj,if_true,Option.some.injEq,Value.pointer.injEq]at h2;rw[h2]
theorem na(q:GQ):Local (sR q):=by
 intro s r s1 h;unfold sR at h
 split at h
 case h_2=>cases h
 rename_i x hl
 split at h
 ·rename_i v hq
  cases h;refine⟨Nat.le_refl _,λhcl=>⟨[⟨3,some 1,false⟩],rfl,λj _=>⟨rfl,λk _=>rfl⟩,?_,?_⟩⟩
  ·intro u hu _
   rw[List.mem_singleton]at hu;subst hu;exact λhno=>by have hno:s.look 3=none:=hno;rw[hno]at hl;cases hl
  ·intro z hz hag hzc
   have h0:=xh hl (hag ⟨3,some 1,false⟩ (List.mem_singleton.2 rfl) (λ⟨x,y⟩=>Nat.lt_irrefl _ (Nat.lt_of_le_of_lt x y)));refine⟨z.touch 3 (some 1) false,?_,hz,rfl,?_⟩
   ·unfold sR
    rw[h0];show(match q x.block (4*z.next+3) with | some (r,none)=>some (r,z.touch 3 (some 1) false) | some (r,some g)=>some (r,{ (z.put 3 (some (il g))).touch 3 (some 1) true with next:=z.next+1 }) | none=>none)=_;rw[hz,hq]
   ·intro j
    have nw:¬ iW [⟨3,some 1,false⟩] j:=λ⟨u,hu,_,hw,_⟩=>by rw[List.mem_singleton]at hu;subst hu;cases hw
    exact⟨λh=>(nw h).elim,λ_=>⟨rfl,λk=>⟨(λ⟨u,hu,_,hw,_⟩=>by rw[List.mem_singleton]at hu;subst hu;cases hw),λ_=>rfl⟩⟩⟩
 ·rename_i v g hq
  cases h;have lk:∀ (z:St) (n:Nat) j,(({ (z.put 3 (some (il g))).touch 3 (some 1) true with next:=n } : St)).look j=if j=3 then some (il g) else z.look j:=by
   intro z n j
   by_cases ej:j=3
   ·rw[if_pos ej,ej];exact St.bZ _ 3 _ (show 3<lim by unfold lim;omega)
   ·rw[if_neg ej];exact St.bh _ _ _ _ ej
  have nall:∀ j,¬ iW [⟨3,some 1,true⟩] j:=λj ⟨u,hu,_,_,hn⟩=>by rw[List.mem_singleton]at hu;subst hu;cases hn
  have O6:∀ j k,mE [⟨3,some 1,true⟩] j k->j=3/\k=1:=λj k ⟨u,hu,hid,_,hn⟩=>by rw[List.mem_singleton]at hu;subst hu;cases hn;exact⟨hid.symm,rfl⟩
  have M3:mE [⟨3,some 1,true⟩] 3 1:=⟨_,List.mem_singleton.2 rfl,rfl,rfl,rfl⟩;have Oq:∀ (a:Addr) k,k≠1->sj (some (.view a 0)) k=none:=λa k hk=>by simp[sj,hk]
  refine⟨Nat.le_succ _,λhcl=>⟨[⟨3,some 1,true⟩],rfl,?_,?_,?_⟩⟩
  ·intro j _
   rw[lk s _ j]
   by_cases ej:j=3
   ·subst ej
    rw[if_pos rfl,hl];refine⟨rfl,λk hk=>?_⟩;have hk1:k≠1:=λe=>hk (e▸M3)
    rw[Oq x k hk1];exact Oq _ k hk1
   ·rw[if_neg ej]
    exact⟨rfl,λ_ _=>rfl⟩
  ·intro u hu _
   rw[List.mem_singleton]at hu;subst hu;exact λhno=>by have hno:s.look 3=none:=hno;rw[hno]at hl;cases hl
  ·intro z hz hag hzc
   have h0:z.look 3=some (.view x 0):=xh hl (hag ⟨3,some 1,true⟩ (List.mem_singleton.2 rfl) (λhh=>by
    have:=hcl 3 hh.1 hh.2;rw[hl]at this
    cases this))
   refine⟨{ (z.put 3 (some (il g))).touch 3 (some 1) true with next:=s.next+1 },?_,rfl,rfl,?_⟩
   ·unfold sR
    rw[h0];show(match q x.block (4*z.next+3) with | some (r,none)=>some (r,z.touch 3 (some 1) false) | some (r,some g)=>some (r,{ (z.put 3 (some (il g))).touch 3 (some 1) true with next:=z.next+1 }) | none=>none)=_;rw[hz,hq]
   ·intro j
    rw[lk z _ j,lk s _ j];refine⟨λh=>(nall j h).elim,λ_=>?_⟩
    by_cases ej:j=3
    ·subst ej
     rw[if_pos rfl,h0];refine⟨rfl,λk=>⟨λ_=>by rw[if_pos rfl],λhk=>?_⟩⟩;have hk1:k≠1:=λe=>hk (e▸M3)
     rw[Oq x k hk1];exact Oq _ k hk1
    ·rw[if_neg ej]
     exact⟨rfl,λk=>⟨λhk=>(ej (O6 j k hk).1).elim,λ_=>rfl⟩⟩
 ·cases h
theorem xi(sz:Nat)(x:Value):Local (wY sz x):=Local.congr (λs=>rfl) (lF sz x)
theorem D7{r:Value}{x y:Option Obj}(h:kx x=kx y):qM r y=qM r x:=by
 cases x with
 | none=>rw[dM h.symm]
 | some o =>
  cases o with
  | view a n =>
   obtain⟨a',rfl⟩:=jJ h rfl;unfold qM;cases n<;>rfl
  | cells c e f =>
   obtain⟨c',rfl,_⟩:=jI h rfl;rfl
  | _=>rw[iu h (by intro c e f hh;cases hh) (by intro a n hh;cases hh)]
theorem u9(q:p_)(vals:List Value):Local (m7 q vals):=by
 cases q with
 | now q=>exact Local.congr (λs=>rfl) (na q)
 | stay r =>
  refine Local.congr (λs=>?_) (Local.read 3 (some 0) (qM r) (λx y h=>D7 h.1) rfl);simp only[m7];cases qM r (s.look 3)<;>rfl
 | src sz j q =>
  cases hv:vals[j]? with
  | none=>exact Local.congr (λs=>by simp[m7,hv]) Local.none
  | some y =>
   refine Local.congr (λs=>?_) (Local.bind (xi sz y) (λc=>na (q c.toList)));simp only[m7,hv];cases wY sz y s with
   | none=>rfl
   | some z=>rfl
theorem xj(q:p_)(a:Act)(o:Oper):Local (qN q a o):=by
 unfold qN;cases bM o.op.operands.toList with
 | true=>exact Local.congr (λs=>by simp) (u9 q (kW a o.op))
 | false=>exact Local.congr (λs=>by simp) Local.none
theorem qW{P:Program}{call:Caller}(hc:dU call)(a:Act)(o:Oper):Local (tg P call a o):=by
 cases hg:bg.HZ o.op (kW a o.op) with
 | some q=>exact Local.congr (λs=>by unfold tg;rw[hg]) (xj q a o)
 | none =>
 refine Local.congr (λs=>?_) (Local.bind (lG P a o) (g:=λn s=>match n with | .value v=>some (v,s) | .skip=>some (undef,s) | .enter f args=>call (.fn f args) s | .round l _ tmps assign body=>call (.D2 l tmps assign body) s | _=>none) (λn=>?_))
 ·unfold tg
  rw[hg];dsimp only;cases bf P a o s with
  | none=>rfl
  | some x=>obtain⟨n,s1⟩:=x;cases n<;>rfl
 ·cases n with
  | value v=>exact Local.pure v
  | skip=>exact Local.pure undef
  | enter f args=>exact hc (.fn f args)
  | round l f tmps assign body=>exact hc (.D2 l tmps assign body)
  | _=>exact Local.none
theorem jm{P:Program}{call:Caller}(hc:dU call)(a:Act)(o:Oper):Local (ib P call a o):=by
 refine Local.congr (λs=>?_) (Local.bind (qW (P:=P) hc a o) (λv=>Local.pure (a.put o.dst v)));rw[qV];cases tg P call a o s with
 | none=>rfl
 | some x=>rfl
theorem Local.M4{α:Type}{f:St->Option (α×St)}(hf:Local f) :
  Local (λs=>match f { s with log:=[] } with | some (a,s1)=>some ((a,s1.log),{ s1 with log:=s1.log++s.log }) | Option.none=>Option.none):=by
 intro s r s1 h;dsimp only at h
 split at h
 ·rename_i a s2 hfs
  cases h;obtain⟨n,k⟩:=hf _ _ _ hfs;refine⟨n,λhcl=>?_⟩;obtain⟨L,e,u,b,l⟩:=k hcl;have eL:s2.log=L:=by rw[e];simp
  refine⟨L,by rw[← eL],u,b,?_⟩;intro z hz hag hzc;obtain⟨z1,f1,m1,g1,r1⟩:=l { z with log:=[] } hz hag hzc;have Qv:z1.log=L:=by rw[g1];simp
  refine⟨{ z1 with log:=z1.log++z.log },?_,m1,by rw[Qv],r1⟩;dsimp only;rw[f1];dsimp only;rw[eL,Qv]
 ·cases h
theorem pQ{P:Program}{call:Caller}(hc:dU call)(ops:Array Oper):∀ (l:List Oper) (a:Act),Local (lA P call ops l a):=by
 intro l
 induction l with
 | nil=>intro a;exact Local.congr (λs=>rfl) (Local.pure a)
 | cons o rest ih =>
  intro a;cases hw:Region.wanted o (yielded ops a.tmps) with
  | false=>exact Local.congr (λs=>by simp only[lA,hw,Bool.false_eq_true,if_false]) (ih (a.put o.dst undef))
  | true =>
   refine Local.congr (λs=>?_) (Local.bind (jm (P:=P) hc a o) ih);simp only[lA,hw,if_true];cases ib P call a o s with
   | none=>rfl
   | some x=>rfl
theorem xk{P:Program}{call:Caller}(hc:dU call)(ops:Array Oper):∀ (l:List Oper) (a:Act) (ls:List (List Touch)),
  Local (λs=>match kX P call ops l a s ls with | some (a1,s1,m)=>some ((a1,m),s1) | none=>none):=by
 intro l
 induction l with
 | nil=>intro a ls;exact Local.congr (λs=>rfl) (Local.pure (a,ls))
 | cons o rest ih =>
  intro a ls;cases hw:Region.wanted o (yielded ops a.tmps) with
  | false=>exact Local.congr (λs=>by simp only[kX,hw,Bool.false_eq_true,if_false]) (ih (a.put o.dst undef) ([]::ls))
  | true =>
   refine Local.congr (λs=>?_) (Local.bind (Local.M4 (jm (P:=P) hc a o)) (λp=>ih p.1 (p.2::ls)));simp only[kX,hw,if_true];cases ib P call a o { s with log:=[] } with
   | none=>rfl
   | some x=>rfl
theorem tj{P:Program}{call:Caller}(hc:dU call)(ops:Array Oper)(draw:Bool)(a:Act):Local (fj P call ops draw a):=by
 cases draw with
 | false=>exact Local.congr (λs=>by simp[fj]) (pQ (P:=P) hc ops ops.toList a)
 | true =>
  refine Local.congr (λs=>?_) (Local.bind (xk (P:=P) hc ops ops.toList a []) (λp=>Local.ite (gJ ops&&ip (Region.before ops) p.2 (ops.size-1)) (Local.pure p.1)));simp only[fj,if_true];cases kX P call ops ops.toList a s [] with
  | none=>rfl
  | some x=>rfl
def sk(run:Runner)(rd:Option Nat)(c:Code)(a:Act)(s:St):Option ((Exit×Act)×St) :=
 match run rd c a s with
 | some (e,a1,s1)=>some ((e,a1),s1)
 | none=>none
def dB(run:Runner):Prop:=∀ rd c a,Local (sk run rd c a)
theorem iw(P:Program):∀ ds:List Deferred,Local (kq P ds):=by
 intro ds
 induction ds with
 | nil=>exact Local.congr (λs=>rfl) (Local.pure ())
 | cons d ds ih =>
  obtain⟨t,args⟩:=d;cases t with
  | collected r =>
   refine Local.congr (λs=>?_) (Local.bind (cE P (Instr.takeDeferred r)) (λ_=>ih));simp only[kq];cases aw P (Instr.takeDeferred r) s with
   | none=>rfl
   | some x=>rfl
  | _=>exact Local.congr (λs=>by simp only[kq]) Local.none
theorem u_(P:Program)(fn:Func)(e:Exit)(a:Act):Local (jB P fn e a):=by
 cases h:atEnd e with
 | false=>exact Local.congr (λs=>by simp only[jB,h]) Local.none
 | true =>
  refine Local.congr (λs=>?_) (Local.bind (iw P a.defers) (λ_=>cE P (results fn a.tmps)));simp only[jB,h];cases kq P a.defers s with
  | none=>rfl
  | some x=>rfl
theorem kA{P:Program}{run:Runner}(hr:dB run)(f:FuncId)(args:Array Value):Local (g9 P run f args):=by
 unfold g9;cases hq:bg.H3 f args.toList with
 | some r=>exact Local.pure r
 | none =>
 dsimp only;cases SY:bg.wF f args.toList with
 | some q=>exact na q
 | none =>
 dsimp only;cases hf:P.funcs[f]? with
 | none=>exact Local.none
 | some fn =>
  dsimp only;cases hb:fn.body with
  | none=>exact Local.none
  | some body =>
   dsimp only;refine Local.congr (λs=>?_) (Local.bind (hr none body { tmps:=args++Array.replicate (fn.ntmps-args.size) undef,defers:=[] }) (g:=λp=>jB P fn p.1 p.2) (λp=>u_ P fn p.1 p.2));unfold sk;cases run none body { tmps:=args++Array.replicate (fn.ntmps-args.size) undef,defers:=[] } s with
   | none=>rfl
   | some x=>rfl
theorem vb{P:Program}{run:Runner}(hr:dB run)(l:Nat)(tmps:Array Value)(assign body:Code):Local (m8 P run l tmps assign body):=by
 have h3:∀ e2,Local (sT P l e2):=by
  intro e2;unfold sT;cases D3 e2 with
  | none=>exact Local.none
  | some j=>exact cE P _
 have h2:∀ a1,Local (λs=>match run (some l) body a1 s with | some (e2,_,s3)=>sT P l e2 s3 | none=>none):=by
  intro a1;refine Local.congr (λs=>?_) (Local.bind (hr (some l) body a1) (g:=λp=>sT P l p.1) (λp=>h3 p.1));unfold sk;cases run (some l) body a1 s with
  | none=>rfl
  | some x=>rfl
 have h1:∀ a1,Local (λs=>match aw P (Instr.beginRound l) s with | some (_,s2)=>(match run (some l) body a1 s2 with | some (e2,_,s3)=>sT P l e2 s3 | none=>none) | none=>none):=by
  intro a1;refine Local.congr (λs=>?_) (Local.bind (cE P (Instr.beginRound l)) (λ_=>h2 a1));cases aw P (Instr.beginRound l) s with
  | none=>rfl
  | some x=>rfl
 refine Local.congr (λs=>?_) (Local.bind (hr (some l) assign { tmps:=tmps,defers:=[] })
  (g:=λp s=>if nT p.1 then (match aw P (Instr.beginRound l) s with | some (_,s2)=>(match run (some l) body p.2 s2 with | some (e2,_,s3)=>sT P l e2 s3 | none=>none) | none=>none) else none) (λp=>?_))
 ·unfold m8 sk
  cases run (some l) assign { tmps:=tmps,defers:=[] } s with
  | none=>rfl
  | some x=>rfl
 ·cases hn:nT p.1 with
  | true=>exact Local.congr (λs=>by simp only[hn,if_true]) (h1 p.2)
  | false=>exact Local.congr (λs=>by simp[hn]) Local.none
theorem pR{P:Program}{run:Runner}(hr:dB run):dU (lB P run):=by
 intro c;cases c with
 | fn f args=>exact Local.congr (λs=>rfl) (kA hr f args)
 | D2 l tmps assign body=>exact Local.congr (λs=>rfl) (vb hr l tmps assign body)
theorem ve{P:Program}{run:Runner}(hr:dB run)(rd:Option Nat)(g:Operand)(ps:Array Tmp)(assign body:Code)(a:Act) :
  Local (λs=>match m_ P run rd g ps assign body a s with | some (e,a1,s1)=>some ((e,a1),s1) | none=>none):=by
 have h3:∀ (j:Option Code) (a1:Act),Local (λs=>match (if m9 j then qO run rd j a1 s else none) with | some (e,a1,s1)=>some ((e,a1),s1) | none=>none):=by
  intro j a1;cases hj:m9 j with
  | false=>exact Local.congr (λs=>by simp) Local.none
  | true =>
   cases j with
   | none=>exact Local.congr (λs=>by simp[qO]) (Local.pure (Exit.normal,a1))
   | some c=>exact Local.congr (λs=>by simp[qO,sk]) (hr rd c a1)
 have h2:∀ (l:Nat) (a1:Act),Local (λs=>match (match aw P (Instr.endLoop l) s with | some (j,s3)=>(if m9 j then qO run rd j a1 s3 else none) | none=>none) with | some (e,a1,s1)=>some ((e,a1),s1) | none=>none):=by
  intro l a1;refine Local.congr (λs=>?_) (Local.bind (cE P (Instr.endLoop l)) (λj=>h3 j a1));cases aw P (Instr.endLoop l) s with
  | none=>rfl
  | some x=>rfl
 refine Local.congr (λs=>?_) (Local.bind (cE P (Instr.enterLoop 0 a.tmps ps assign body rd))
  (g:=λx s=>match gj P a g x.1 with
   | some (f,args)=>(match g9 P run f args s with | some (_,s2)=>(match (match aw P (Instr.endLoop x.1) s2 with | some (j,s3)=>(if m9 j then qO run rd j { a with defers:=x.2++a.defers } s3 else none) | none=>none) with | some (e,a1,s1)=>some ((e,a1),s1) | none=>none) | none=>none)
   | none=>none) (λx=>?_))
 ·unfold m_
  cases aw P (Instr.enterLoop 0 a.tmps ps assign body rd) s with
  | none=>rfl
  | some x =>
   obtain⟨⟨l,mark⟩,s1⟩:=x;dsimp only[Option.bind];cases gj P a g l with
   | none=>rfl
   | some y =>
    obtain⟨f,args⟩:=y;dsimp only;cases g9 P run f args s1 with
    | none=>rfl
    | some z=>rfl
 ·cases hc:gj P a g x.1 with
  | none=>exact Local.congr (λs=>by simp only[hc]) Local.none
  | some y =>
   obtain⟨f,args⟩:=y;refine Local.congr (λs=>?_) (Local.bind (kA (P:=P) hr f args) (λ_=>h2 x.1 { a with defers:=x.2++a.defers }));dsimp only;cases g9 P run f args s with
   | none=>rfl
   | some z=>rfl
theorem nY(P:Program):∀ n,dB (ev P n):=by
 intro n
 induction n with
 | zero=>intro rd c a;exact Local.congr (λs=>rfl) Local.none
 | succ n ih =>
  intro rd c a;cases c with
  | skip=>exact Local.congr (λs=>rfl) (Local.pure (Exit.normal,a))
  | label l=>exact Local.congr (λs=>rfl) (Local.pure (Exit.normal,a))
  | ret=>exact Local.congr (λs=>rfl) (Local.pure (Exit.ret,a))
  | exit id=>exact Local.congr (λs=>rfl) (Local.pure (Exit.exit id,a))
  | goto l=>exact Local.congr (λs=>rfl) (Local.pure (Exit.goto l,a))
  | seq x y =>
   refine Local.congr (λs=>?_) (Local.bind (ih rd x a) (g:=λp s=>match p.1 with | .normal=>sk (ev P n) rd y p.2 s | _=>some (p,s)) (λp=>?_))
   ·unfold sk
    simp only[ev];cases ev P n rd x a s with
    | none=>rfl
    | some z =>
     obtain⟨e,a1,s1⟩:=z;cases e<;>rfl
   ·obtain⟨e,a1⟩:=p
    cases e with
    | normal=>exact ih rd y a1
    | _=>exact Local.pure _
  | cond c x y =>
   cases hok:bH c with
   | false=>exact Local.congr (λs=>by simp[sk,ev,hok]) Local.none
   | true =>
    cases hv:a.eval c with
    | bool b =>
     refine Local.congr (λs=>?_) (ih rd (if b then x else y) a);simp only[sk,ev,hok,hv]
    | _=>exact Local.congr (λs=>by simp[sk,ev,hok,hv]) Local.none
  | block id body =>
   refine Local.congr (λs=>?_) (Local.bind (ih rd body a) (g:=λp s=>match p.1 with | .exit i=>some (if i=id then (Exit.normal,p.2) else p,s) | _=>some (p,s)) (λp=>?_))
   ·unfold sk
    simp only[ev];cases ev P n rd body a s with
    | none=>rfl
    | some z =>
     obtain⟨e,a1,s1⟩:=z;cases e<;>first | rfl | skip
     rename_i i;dsimp only
     by_cases hi:i=id
     ·rw[if_pos hi,if_pos hi]
     ·rw[if_neg hi,if_neg hi]
   ·obtain⟨e,a1⟩:=p
    cases e with
    | _=>exact Local.pure _
  | loop body =>
   refine Local.congr (λs=>?_) (Local.bind (ih rd body a) (g:=λp s=>match p.1 with | .normal=>sk (ev P n) rd (.loop body) p.2 s | _=>some (p,s)) (λp=>?_))
   ·unfold sk
    simp only[ev];cases ev P n rd body a s with
    | none=>rfl
    | some z =>
     obtain⟨e,a1,s1⟩:=z;cases e<;>rfl
   ·obtain⟨e,a1⟩:=p
    cases e with
    | normal=>exact ih rd (.loop body) a1
    | _=>exact Local.pure _
  | scope body =>
   cases rd with
   | some l=>exact Local.congr (λs=>by simp[sk,ev]) Local.none
   | none =>
    refine Local.congr (λs=>?_) (Local.bind (ih none body a) (g:=λp s=>match p.1 with | .goto l=>(match findLabel body l with | some rest=>(match sk (ev P n) none rest p.2 s with | some (q,s')=>(match q.1 with | .goto _=>none | _=>some (q,s')) | none=>none) | none=>none) | _=>some (p,s)) (λp=>?_))
    ·unfold sk
     simp only[ev];cases ev P n none body a s with
     | none=>rfl
     | some z =>
      obtain⟨e,a1,s1⟩:=z;cases e<;>first | rfl | skip
      rename_i l;simp only[uQ];cases findLabel body l with
      | none=>rfl
      | some rest =>
       dsimp only;cases ev P n none rest a1 s1 with
       | none=>rfl
       | some z =>
        obtain⟨e2,a2,s2⟩:=z;cases e2<;>rfl
    ·obtain⟨e,a1⟩:=p
     cases e with
     | goto l =>
      dsimp only;cases findLabel body l with
      | none=>exact Local.none
      | some rest =>
       refine Local.congr (λs=>?_) (Local.bind (ih none rest a1) (g:=λq s'=>match q.1 with | .goto _=>none | _=>some (q,s')) (λq=>?_))
       ·dsimp only
        cases sk (ev P n) none rest a1 s with
        | none=>rfl
        | some z=>rfl
       obtain⟨e2,a2⟩:=q;cases e2 with
       | goto _=>exact Local.none
       | _=>exact Local.pure _
     | _=>exact Local.pure _
  | rangeFunc g ps assign body =>
   refine Local.congr (λs=>?_) (ve (P:=P) ih rd g ps assign body a);simp only[sk,ev]
  | region id ops draw =>
   refine Local.congr (λs=>?_) (Local.bind (tj (P:=P) (pR (P:=P) ih) ops draw a) (λa1=>Local.pure (Exit.normal,a1)));unfold sk;simp only[ev];cases fj P (lB P (ev P n)) ops draw a s with
   | none=>rfl
   | some z=>rfl
  | _=>exact Local.congr (λs=>by simp[sk,ev]) Local.none
theorem Local.next{α:Type}{f:St->Option (α×St)}(hf:Local f){s s1:St}{r:α}(h:f s=some (r,s1)):s.next<=s1.next:=(hf s r s1 h).1
theorem mL.left{s:St}{n m k:Nat}(h:mL s n k)(hm:m<=k):mL s n m:=λid x y=>h id x (by omega)
theorem Local.win{α:Type}{f:St->Option (α×St)}(hf:Local f){s s1:St}{r:α}(h:f s=some (r,s1)){m:Nat}(hw:mL s s.next m)(hm:s1.next<=m):mL s1 s1.next m:=by
 obtain⟨n,k⟩:=hf s r s1 h;obtain⟨L,e,u,b,l⟩:=k (hw.left hm);intro id x y;have free:¬ iW L id:=λ⟨t,ht,hid,_⟩=>b t ht (λhh=>by omega) (by rw[hid];exact hw id (by omega) y)
 exact dM (by rw[(u id free).1,hw id (by omega) y];rfl)
end Go.Ev
namespace Go.Ev
open Go.RowKit
variable[bg]
theorem ph{a b:Act}{xs:Array Operand}(h:∀ x ∈ xs,a.eval x=b.eval x):evs a xs=evs b xs:=Array.map_congr_left h
theorem tG{a b:Act}{ps:Array (Nat×Operand)}(h:∀ x ∈ ps.map (·.2),a.eval x=b.eval x):K1 a ps=K1 b ps :=
 Array.map_congr_left λp hm=>by
  obtain⟨i,x⟩:=p;simp only[h x (Array.mem_map.2 ⟨(i,x),hm,rfl⟩)]
theorem xm{P:Program}{a b:Act}{o:Oper}(h:∀ x ∈ o.op.operands,a.eval x=b.eval x)(s:St):fQ P a o s=fQ P b o s:=by
 unfold fQ;cases hf:kp o.op with
 | false=>simp
 | true =>
  have hs:∀ cs b,o.op≠.select cs b:=by
   intro cs b e;rw[e]at hf;cases hf
  rw[execOp_congr o hs h];have ha:o.op.operands.toList.all (λx=>bH x&&bW 5 (a.eval x))=o.op.operands.toList.all (λx=>bH x&&bW 5 (b.eval x)):=by
   rw[Bool.eq_iff_iff,List.all_eq_true,List.all_eq_true];constructor
   ·intro hh x hx;rw[← h x (by simpa using hx)];exact hh x hx
   ·intro hh x hx;rw[h x (by simpa using hx)];exact hh x hx
  rw[ha]
theorem xn{P:Program}{a b:Act}{c:Call}(ty:TypeId)(h:∀ x ∈ c.operands,a.eval x=b.eval x)(s:St):mJ P a c ty s=mJ P b c ty s:=by
 have hargs:∀ x ∈ c.args,a.eval x=b.eval x:=λx hx=>h x (by simp[Call.operands,hx])
 have he:evs a c.args=evs b c.args:=ph hargs;have hl:∀ x ∈ c.args.toList,a.eval x=b.eval x:=λx hx=>hargs x (by simpa using hx)
 unfold mJ;cases hc:c.callee with
 | value f=>have hf:a.eval f=b.eval f:=h f (by simp[Call.operands,hc]);simp only[hf,he]
 | invoke r m=>have hr:a.eval r=b.eval r:=h r (by simp[Call.operands,hc]);simp only[hr,he]
 | builtin bi =>
  dsimp only;generalize c.args.toList=l at hl;generalize c.argTypes.toList=ts;have e2:∀ x y,l=[x,y]->a.eval x=b.eval x/\a.eval y=b.eval y:=by
   intro x y e;rw[e]at hl;exact⟨hl x (by simp),hl y (by simp)⟩
  have e1:∀ x,l=[x]->a.eval x=b.eval x:=by
   intro x e;rw[e]at hl;exact hl x (by simp)
  match l,ts with
  | [],ts=>cases bi<;>rfl
  | [x],ts =>
   have e:=e1 x rfl;rcases ts with _ | ⟨t,_ | ⟨u,r⟩⟩<;>cases bi<;>first | rfl | simp only[e]
  | [x,y],ts =>
   have e:=(e2 x y rfl).1;have e':=(e2 x y rfl).2;rcases ts with _ | ⟨t,_ | ⟨u,_ | ⟨v,r⟩⟩⟩<;>cases bi<;>first | rfl | simp only[e,e']
  | x::y::z::r,ts=>cases bi<;>rfl
theorem lH{a b:Act}{x:Option Operand}(h:∀ y ∈ x.toList,a.eval y=b.eval y):x.map a.eval=x.map b.eval:=by
 cases x with
 | none=>rfl
 | some y=>simp only[Option.map_some,h y (by simp)]
theorem xo{P:Program}{a b:Act}(o:Oper)(h:∀ x ∈ o.op.operands,a.eval x=b.eval x)(s:St):bf P a o s=bf P b o s:=by
 have hfl:fQ P a o s=fQ P b o s:=xm h s;obtain⟨dst,op,ty,pos,after,guard⟩:=o;cases op<;>simp only[Op.operands]at h<;>simp only[bf]
 case build t ps=>rw[tG (λx hx=>h x (by simpa using hx))]
 case buildSlice t n ps=>rw[tG (λx hx=>h x (by simpa using hx))]
 case makeFunc fn first captured =>
  cases fn with
  | func f =>
   simp only;rw[ph (xs:=first) λx hx=>h x (by simp[hx]),ph (xs:=captured) λx hx=>h x (by simp[hx])]
  | _=>rfl
 case call c=>rw[hfl,xn ty h s]
 case makeMap t r =>
  cases r with
  | none=>rfl
  | some x=>simp only[h x (by simp)]
 case slice t x lo hi mx =>
  have hx:a.eval x=b.eval x:=h x (by simp);have hlo:=lH (a:=a) (b:=b) (x:=lo) (λy hy=>h y (by simp;simp at hy;simp[hy]));have hhi:=lH (a:=a) (b:=b) (x:=hi) (λy hy=>h y (by simp;simp at hy;simp[hy]));have hmx:=lH (a:=a) (b:=b) (x:=mx) (λy hy=>h y (by simp;simp at hy;simp[hy]));rw[hx,hlo,hhi,hmx]
 case binOp op t x y yt=>rw[hfl,h x (by simp),h y (by simp)]
 case unOp op t x=>rw[hfl,h x (by simp)]
 case convert t u x=>rw[hfl,h x (by simp)]
 case move x=>rw[h x (by simp)]
 case assign x=>rw[h x (by simp)]
 case box t x=>rw[h x (by simp)]
 case load t x=>rw[h x (by simp)]
 case nilCheck x=>rw[h x (by simp)]
 case makeInterface t x=>rw[h x (by simp)]
 case fieldAddr t x f=>rw[h x (by simp)]
 case field t x f=>rw[h x (by simp)]
 case range t x=>rw[h x (by simp)]
 case next x str=>rw[h x (by simp)]
 case entry x=>rw[h x (by simp)]
 case typeAssert x t u ok=>rw[h x (by simp)]
 case extract x i=>rw[h x (by simp)]
 case store t x y=>rw[h x (by simp),h y (by simp)]
 case indexAddr t x i=>rw[h x (by simp),h i (by simp)]
 case index t x i=>rw[h x (by simp),h i (by simp)]
 case makeSlice t l c=>rw[h l (by simp),h c (by simp)]
 case lookup t m k ok=>rw[h m (by simp),h k (by simp)]
 case pick c x y=>rw[h c (by simp),h x (by simp),h y (by simp)]
 case mapUpdate t m k v=>rw[h m (by simp),h k (by simp),h v (by simp)]
 case insert t m k v=>rw[h m (by simp),h k (by simp),h v (by simp)]
 case mapEntry t m k=>rw[h m (by simp),h k (by simp)]
 case entryStore t m st v=>rw[h m (by simp),h st (by simp),h v (by simp)]
theorem zz{P:Program}{call:Caller}{a b:Act}(o:Oper)(h:∀ x ∈ o.op.operands,a.eval x=b.eval x)(s:St):tg P call a o s=tg P call b o s:=by
 have e:kW a o.op=kW b o.op:=by
  unfold kW;exact List.map_congr_left (λx hx=>h x (by simpa using hx))
 unfold tg qN;rw[xo o h s,e]
end Go.Ev
namespace Go.Ev
open Go.RowKit
variable[bg]
section Last
variable{X Y:Type}
def Holds(D:Nat->Prop)(W:Nat->X->Prop)(V:Nat->X->Y)(z:X->Y)(x:X):Prop :=
 (∀ m,D m->W m x->(∀ m',D m'->W m' x->m'<=m)->z x=V (m+1) x)/\((∀ m,D m->¬ W m x)->z x=V 0 x)
theorem nZ{W:Nat->X->Prop}{V:Nat->X->Y}{N:Nat}{x:X}(hV:∀ i,i<N->¬ W i x->V (i+1) x=V i x)(i:Nat) :
  ∀ d,i+d<=N->(∀ m,i<=m->m<i+d->¬ W m x)->V (i+d) x=V i x:=by
 intro d
 induction d with
 | zero=>intro _ _;rfl
 | succ d ih =>
  intro h hn;rw[← ih (by omega) (λm a b=>hn m a (by omega))];exact hV (i+d) (by omega) (hn (i+d) (by omega) (by omega))
theorem zA(p:Nat->Prop):∀ i,(∃ m,m<i/\p m)->∃ m,m<i/\p m/\∀ m',m'<i->p m'->m'<=m:=by
 intro i
 induction i with
 | zero=>rintro⟨m,h,_⟩;omega
 | succ i ih =>
  rintro⟨m,h,hm⟩
  by_cases hp:p i
  ·exact⟨i,by omega,hp,λm' a _=>by omega⟩
  ·have O7:m<i:=by
    rcases Nat.lt_or_ge m i with g | g
    ·exact g
    ·have e:m=i:=by omega
     rw[e]at hm;exact absurd hm hp
   obtain⟨k,a,b,c⟩:=ih ⟨m,O7,hm⟩;refine⟨k,by omega,b,λm' x y=>?_⟩;rcases Nat.lt_or_ge m' i with g | g
   ·exact c m' g y
   ·have:m'=i:=by omega
    rw[this]at y;exact absurd y hp
theorem Holds.read{D:Nat->Prop}{W:Nat->X->Prop}{V:Nat->X->Y}{z:X->Y}{x:X}{N i:Nat}(hz:Holds D W V z x)(hN:i<=N)(hD:∀ m,D m->m<N)(hi:¬ D i)
  (hV:∀ i,i<N->¬ W i x->V (i+1) x=V i x) (hc:∀ m,m<N->m≠i->W m x->(m<i->D m)/\(i<m->¬ D m)):z x=V i x:=by
 have hlt:∀ m,D m->W m x->m<i:=by
  intro m hm hw;rcases Nat.lt_trichotomy m i with g | g | g
  ·exact g
  ·subst g;exact absurd hm hi
  ·exact absurd hm ((hc m (hD m hm) (by omega) hw).2 g)
 by_cases hex:∃ m,m<i/\W m x
 ·obtain⟨m,h1,h2,h3⟩:=zA (λm=>W m x) i hex
  have hm:D m:=(hc m (by omega) (by omega) h2).1 h1;rw[hz.1 m hm h2 (λm' a b=>h3 m' (hlt m' a b) b)];have:=nZ (N:=N) hV (m+1) (i-(m+1)) (by omega) (λk a b hk=>by have:=h3 k (by omega) hk;omega);rw[show m+1+(i-(m+1))=i by omega]at this;exact this.symm
 ·rw[hz.2 (λm hm hw=>hex ⟨m,hlt m hm hw,hw⟩)]
  have:=nZ (N:=N) hV 0 i (by omega) (λk a b hk=>hex ⟨k,by omega,hk⟩);rw[Nat.zero_add]at this;exact this.symm
theorem Holds.step{D D':Nat->Prop}{W:Nat->X->Prop}{V:Nat->X->Y}{z z':X->Y}{x:X}{i:Nat}(hz:Holds D W V z x)(hD:∀ m,D' m↔m=i\/D m)
  (h1:W i x->z' x=V (i+1) x) (h2:¬ W i x->z' x=z x) (hc:W i x->∀ m,W m x->i<m->¬ D m):Holds D' W V z' x:=by
 by_cases hw:W i x
 ·refine⟨λm hm Id hmax=>?_,λhno=>absurd hw (hno i ((hD i).2 (.inl rfl)))⟩
  have hge:=hmax i ((hD i).2 (.inl rfl)) hw;have O7:m=i:=by
   rcases(hD m).1 hm with e | e
   ·exact e
   ·rcases Nat.lt_or_ge i m with g | g
    ·exact absurd e (hc hw m Id g)
    ·omega
  rw[O7];exact h1 hw
 ·rw[Holds,h2 hw]
  refine⟨λm hm Id hmax=>?_,λhno=>hz.2 (λm hm=>hno m ((hD m).2 (.inr hm)))⟩;have hm':D m:=by
   rcases(hD m).1 hm with e | e
   ·rw[e]at Id;exact absurd Id hw
   ·exact e
  exact hz.1 m hm' Id (λm' a b=>hmax m' ((hD m').2 (.inr a)) b)
theorem Holds.start{W:Nat->X->Prop}{V:Nat->X->Y}{D:Nat->Prop}(hD:∀ m,¬ D m)(z:X->Y)(x:X)(h:z x=V 0 x):Holds D W V z x :=
 ⟨λm hm=>absurd hm (hD m),λ_=>h⟩
end Last
theorem xp(look:Nat->Nat)(i:Nat):∀ (l:List Edge) (s:Nat),(l.foldl (λs e=>if Region.binds .any e then s ||| 2 ^ e.on ||| look e.on else s) s).testBit i=true->
  s.testBit i=true\/∃ e ∈ l,Region.binds .any e=true/\(e.on=i\/(look e.on).testBit i=true):=by
 intro l
 induction l with
 | nil=>intro s h;exact .inl h
 | cons e rest ih =>
  intro s h;rw[List.foldl_cons]at h;rcases ih _ h with g | ⟨e',he',hb',hh⟩
  ·split at g
   ·rename_i hb
    rw[Nat.testBit_or,Nat.testBit_or,Bool.or_eq_true,Bool.or_eq_true,Nat.testBit_two_pow,decide_eq_true_eq]at g;rcases g with (g | g) | g
    ·exact .inl g
    ·exact .inr ⟨e,List.mem_cons_self ..,hb,.inl g⟩
    ·exact .inr ⟨e,List.mem_cons_self ..,hb,.inr g⟩
   ·exact .inl g
  ·exact .inr ⟨e',List.mem_cons_of_mem _ he',hb',hh⟩
def D8(ops:Array Oper)(acc:Array Nat):Prop:=∀ j i,(acc.getD j 0).testBit i=true->
 ∃ o e,ops[j]? = some o/\e ∈ o.after/\Region.binds .any e=true/\(e.on=i\/(e.on<j/\(acc.getD e.on 0).testBit i=true))
theorem xq(ops:Array Oper):D8 ops (Region.before ops):=by
 unfold Region.before;have main:=@Array.foldl_induction _ _ ops (λk acc=>acc.size=k/\D8 ops acc) #[] ⟨rfl,λj i h=>by simp at h⟩
  (λacc o=>acc.push (o.after.foldl (λs e=>if Region.binds .any e then s ||| 2 ^ e.on ||| acc.getD e.on 0 else s) 0)) (by
   rintro⟨k,hk⟩ acc ⟨hs,hb⟩;refine⟨by simp[hs],λj i h=>?_⟩;have hs':acc.size=k:=hs;have gl:∀ v m,m<k->(acc.push v).getD m 0=acc.getD m 0:=by
    intro v m hm;have hm':m<acc.size:=by omega
    have hm2:m<(acc.push v).size:=by simp;omega
    rw[Array.getD,Array.getD,dif_pos hm',dif_pos hm2];exact Array.getElem_push_lt hm'
   rcases Nat.lt_trichotomy j k with g | g | g
   ·rw[gl _ j g]at h
    obtain⟨o,e,h1,h2,h3,h4⟩:=hb j i h;refine⟨o,e,h1,h2,h3,?_⟩;rcases h4 with h4 | ⟨h4,h5⟩
    ·exact .inl h4
    ·refine .inr ⟨h4,?_⟩
     rw[gl _ _ (by omega)];exact h5
   ·subst g
    have hlast:∀ v,(acc.push v).getD j 0=v:=by
     intro v;have hm2:j<(acc.push v).size:=by simp;omega
     rw[Array.getD,dif_pos hm2];show(acc.push v)[j]=v;rw[Array.getElem_push];rw[dif_neg (by omega)]
    rw[hlast]at h;rw[← Array.foldl_toList]at h;rcases xp (λm=>acc.getD m 0) i _ _ h with h | ⟨e,h2,h3,h4⟩
    ·simp at h
    ·refine⟨ops[j],e,Array.getElem?_eq_getElem hk,by simpa using h2,h3,?_⟩
     rcases h4 with h4 | h4
     ·exact .inl h4
     ·have hlt:e.on<j:=by
       rcases Nat.lt_or_ge e.on j with g | g
       ·exact g
       ·have h0:acc.getD e.on 0=0:=by rw[Array.getD,dif_neg (by omega)]
        rw[h0]at h4;simp at h4
      refine .inr ⟨hlt,?_⟩;rw[gl _ _ hlt];exact h4
   ·have h0:∀ v,(acc.push v).getD j 0=0:=by
     intro v;rw[Array.getD,dif_neg (by simp;omega)]
    rw[h0]at h
    simp at h)
 exact main.2
def Down(ops:Array Oper)(D:Nat->Prop):Prop:=∀ j o,ops[j]? = some o->D j->∀ e ∈ o.after,Region.binds .any e=true->D e.on
theorem mN{ops:Array Oper}{D:Nat->Prop}(hd:Down ops D):∀ (n j i:Nat),j<n->((Region.before ops).getD j 0).testBit i=true->
  (∀ o,ops[j]? = some o->∀ e ∈ o.after,Region.binds .any e=true->D e.on)->D i:=by
 intro n
 induction n with
 | zero=>intro j i h;omega
 | succ n ih =>
  intro j i hj h hall;obtain⟨o,e,h1,h2,h3,h4⟩:=xq ops j i h;have hon:=hall o h1 e h2 h3;rcases h4 with h4 | ⟨h4,h5⟩
  ·rw[← h4];exact hon
  ·exact ih e.on i (by omega) h5 (λo' ho' e' he' hb'=>hd _ _ ho' hon e' he' hb')
theorem zB(b:Array Nat):∀ (ls:List (List Touch)) (j:Nat),ip b ls j=true->∀ (p q:Nat) (l m:List Touch),p<q->ls[p]? = some l->ls[q]? = some m->clashes l m=true->(b.getD (j-p) 0).testBit (j-q)=true:=by
 intro ls
 induction ls with
 | nil=>intro j h p q l m hpq hl;cases hl
 | cons x rest ih =>
  intro j h p q l m hpq hl hm hc;simp only[ip,Bool.and_eq_true]at h;obtain⟨h1,h2⟩:=h
  match p,q with
  | p+1,q+1 =>
   have:=ih (j-1) h2 p q l m (by omega) (by simpa using hl) (by simpa using hm) hc;rw[show j-1-p=j-(p+1) by omega,show j-1-q=j-(q+1) by omega]at this;exact this
  | 0,q+1 =>
   simp only[List.getElem?_cons_zero,Option.some.injEq]at hl;subst hl;simp only[List.getElem?_cons_succ]at hm;rw[Bool.or_eq_true]at h1;rcases h1 with h1 | h1
   ·rw[List.isEmpty_iff]at h1
    subst h1;simp[clashes]at hc
   ·rw[List.all_eq_true]at h1
    have h3:=h1 (m,q) (by rw[List.mem_zipIdx_iff_getElem?];exact hm);simp only[Bool.or_eq_true,Bool.not_eq_true']at h3;rcases h3 with (h3 | h3) | h3
    ·rw[List.isEmpty_iff]at h3
     subst h3;simp[clashes]at hc
    ·rw[show j-1-q=j-(q+1) by omega]at h3
     exact h3
    ·rw[h3]at hc;cases hc
theorem vf{b:Array Nat}{N:Nat}{Lf:Nat->List Touch}(h:ip b ((List.range N).map Lf).reverse (N-1)=true){i m:Nat}(him:i<m)(hm:m<N)(hc:clashes (Lf m) (Lf i)=true) :
  (b.getD m 0).testBit i=true:=by
 have get:∀ k,k<N->((List.range N).map Lf).reverse[N-1-k]? = some (Lf k):=by
  intro k hk;rw[List.getElem?_reverse (by simp;omega)];simp only[List.length_map,List.length_range,List.getElem?_map];rw[show N-1-(N-1-k)=k by omega,List.getElem?_range hk];rfl
 have:=zB b _ _ h (N-1-m) (N-1-i) (Lf m) (Lf i) (by omega) (get m hm) (get i (by omega)) hc;rw[show N-1-(N-1-m)=m by omega,show N-1-(N-1-i)=i by omega]at this;exact this
def Stp(P:Program)(call:Caller)(ops:Array Oper)(o:Oper)(a:Act)(s:St)(a1:Act)(s1:St)(L:List Touch):Prop :=
 ∃ v,a1=a.put o.dst v/\((Region.wanted o (yielded ops a.tmps)=true/\∃ s2,tg P call a o { s with log:=[] }=some (v,s2)/\L=s2.log/\s1 = { s2 with log:=s2.log++s.log })\/
  (Region.wanted o (yielded ops a.tmps)=false/\v=undef/\s1=s/\L=[]))
theorem xr{P:Program}{call:Caller}{ops:Array Oper} : ∀ (l:List Oper) (a:Act) (s:St) (ls:List (List Touch)) (a1:Act) (s1:St) (ms:List (List Touch)),kX P call ops l a s ls=some (a1,s1,ms)->
  ∃ (ac:Nat->Act) (S:Nat->St) (Lf:Nat->List Touch),ac 0=a/\S 0=s/\ac l.length=a1/\S l.length=s1/\ms=((List.range l.length).map Lf).reverse++ls/\
   ∀ i o,l[i]? = some o->Stp P call ops o (ac i) (S i) (ac (i+1)) (S (i+1)) (Lf i):=by
 intro l
 induction l with
 | nil =>
  intro a s ls a1 s1 ms h;cases h;exact⟨λ_=>a,λ_=>s,λ_=>[],rfl,rfl,rfl,rfl,rfl,λi o h=>by cases h⟩
 | cons o rest ih =>
  intro a s ls a1 s1 ms h;have key:∃ a2 s2 L,Stp P call ops o a s a2 s2 L/\kX P call ops rest a2 s2 (L::ls)=some (a1,s1,ms):=by
   simp only[kX]at h
   split at h
   ·rename_i hw
    split at h
    ·rename_i a2 s2 hs
     rw[qV]at hs
     split at hs
     ·rename_i v s3 hr
      cases hs;exact⟨_,_,_,⟨v,rfl,.inl ⟨hw,s2,hr,rfl,rfl⟩⟩,h⟩
     ·cases hs
    ·cases h
   ·rename_i hw
    exact⟨_,_,_,⟨undef,rfl,.inr ⟨by simpa using hw,rfl,rfl,rfl⟩⟩,h⟩
  obtain⟨a2,s2,L,hst,hrest⟩:=key;obtain⟨ac,S,Lf,e1,e2,e3,e4,e5,e6⟩:=ih _ _ _ _ _ _ hrest;refine⟨(λn=>match n with | 0=>a | n+1=>ac n),(λn=>match n with | 0=>s | n+1=>S n),(λn=>match n with | 0=>L | n+1=>Lf n),rfl,rfl,e3,e4,?_,?_⟩
  ·rw[e5,List.length_cons,List.range_succ_eq_map,List.map_cons,List.map_map,List.reverse_cons,List.append_assoc]
   rfl
  ·intro i o' hi
   match i with
   | 0 =>
    simp only[List.getElem?_cons_zero,Option.some.injEq]at hi;subst hi;dsimp only;rw[e1,e2];exact hst
   | i+1 =>
    simp only[List.getElem?_cons_succ]at hi;exact e6 i o' hi
theorem Stp.known{P:Program}{call:Caller}{ops:Array Oper}{o:Oper}{a a1:Act}{s s1:St}{L:List Touch}(hcl:dU call)(h:Stp P call ops o a s a1 s1 L) :
  s.next<=s1.next/\(mL s s.next s1.next->MZ L s s1/\(∀ t ∈ L,Old s.next s1.next t.id->s.look t.id≠none)/\∃ v,a1=a.put o.dst v/\
   ∀ (b:Act) (z:St),Region.wanted o (yielded ops b.tmps)=Region.wanted o (yielded ops a.tmps)->(∀ x ∈ o.op.operands,b.eval x=a.eval x)->z.next=s.next->
    (∀ t ∈ L,Old s.next s1.next t.id->D4 t (s.look t.id) (z.look t.id))->mL z s.next s1.next->
    (Region.wanted o (yielded ops b.tmps)=true/\∃ z1,ib P call b o z=some (b.put o.dst v,z1)/\z1.next=s1.next/\J6 L s1 z z1)\/
    (Region.wanted o (yielded ops b.tmps)=false/\v=undef/\s1=s/\L=[])):=by
 obtain⟨v,ha,h | ⟨hw,hv,rfl,rfl⟩⟩:=h
 ·obtain⟨hw,s2,hr,rfl,rfl⟩:=h
  obtain⟨n,k⟩:=qW (P:=P) hcl a o _ _ _ hr;refine⟨n,λhwin=>?_⟩;obtain⟨L,e,u,bd,l⟩:=k hwin;have eL:s2.log=L:=by rw[e];simp
  rw[eL];refine⟨u,bd,v,ha,λb z hwb hev hz hag hzc=>.inl ⟨by rw[hwb];exact hw,?_⟩⟩;obtain⟨z1,f1,m1,g1,r1⟩:=l z hz hag hzc;refine⟨z1,?_,m1,r1⟩;rw[qV,zz o hev z,f1]
 ·exact⟨Nat.le_refl _,λ_=>⟨λid _=>⟨rfl,λk _=>rfl⟩,(λt ht=>by cases ht),v,ha,λb z hwb _ _ _ _=>.inr ⟨by rw[hwb];exact hw,hv,rfl,rfl⟩⟩⟩
end Go.Ev
namespace Go.Ev
open Go.RowKit
variable[bg]
theorem D9{types:Array TypeInfo}{ops:Array Oper}{draw:Bool}(h:Region.ok types ops draw=true) :
  (∀ (i:Nat) (o:Oper),ops[i]? = some o->∀ e ∈ o.after,Region.binds .any e=true->e.on<i)/\
  (∀ (i:Nat) (o:Oper) (j:Nat) (b:Bool),ops[i]? = some o->o.guard=some (j,b)->(∃ e ∈ o.after,e.on=j/\Region.binds .any e=true)/\∃ d,(ops[j]?).bind (·.dst)=some d)/\
  Region.temporariesOk ops (Region.before ops)=true:=by
 unfold Region.ok at h;simp only[Bool.and_eq_true]at h;obtain⟨⟨⟨⟨h1,h2⟩,_⟩,_⟩,_⟩:=h;rw[Array.all_eq_true_iff_forall_mem]at h1;have at_:∀ i o,ops[i]? = some o->(o,i) ∈ ops.zipIdx:=λi o hi=>by
  rw[Array.mem_zipIdx_iff_getElem?];exact hi
 refine⟨λi o hi e he hb=>?_,λi o j b hi hg=>?_,h2⟩
 ·have h3:=h1 (o,i) (at_ i o hi)
  simp only[Bool.and_eq_true,Array.all_eq_true_iff_forall_mem]at h3;have h4:=h3.1 e he;rw[Bool.or_eq_true]at h4;rcases h4 with h4 | h4
  ·simpa using h4
  ·unfold Region.binds at hb
   split at h4
   ·rename_i d hgr
    rw[hgr]at hb;simp at hb
   ·cases h4
 ·have h3:=h1 (o,i) (at_ i o hi)
  simp only[Bool.and_eq_true,hg]at h3;obtain⟨_,h4,h5⟩:=h3;rw[Array.any_eq_true']at h4;obtain⟨e,he,hh⟩:=h4;simp only[Bool.and_eq_true,beq_iff_eq]at hh;exact⟨⟨e,he,hh⟩,by rw[Option.isSome_iff_exists]at h5;exact h5⟩
abbrev Mx:=Array (List (Tmp×Nat))
def kB(N:Nat)(w:Mx)(x:Oper×Nat):Mx :=
 match x.1.dst with
 | some d=>w.modify (d%N) ((d,x.2) :: ·)
 | none=>w
theorem D_(N:Nat)(w:Mx)(x:Oper×Nat):(kB N w x).size=w.size:=by
 unfold kB
 split<;>simp
theorem Ea(N:Nat)(w:Mx)(x:Oper×Nat)(k:Nat)(p:Tmp×Nat)(h:p ∈ w.getD k []):p ∈ (kB N w x).getD k []:=by
 unfold kB
 split
 ·rename_i d hd
  have hk:k<w.size:=by
   rcases Nat.lt_or_ge k w.size with g | g
   ·exact g
   ·rw[Array.getD,dif_neg (by omega)]at h;cases h
  rw[Array.getD,dif_pos (by simpa using hk)];rw[Array.getD,dif_pos hk]at h;show p ∈ (w.modify (d%N) _)[k]'_;rw[Array.getElem_modify]
  split
  ·exact List.mem_cons_of_mem _ h
  ·exact h
 ·exact h
theorem Ct(N:Nat):∀ (l:List (Oper×Nat)) (w:Mx) (k:Nat) (p:Tmp×Nat),p ∈ w.getD k []->p ∈ (l.foldl (kB N) w).getD k []:=by
 intro l
 induction l with
 | nil=>intro w k p h;exact h
 | cons x rest ih=>intro w k p h;exact ih _ k p (Ea N w x k p h)
theorem Ie(N:Nat)(hN:0<N):∀ (l:List (Oper×Nat)) (w:Mx),w.size=N->∀ x ∈ l,∀ d,x.1.dst=some d->(d,x.2) ∈ (l.foldl (kB N) w).getD (d%N) []:=by
 intro l
 induction l with
 | nil=>intro w hw x hx;cases hx
 | cons y rest ih =>
  intro w hw x hx d hd;rw[List.foldl_cons];rcases List.mem_cons.1 hx with e | e
  ·subst e
   refine Ct N rest _ _ _ ?_;unfold kB;rw[hd];dsimp only;have hk:d%N<w.size:=by rw[hw];exact Nat.mod_lt _ hN
   rw[Array.getD,dif_pos (by simpa using hk)];show _ ∈ (w.modify (d%N) _)[d%N]'_;rw[Array.getElem_modify,if_pos rfl];exact List.mem_cons_self ..
  ·exact ih _ (by rw[D_];exact hw) x e d hd
def nameOf(o:Oper)(t:Tmp):Prop:=o.dst=some t\/.tmp t ∈ o.op.operands
theorem n6{ops:Array Oper}(h:Region.temporariesOk ops (Region.before ops)=true){i m:Nat}{o p:Oper}{t:Tmp}(hi:ops[i]? = some o)(hm:ops[m]? = some p)(hn:nameOf o t)(hd:p.dst=some t)(hne:m≠i) :
  ((Region.before ops).getD (max m i) 0).testBit (min m i)=true:=by
 have hlt:i<ops.size:=(Array.getElem?_eq_some_iff.1 hi).1;unfold Region.temporariesOk at h;simp only[List.all_eq_true]at h
 have h1:=h (o,i) (by rw[List.mem_zipIdx_iff_getElem?];simpa using hi) t (by
  rw[List.mem_append];rcases hn with e | e
  ·exact .inl (by simp[e])
  ·refine .inr ?_
   rw[List.mem_filterMap]
   exact⟨.tmp t,by simpa using e,rfl⟩)
 have hw:=Ie ops.size (by omega) ops.toList.zipIdx (Array.replicate ops.size []) (by simp) (p,m) (by rw[List.mem_zipIdx_iff_getElem?];simpa using hm) t hd;have h2:=h1 (t,m) hw;simp only[bne_self_eq_false,Bool.false_or,Bool.or_eq_true,beq_iff_eq]at h2;rcases h2 with h2 | h2
 ·exact absurd h2 hne
 ·exact h2
theorem zC{ops:Array Oper}(h:gJ ops=true){i m:Nat}{o p:Oper}{g:Nat}{b:Bool}{t:Tmp}(hi:ops[i]? = some o)(hg:o.guard=some (g,b))(ht:(ops[g]?).bind (·.dst)=some t)(hm:ops[m]? = some p)(hd:p.dst=some t):m=g:=by
 unfold gJ at h;rw[List.all_eq_true]at h;have h1:=h o (by rw[Array.mem_toList_iff];exact Array.mem_of_getElem? hi);rw[hg]at h1;dsimp only at h1;rw[List.all_eq_true]at h1;have h2:=h1 (p,m) (by rw[List.mem_zipIdx_iff_getElem?];simpa using hm);simp only[Bool.or_eq_true,beq_iff_eq,ht,hd,bne_self_eq_false,Bool.false_eq_true,or_false]at h2;exact h2
abbrev Loc:=Nat×Option Nat
def val(H:Nat->Option Obj):Loc->J5 ⊕ Option Value
 | (id,none)=>.inl (kx (H id))
 | (id,some k)=>.inr (sj (H id) k)
def Wr(L:List Touch):Loc->Prop
 | (id,none)=>iW L id
 | (id,some k)=>iW L id\/mE L id k
def M5(t:Touch)(x:Loc):Prop:=x=(t.id,none)\/∃ k,x=(t.id,some k)/\(t.at_=none\/t.at_=some k)
theorem MZ.val{L:List Touch}{s s1:St}(h:MZ L s s1)(x:Loc)(hx:¬ Wr L x):val s1.look x=val s.look x:=by
 obtain⟨id,k⟩:=x;cases k with
 | none=>exact congrArg Sum.inl (h id hx).1
 | some k =>
  have hx':=not_or.1 hx;exact congrArg Sum.inr ((h id hx'.1).2 k hx'.2)
theorem J6.val{L:List Touch}{s1 s2 s3:St}(h:J6 L s1 s2 s3)(x:Loc):(Wr L x->val s3.look x=val s1.look x)/\(¬ Wr L x->val s3.look x=val s2.look x):=by
 obtain⟨id,k⟩:=x;obtain⟨ha,hb⟩:=h id;cases k with
 | none=>exact⟨λhw=>by unfold Ev.val;dsimp only;rw[ha hw],λhw=>congrArg Sum.inl (hb hw).1⟩
 | some k =>
  refine⟨λhw=>?_,λhw=>?_⟩
  ·by_cases ha':iW L id
   ·unfold Ev.val;dsimp only;rw[ha ha']
   ·exact congrArg Sum.inr (((hb ha').2 k).1 (hw.resolve_left ha'))
  ·have hx':=not_or.1 hw
   exact congrArg Sum.inr (((hb hx'.1).2 k).2 hx'.2)
theorem xu{H H':Nat->Option Obj}(h:∀ x,val H x=val H' x):H=H':=by
 funext id
 exact nV (Sum.inl.inj (h (id,none))) (λk=>Sum.inr.inj (h (id,some k)))
theorem zD{H H':Nat->Option Obj}(t:Touch)(h:∀ x,M5 t x->val H x=val H' x):D4 t (H t.id) (H' t.id):=by
 unfold D4
 split
 ·rename_i hn
  exact nV (Sum.inl.inj (h (t.id,none) (.inl rfl))) (λk=>Sum.inr.inj (h (t.id,some k) (.inr ⟨k,rfl,.inl hn⟩)))
 ·rename_i k hk
  exact⟨Sum.inl.inj (h (t.id,none) (.inl rfl)),Sum.inr.inj (h (t.id,some k) (.inr ⟨k,rfl,.inr hk⟩))⟩
theorem Wr.Ot{L:List Touch}{x:Loc}(h:Wr L x):∃ t ∈ L,M5 t x:=by
 obtain⟨id,k⟩:=x;cases k with
 | none =>
  obtain⟨t,ht,e,_,_⟩:=h;exact⟨t,ht,.inl (by rw[e])⟩
 | some k =>
  rcases h with ⟨t,ht,e,_,hn⟩ | ⟨t,ht,e,_,hn⟩
  ·exact⟨t,ht,.inr ⟨k,by rw[e],.inl hn⟩⟩
  ·exact⟨t,ht,.inr ⟨k,by rw[e],.inr hn⟩⟩
theorem zE(t u:Touch):clash t u=clash u t:=by
 unfold clash;rw[Bool.beq_comm,Bool.or_comm]
 congr 1
 cases t.at_ with
 | none=>cases u.at_<;>rfl
 | some i =>
  cases u.at_ with
  | none=>rfl
  | some j=>exact Bool.beq_comm
theorem zF{L M:List Touch}{t:Touch}{x:Loc}(ht:t ∈ L)(hx:M5 t x)(hw:Wr M x):clashes L M=true/\clashes M L=true:=by
 have key:∃ u ∈ M,clash t u=true:=by
  rcases hx with e | ⟨k,e,hk⟩
  ·subst e
   obtain⟨u,hu,e1,e2,e3⟩:=hw;refine⟨u,hu,?_⟩;unfold clash;rw[e1,e2,e3];cases t.at_<;>simp
  ·subst e
   rcases hw with ⟨u,hu,e1,e2,e3⟩ | ⟨u,hu,e1,e2,e3⟩
   ·refine⟨u,hu,?_⟩
    unfold clash;rw[e1,e2,e3];cases t.at_<;>simp
   ·refine⟨u,hu,?_⟩
    unfold clash;rw[e1,e2,e3];rcases hk with hk | hk<;>rw[hk]<;>simp
 obtain⟨u,hu,hc⟩:=key;constructor
 ·exact List.any_eq_true.2 ⟨t,ht,List.any_eq_true.2 ⟨u,hu,hc⟩⟩
 ·exact List.any_eq_true.2 ⟨u,hu,List.any_eq_true.2 ⟨t,ht,by rw[zE];exact hc⟩⟩
end Go.Ev
