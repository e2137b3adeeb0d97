/- Part of a proof: see the last text. -/
import Derived.Test.YtkmccgombmogmaaGreatZe3
import Derived.LoopN
import Derived.Scope
set_option linter.unusedSectionVars false
set_option linter.unusedSimpArgs false
set_option linter.unusedVariables false
namespace Go.Ev
open Go.RowKit
variable[bg]
theorem uP{ι:am}{a A:Act}(h:cn ι a A){xs:Array Operand}(hx:∀ x ∈ xs.toList,bH x=true):bN ι (evs a xs) (xs.map A.eval):=by
 refine⟨by simp[evs],λi v v' h1 h2=>?_⟩;unfold evs at h1;rw[Array.getElem?_map,Option.map_eq_some_iff]at h1 h2;obtain⟨x,x1,rfl⟩:=h1;obtain⟨y,y1,rfl⟩:=h2;rw[x1]at y1;cases y1;exact aD h x (hx x (by rw[Array.mem_toList_iff];exact Array.mem_of_getElem? x1))
theorem A5{ι:am}{a A:Act}(h:cn ι a A){ps:Array (Nat×Operand)}(hx:bM (ps.toList.map (·.2))=true):wO ι (K1 a ps).toList (ps.map λ(i,x)=>(i,A.eval x)).toList:=by
 refine⟨by simp[K1],λi v v' h1 h2=>?_⟩;unfold K1 at h1;rw[Array.getElem?_toList,Array.getElem?_map,Option.map_eq_some_iff]at h1 h2;obtain⟨x,x1,rfl⟩:=h1;obtain⟨y,y1,rfl⟩:=h2;rw[x1]at y1;cases y1;refine⟨rfl,aD h x.2 ?_⟩;unfold bM at hx;rw[List.all_eq_true]at hx;exact hx x.2 (List.mem_map.2 ⟨x,by rw[Array.mem_toList_iff];exact Array.mem_of_getElem? x1,rfl⟩)
theorem zu{ι:am}{a A:Act}(h:cn ι a A){x:Option Operand}(hx:bM x.toList=true):jG ι (x.map a.eval) (x.map A.eval):=by
 cases x with
 | none=>trivial
 | some x=>exact aD h x (by simpa[bM] using hx)
theorem jk{P:Program}{base:Nat->Prop}{ι:am}{a A:Act}{o:Oper}{s s1:St}{w:World}{n:Next}(hA:cn ι a A)(hr:dA P base ι s.look w)(h:fQ P a o s=some (n,s1)):f_ P base ι s s1 w n (execOp A.eval o):=by
 unfold fQ at h
 split at h
 ·rename_i hc
  simp only[Bool.and_eq_true,List.all_eq_true]at hc;obtain⟨hf,hops⟩:=hc
  split at h
  ·rename_i v hq
   split at h
   ·rename_i hv
    cases h;have MX:execOp A.eval o=execOp a.eval o:=by
     refine execOp_congr o ?_ ?_
     ·intro cs b e
      rw[e]at hf;cases hf
     ·intro x hx
      have:=hops x (by rw[Array.mem_toList_iff];exact hx);exact H4 5 _ _ this.2 (aD hA x this.1)
    rw[MX];exact f_.em hr (DT _ _ hq w) (iG ι 5 v hv)
   ·cases h
  ·cases h
 ·cases h
theorem Ce{x y:Operand}(h:bM [x,y]=true):bH x=true/\bH y=true:=by simpa[bM] using h
theorem Oo{x y z:Operand}(h:bM [x,y,z]=true):bH x=true/\bH y=true/\bH z=true:=by simpa[bM] using h
theorem f_.tF{P:Program}{base:Nat->Prop}{ι:am}{s s1:St}{w w1:World}{n n':Next}{m':Sem Next}(h:m'.run P w=.ok n' w1)(hr:dA P base ι s1.look w1)(hn:H5 P ι n n')(hb:Out base w w1):f_ P base ι s s1 w n m' :=
 ⟨ι,n',w1,h,hr,λ_ _=>rfl,hn,hb⟩
theorem nR(c:Call)(h:bM c.operands.toList=true):∀ x ∈ c.args.toList,bH x=true:=by
 intro x hx;unfold bM at h;rw[List.all_eq_true]at h;refine h x ?_;unfold Call.operands;rw[Array.toList_append];exact List.mem_append_right _ hx
theorem wX{P:Program}{base:Nat->Prop}{ι:am}{a A:Act}{o:Oper}{c:Call}{s s1:St}{w:World}{n:Next}(ho:o.op=.call c)(hA:cn ι a A)(hr:dA P base ι s.look w)(h:mJ P a c o.type s=some (n,s1))
    (hfr:∀ id,4*s.next<=id->id<4*s1.next->ι id=none):f_ P base ι s s1 w n (execOp A.eval o):=by
  have hex:execOp A.eval o=(do let d ← resolve A.eval c o.type;invoke d.target d.args):=by
    unfold execOp;rw[ho]
  rw[hex];unfold mJ at h
  split at h
  · rename_i hok
    have hargs:=uP hA (nR c hok)
    split at h
    · rename_i f dh
      have hfo:bH f=true:=by
        unfold bM at hok;rw[List.all_eq_true]at hok;exact hok f (by simp[Call.operands,dh])
      have hv:=aD hA f hfo
      split at h
      · rename_i g first captured hg
        split at h
        · rename_i hfn
          cases h;rw[hg]at hv;generalize MY:A.eval f=Af at hv;cases hv with
          | func _ _ f' _ c' hy hf hc h1 h2 =>
            refine f_.em hr (n':=.enter g ((f'++c.args.map A.eval)++c')) ?_ ⟨rfl,(bN.append (bN.append ⟨hf,h1⟩ hargs) ⟨hc,h2⟩)⟩;have hres:resolve A.eval c o.type=(Deferred.ofValue (A.eval f) (c.args.map A.eval)):=by
              unfold resolve;rw[dh]
            rw[hres,MY];exact ko hfn _ w
        · cases h
      · rename_i l first captured hg
        split at h
        · rename_i he
          rw[Bool.and_eq_true,Array.isEmpty_iff,Array.isEmpty_iff]at he;obtain⟨rfl,rfl⟩:=he;rw[hg]at hv;generalize MY:A.eval f=Af at hv;have hres:resolve A.eval c o.type=(Deferred.ofValue (A.eval f) (c.args.map A.eval)):=by
            unfold resolve;rw[dh]
          have hb:∃ b,Af=.func (.yield b) #[] #[]/\ι l=some b:=by
            cases hv with
            | yield _ b hb=>exact⟨b,rfl,hb⟩
            | func _ _ f' _ c' hy hf hc h1 h2=>exact(hy l rfl).elim
          obtain⟨b,rfl,hb⟩:=hb;have hd:(do let d ← resolve A.eval c o.type;invoke d.target d.args)=Instr.yield b (c.args.map A.eval):=by
            rw[hres,MY];show Instr.yield b (#[]++c.args.map A.eval)=_;rw[Array.empty_append]
          rw[hd];obtain⟨κ,n',w1,r1,r2,r3,r4,r5⟩:=Cq (P:=P) (base:=base) hb hargs s w n s1 hr h hfr;exact⟨κ,n',w1,r1,r2,r3,r4,r5⟩
        · cases h
      · cases h
    · rename_i r name dh
      have hfo:bH r=true:=by
        unfold bM at hok;rw[List.all_eq_true]at hok;exact hok r (by simp[Call.operands,dh])
      have hv:=aD hA r hfo
      split at h
      · rename_i t v hg
        split at h
        · rename_i f hm
          split at h
          · rename_i hfn
            cases h;rw[hg]at hv;generalize MY:A.eval r=Af at hv;cases hv with
            | iface _ _ v' hvv =>
              have hone:bN ι #[v] #[v']:=by
                refine⟨rfl,λi x x' h1 h2=>?_⟩
                match i with
                | 0=>simp at h1 h2;subst h1 h2;exact hvv
                | i+1=>simp at h1
              refine f_.em hr (n':=.enter f (#[v']++c.args.map A.eval)) ?_ ⟨rfl,hone.append hargs⟩;have hm':nQ P t v' name=some f:=hm;have hres:resolve A.eval c o.type=pure { target:=.fn (.method name) #[],args:=#[A.eval r]++c.args.map A.eval }:=by
                unfold resolve;rw[dh]
              rw[hres,MY];show(invoke (.fn (.method name) #[]) (#[.iface t v']++c.args.map A.eval)).run P w=_;have hget:(#[Value.iface t v']++c.args.map A.eval)[0]? = some (.iface t v'):=by rw[Array.getElem?_append_left (by simp)];rfl
              have hext:(#[Value.iface t v']++c.args.map A.eval).extract 1 (#[Value.iface t v']++c.args.map A.eval).size=c.args.map A.eval:=by
                apply Array.ext';simp;rw[List.take_of_length_le (by simp)]
              unfold invoke;simp only[hget,hext];unfold callMethod;show((do let p ← Go.program;let (f,receiver) ← method (p.types.size+Made.depth) t v' name;callFunc f (#[receiver]++c.args.map A.eval)):Sem Next).run P w=_;show((do let (f,receiver) ← method (P.types.size+Made.depth) t v' name;callFunc f (#[receiver]++c.args.map A.eval)):Sem Next).run P w=_;have hpos:0<Made.depth:=by decide
              obtain⟨k,hk⟩:∃ k,P.types.size+Made.depth=k+1:=⟨P.types.size+(Made.depth-1),by omega⟩;rw[hk,Sem.run_bind,zr hm'];exact ko hfn _ w
          · cases h
        · cases h
      · cases h
    · rename_i b dh
      obtain⟨cs,hres⟩:∃ cs,resolve A.eval c o.type=pure { target:=.builtin b c.argTypes o.type cs,args:=c.args.map A.eval }:=by
        unfold resolve;rw[dh];exact⟨_,rfl⟩
      have hx2:(do let d ← resolve A.eval c o.type;invoke d.target d.args)=builtin b c.argTypes o.type cs (c.args.map A.eval):=by
        rw[hres];rfl
      rw[hx2];clear hx2 hres hex;have key1:∀ x t,c.args.toList=[x]->c.argTypes.toList=[t]->c.args.map A.eval = #[A.eval x]/\c.argTypes = #[t]/\bH x=true:=by
        intro x t h1 h2;have e1:c.args = #[x]:=Array.ext' h1;refine⟨by rw[e1];simp,Array.ext' h2,nR c hok x (by rw[h1];simp)⟩
      have key2:∀ x y t u,c.args.toList=[x,y]->c.argTypes.toList=[t,u]->c.args.map A.eval = #[A.eval x,A.eval y]/\c.argTypes = #[t,u]/\bH x=true/\bH y=true:=by
        intro x y t u h1 h2;have e1:c.args = #[x,y]:=Array.ext' h1;refine⟨by rw[e1];simp,Array.ext' h2,nR c hok x (by rw[h1];simp),nR c hok y (by rw[h1];simp)⟩
      split at h
      · rename_i x t h1 h2
        obtain⟨e1,e2,e3⟩:=key1 x t h1 h2;rw[e1,e2];have hb:builtin .len #[t] o.type cs #[A.eval x]=(do pure (Next.value (← Builtin.len_ #[t] o.type #[A.eval x]))):=rfl;rw[hb];exact f_.dI (H8 t o.type (aD hA x e3)) hr h hfr
      · rename_i x t h1 h2
        obtain⟨e1,e2,e3⟩:=key1 x t h1 h2;rw[e1,e2];have hb:builtin .cap #[t] o.type cs #[A.eval x]=(do pure (Next.value (← Builtin.cap_ #[t] o.type #[A.eval x]))):=rfl;rw[hb]
        split at h
        · rename_i hcap
          exact f_.dI (H9 t o.type (aD hA x e3) hcap) hr h hfr
        · cases h
      · rename_i x y t u h1 h2
        obtain⟨e1,e2,e3,e4⟩:=key2 x y t u h1 h2;rw[e1,e2];have hb:builtin .append #[t,u] o.type cs #[A.eval x,A.eval y]=(do pure (Next.value (← Builtin.append_ #[t,u] o.type #[A.eval x,A.eval y]))):=rfl;rw[hb]
        split at h
        · rename_i hin
          exact f_.dI (uL t u o.type (aD hA x e3) (aD hA y e4) hin) hr h hfr
        · unfold sv at h
          rw[Option.map_eq_some_iff]at h;obtain⟨⟨v,s2⟩,g1,g2⟩:=h;cases g2;obtain⟨κ,v',w1,r1,r2,r3,r4,r5⟩:=sH (ty:=o.type) hr (aD hA x e3) (aD hA y e4) g1 hfr;exact⟨κ,.value v',w1,by rw[Sem.run_bind,r1];rfl,r2,r3,r4,r5⟩
      · rename_i x y t u h1 h2
        obtain⟨e1,e2,e3,e4⟩:=key2 x y t u h1 h2;rw[e1,e2];have hb:builtin .copy #[t,u] o.type cs #[A.eval x,A.eval y]=(do pure (Next.value (← Builtin.copy_ #[t,u] o.type #[A.eval x,A.eval y]))):=rfl;rw[hb];exact f_.dI (DX t u o.type (aD hA x e3) (aD hA y e4)) hr h hfr
      · rename_i x y t u h1 h2
        obtain⟨e1,e2,e3,e4⟩:=key2 x y t u h1 h2;rw[e1,e2];rw[Option.map_eq_some_iff]at h;obtain⟨s2,g1,g2⟩:=h;cases g2;obtain⟨w1,r1,r2,r3,r4⟩:=sF (ty:=o.type) (kk:=u) hr (aD hA x e3) (aD hA y e4) g1;have hb:builtin .delete #[t,u] o.type cs #[A.eval x,A.eval y]=(do pure (Next.value (← Builtin.delete_ #[t,u] o.type #[A.eval x,A.eval y]))):=rfl;rw[hb];exact f_.tF (n':=.value (.tuple #[])) (by rw[Sem.run_bind,r1];rfl) r2 (eV ι) r3
      · cases h
  · cases h
theorem jl{P:Program}{base:Nat->Prop}{ι:am}{a A:Act}{o:Oper}{s s1:St}{w:World}{n:Next}(hA:cn ι a A)(hr:dA P base ι s.look w)(h:bf P a o s=some (n,s1))
    (hfr:∀ id,4*s.next<=id->id<4*s1.next->ι id=none):f_ P base ι s s1 w n (execOp A.eval o):=by
  obtain⟨dst,op,ty,pos,after,guard⟩:=o;cases op with
  | move x =>
    simp only[bf]at h
    split at h
    · rename_i hx;cases h;exact f_.em hr (n':=.value (A.eval x)) rfl (aD hA x hx)
    · cases h
  | assign x =>
    simp only[bf]at h
    split at h
    · rename_i hx;cases h;exact f_.em hr (n':=.value (A.eval x)) rfl (aD hA x hx)
    · cases h
  | pick c x y =>
    simp only[bf]at h
    split at h
    · rename_i hx
      obtain⟨h1,h2,h3⟩:=Oo hx;have hc:=aD hA c h1
      split at h
      · rename_i b hb
        cases h;rw[hb]at hc;generalize OV:A.eval c=Ac at hc;cases hc;refine f_.em hr (n':=.value (if b then A.eval x else A.eval y)) ?_ ?_
        · show(do pure (Next.value (if ← asBool (A.eval c) then A.eval x else A.eval y)):Sem Next).run P w=_
          rw[OV];rfl
        · cases b
          · exact aD hA y h3
          · exact aD hA x h2
      · cases h
    · cases h
  | alloc t =>
    simp only[bf]at h
    split at h
    · rename_i hz;exact f_.dI (Cg t hz) hr h hfr
    · cases h
  | box t x =>
    simp only[bf]at h
    split at h
    · rename_i hx;exact f_.dI (H7 t (aD hA x hx)) hr h hfr
    · cases h
  | build t ps =>
    simp only[bf]at h
    split at h
    · rename_i hx
      rw[Bool.and_eq_true]at hx;exact f_.dI (Ck t hx.1 (A5 hA hx.2)) hr h hfr
    · cases h
  | buildSlice t k ps =>
    simp only[bf]at h
    split at h
    · rename_i hx
      rw[Bool.and_eq_true,Bool.and_eq_true]at hx;exact f_.dI (qI t k hx.1.1 hx.1.2 (A5 hA hx.2)) hr h hfr
    · cases h
  | load t x =>
    simp only[bf]at h
    split at h
    · rename_i hx;exact f_.dI (zk t (aD hA x hx)) hr h hfr
    · cases h
  | store t x y =>
    simp only[bf]at h
    split at h
    · rename_i hx
      obtain⟨h1,h2⟩:=Ce hx;exact f_.H_ (wI t (aD hA x h1) (aD hA y h2)) hr h hfr
    · cases h
  | nilCheck x =>
    simp only[bf]at h
    split at h
    · rename_i hx
      have hv:=aD hA x hx
      split at h
      · rename_i b hb
        cases h;have hv2:=hv;rw[hb]at hv;generalize hAx:A.eval x=Ax at hv;refine f_.em hr (n':=.value (A.eval x)) ?_ hv2;cases hv;simp only[execOp,hAx];rfl
      · rename_i f g c hb
        cases h;have hv2:=hv;rw[hb]at hv;generalize hAx:A.eval x=Ax at hv;refine f_.em hr (n':=.value (A.eval x)) ?_ hv2;cases hv;simp only[execOp,hAx];rfl
      · rename_i t v hb
        cases h;have hv2:=hv;rw[hb]at hv;generalize hAx:A.eval x=Ax at hv;refine f_.em hr (n':=.value (A.eval x)) ?_ hv2;cases hv;simp only[execOp,hAx];rfl
      · cases h
    · cases h
  | binOp op t x y yt =>
    simp only[bf]at h
    split at h
    · rename_i r hf
      cases h;exact jk hA hr hf
    · split at h
      · rename_i hok
        obtain⟨h1,h2⟩:=Ce hok
        split at h
        · rename_i hc
          have hn:=Cr (P:=P) (ox:=x) (oy:=y) (zp (aD hA x h1) (aD hA y h2) hc) w
          split at h
          · cases h
            refine f_.em hr (n':=.value (.bool false)) ?_ (.bool false);show(do pure (Next.value (← (do eqGuard .eql t x y (A.eval x) (A.eval y);binOp .eql t (A.eval x) (A.eval y)))):Sem Next).run P w=_;rw[Sem.run_bind,hn.1];rfl
          · cases h
            refine f_.em hr (n':=.value (.bool true)) ?_ (.bool true);show(do pure (Next.value (← (do eqGuard .neq t x y (A.eval x) (A.eval y);binOp .neq t (A.eval x) (A.eval y)))):Sem Next).run P w=_;rw[Sem.run_bind,hn.2];rfl
          · cases h
        · unfold D0 at h
          rw[Option.map_eq_some_iff]at h;obtain⟨r,hb,hh⟩:=h;cases hh;obtain⟨k1,k2,k3,k4⟩:=bg.zf _ _ _ _ hb;refine f_.em hr (n':=.value (nG bg.val r)) ?_ (ql k3);show(do pure (Next.value (← (do eqGuard op t x y (A.eval x) (A.eval y);binOp op t (A.eval x) (A.eval y)))):Sem Next).run P w=_;rw[qL (aD hA x h1) k1,qL (aD hA y h2) k2,k4];rfl
      · cases h
  | unOp op t x =>
    simp only[bf]at h
    split at h
    · rename_i r hf
      cases h;exact jk hA hr hf
    · split at h
      · rename_i hx
        unfold D1 at h;rw[Option.map_eq_some_iff]at h;obtain⟨r,hb,hh⟩:=h;cases hh;obtain⟨k1,k3,k4⟩:=bg.zg _ _ _ hb;refine f_.em hr (n':=.value (nG bg.val r)) ?_ (ql k3);show(do pure (Next.value (← Op.unary op (A.eval x))):Sem Next).run P w=_;rw[qL (aD hA x hx) k1,k4];rfl
      · cases h
  | convert t u x =>
    simp only[bf]at h
    split at h
    · rename_i r hf
      cases h;exact jk hA hr hf
    · split at h
      · rename_i hx
        unfold zt at h
        split at h
        · rename_i k0 k hu1 hu2
          rw[Option.map_eq_some_iff]at h;obtain⟨r,hb,hh⟩:=h;cases hh;obtain⟨k1,k3,kk,nn,k4,k5⟩:=bg.zh _ _ _ hb;refine f_.em hr (n':=.value (nG bg.val r)) ?_ (ql k3);show(do pure (Next.value (← convert t u (A.eval x))):Sem Next).run P w=_;rw[qL (aD hA x hx) k1,k4,k5];have e:(convert t u (.int kk nn)).run P w=.ok (.int k (k.wrap nn)) w:=by
            unfold convert;rw[Sem.run_bind,cq hu1];dsimp only[Result.andThen];rw[Sem.run_bind,cq hu2];rfl
          rw[Sem.run_bind,e];rfl
        · cases h
      · cases h
  | makeInterface t x =>
    simp only[bf]at h
    split at h
    · rename_i hx;exact f_.dI (nM t (aD hA x hx)) hr h hfr
    · cases h
  | makeFunc fn first captured =>
    cases fn with
    | func f =>
      simp only[bf]at h
      split at h
      · rename_i hx
        rw[Bool.and_eq_true]at hx;cases h;have h1:=uP hA (xs:=first) (by have:=hx.1;unfold bM at this;rw[List.all_eq_true]at this;exact this);have h2:=uP hA (xs:=captured) (by have:=hx.2;unfold bM at this;rw[List.all_eq_true]at this;exact this);exact f_.em hr (n':=.value (.func (.func f) (first.map A.eval) (captured.map A.eval))) rfl (.func _ _ _ _ _ (by intro l e;cases e) h1.1 h2.1 h1.2 h2.2)
      · cases h
    | _=>simp[bf]at h
  | makeMap t r =>
    cases r with
    | none =>
      simp only[bf]at h;exact f_.dI (pN (r:=none) (r':=none) t trivial) hr h hfr
    | some x =>
      simp only[bf]at h
      split at h
      · rename_i hx;exact f_.dI (pN (r:=some _) (r':=some _) t (aD hA x hx)) hr h hfr
      · cases h
  | makeSlice t l c =>
    simp only[bf]at h
    split at h
    · rename_i hx
      rw[Bool.and_eq_true,Bool.and_eq_true]at hx;obtain⟨h1,h2⟩:=Ce hx.2;exact f_.dI (sJ t hx.1.1 hx.1.2 (aD hA l h1) (aD hA c h2)) hr h hfr
    · cases h
  | slice t x lo hi mx =>
    simp only[bf]at h
    split at h
    · rename_i hx
      simp only[Bool.and_eq_true]at hx;obtain⟨⟨⟨⟨⟨g1,g2⟩,g3⟩,g4⟩,g5⟩,g6⟩:=hx
      split at h
      · rename_i v s2 hrun
        split at h
        · rename_i hres
          cases h;obtain⟨κ,v',w1,r1,r2,r3,r4,r5⟩:=wM (P:=P) (base:=base) t (aD hA x g2) (zu hA g3) (zu hA g4) (zu hA g5) g6 g1 s w v s1 hr hrun hfr;refine⟨κ,.value v',w1,?_,r2,r3,r4 hres,r5⟩;show(do pure (Next.value (← Instr.sliceAt t (A.eval x) (lo.map A.eval) (hi.map A.eval) (mx.map A.eval))):Sem Next).run P w=_;rw[Sem.run_bind,r1];rfl
        · cases h
      · cases h
    · cases h
  | fieldAddr t x f =>
    simp only[bf]at h
    split at h
    · rename_i hx
      rw[Bool.and_eq_true]at hx;exact f_.dI (wJ t f (aD hA x hx.1) hx.2) hr h hfr
    · cases h
  | field t x f =>
    simp only[bf]at h
    split at h
    · rename_i hx;exact f_.dI (Cl t f (aD hA x hx)) hr h hfr
    · cases h
  | indexAddr t x i =>
    simp only[bf]at h
    split at h
    · rename_i hx
      obtain⟨h1,h2⟩:=Ce hx;exact f_.dI (wK t (aD hA x h1) (aD hA i h2)) hr h hfr
    · cases h
  | index t x i =>
    simp only[bf]at h
    split at h
    · rename_i hx
      obtain⟨h1,h2⟩:=Ce hx;exact f_.dI (Cm t (aD hA x h1) (aD hA i h2)) hr h hfr
    · cases h
  | lookup t m k ok =>
    simp only[bf]at h
    split at h
    · rename_i hx
      obtain⟨h1,h2⟩:=Ce hx;unfold sv at h;rw[Option.map_eq_some_iff]at h;obtain⟨⟨v,s2⟩,g1,g2⟩:=h;cases g2;obtain⟨v',r1,r2,r3,r4⟩:=sE hr (aD hA m h1) (aD hA k h2) g1;refine f_.tF (n':=.value v') (w1:=w) ?_ (by rw[r3];exact hr) r2 (Out.refl _ _);show(do pure (Next.value (← Instr.lookup t (A.eval m) (A.eval k) ok)):Sem Next).run P w=_;rw[Sem.run_bind,r1];rfl
    · cases h
  | mapUpdate t m k v =>
    simp only[bf]at h
    split at h
    · rename_i hx
      obtain⟨h1,h2,h3⟩:=Oo hx;rw[Option.map_eq_some_iff]at h;obtain⟨s2,g1,g2⟩:=h;cases g2;obtain⟨w1,r1,r2,r3,r4⟩:=mI hr (aD hA m h1) (aD hA k h2) (aD hA v h3) g1;refine f_.tF (n':=.skip) (w1:=w1) ?_ r2 trivial r3;show(do Instr.mapUpdate t (A.eval m) (A.eval k) (A.eval v);pure .skip:Sem Next).run P w=_;rw[Sem.run_bind,r1];rfl
    · cases h
  | insert t m k v =>
    simp only[bf]at h
    split at h
    · rename_i hx
      obtain⟨h1,h2,h3⟩:=Oo hx;rw[Option.map_eq_some_iff]at h;obtain⟨s2,g1,g2⟩:=h;cases g2;obtain⟨w1,r1,r2,r3,r4⟩:=mI hr (aD hA m h1) (aD hA k h2) (aD hA v h3) g1;refine f_.tF (n':=.skip) (w1:=w1) ?_ r2 trivial r3;show(do Instr.mapUpdate t (A.eval m) (A.eval k) (A.eval v);pure .skip:Sem Next).run P w=_;rw[Sem.run_bind,r1];rfl
    · cases h
  | mapEntry t m k =>
    simp only[bf]at h
    split at h
    · rename_i hx
      obtain⟨h1,h2⟩:=Ce hx;unfold sv at h;rw[Option.map_eq_some_iff]at h;obtain⟨⟨v,s2⟩,g1,g2⟩:=h;cases g2;obtain⟨v',w1,r1,r2,r3,r4,r5⟩:=uH hr (aD hA m h1) (aD hA k h2) g1;refine f_.tF (n':=.value v') (w1:=w1) ?_ r3 r2 r4;show(do pure (Next.value (← Instr.mapEntry t (A.eval m) (A.eval k))):Sem Next).run P w=_;rw[Sem.run_bind,r1];rfl
    · cases h
  | entryStore t m st v =>
    simp only[bf]at h
    split at h
    · rename_i hx
      obtain⟨h1,h2,h3⟩:=Oo hx;rw[Option.map_eq_some_iff]at h;obtain⟨s2,g1,g2⟩:=h;cases g2;obtain⟨w1,r1,r2,r3,r4⟩:=uI (t:=t) hr (aD hA m h1) (aD hA st h2) (aD hA v h3) g1;refine f_.tF (n':=.skip) (w1:=w1) ?_ r2 trivial r3;show(do Instr.entryStore t (A.eval m) (A.eval st) (A.eval v);pure .skip:Sem Next).run P w=_;rw[Sem.run_bind,r1];rfl
    · cases h
  | range t x =>
    simp only[bf]at h
    split at h
    · rename_i hx;exact f_.dI (Cn t (aD hA x hx)) hr h hfr
    · cases h
  | next x str =>
    simp only[bf]at h
    split at h
    · rename_i hx;exact f_.dI (DW str ty (aD hA x hx)) hr h hfr
    · cases h
  | entry x =>
    simp only[bf]at h
    split at h
    · rename_i hx;exact f_.dI (Co (aD hA x hx)) hr h hfr
    · cases h
  | typeAssert x t u ok =>
    simp only[bf]at h
    split at h
    · rename_i hx
      rw[Bool.and_eq_true]at hx;exact f_.dI (qJ t u ok (λe=>by rw[e]at hx;simpa using hx.2) (aD hA x hx.1)) hr h hfr
    · cases h
  | extract x i =>
    simp only[bf]at h
    split at h
    · rename_i hx;exact f_.dI (wR i (aD hA x hx)) hr h hfr
    · cases h
  | call c =>
    simp only[bf]at h
    split at h
    · rename_i r hf
      cases h;exact jk hA hr hf
    · exact wX rfl hA hr h hfr
  | _=>simp[bf]at h
end Go.Ev
namespace Go.Ev
open Go.RowKit
variable[bg]
inductive OW where
 | fn (f:FuncId) (args:Array Value)
 | D2 (l:Nat) (tmps:Array Value) (assign body:Code)
abbrev Caller:=OW->St->Option (Value×St)
abbrev Runner:=Option Nat->Code->Act->St->Option (Exit×Act×St)
def il(g:Nat):Obj:=.view ⟨g,0,none⟩ 0
def sR(q:GQ)(s:St):Option (Value×St) :=
 match s.look 3 with
 | some (.view x 0) =>
  match q x.block (4*s.next+3) with
  | some (r,none)=>some (r,s.touch 3 (some 1) false)
  | some (r,some g)=>some (r,{ (s.put 3 (some (il g))).touch 3 (some 1) true with next:=s.next+1 })
  | none=>none
 | _=>none
def kW(a:Act)(op:Op):List Value:=op.operands.toList.map a.eval
def wY(sz:Nat)(x:Value)(s:St):Option (Array Value×St) :=
 match bO s sz x with
 | some (c,l)=>some (c,{ s with log:=l++s.log })
 | none=>none
def qM(r:Value):Option Obj->Option Value
 | some (.view _ 0)=>some r
 | _=>none
def m7(q:p_)(vals:List Value)(s:St):Option (Value×St) :=
 match q with
 | .now q=>sR q s
 | .stay r=>(match qM r (s.look 3) with | some a=>some (a,s.touch 3 (some 0) false) | none=>none)
 | .src sz j q =>
  match vals[j]? with
  | some y=>(match wY sz y s with | some (c,s1)=>sR (q c.toList) s1 | none=>none)
  | none=>none
def qN(q:p_)(a:Act)(o:Oper)(s:St):Option (Value×St):=if bM o.op.operands.toList then m7 q (kW a o.op) s else none
def ib(P:Program)(call:Caller)(a:Act)(o:Oper)(s:St):Option (Act×St) :=
 match bg.HZ o.op (kW a o.op) with
 | some q=>(match qN q a o s with | some (v,s1)=>some (a.put o.dst v,s1) | none=>none)
 | none =>
 match bf P a o s with
 | some (.value v,s1)=>some (a.put o.dst v,s1)
 | some (.skip,s1)=>some (a.put o.dst undef,s1)
 | some (.enter f args,s1)=>(match call (.fn f args) s1 with | some (v,s2)=>some (a.put o.dst v,s2) | none=>none)
 | some (.round l _ tmps assign body,s1)=>(match call (.D2 l tmps assign body) s1 with | some (v,s2)=>some (a.put o.dst v,s2) | none=>none)
 | _=>none
def lA(P:Program)(call:Caller)(ops:Array Oper):List Oper->Act->St->Option (Act×St)
 | [],a,s=>some (a,s)
 | o::rest,a,s =>
  if Region.wanted o (yielded ops a.tmps) then
   match ib P call a o s with
   | some (a1,s1)=>lA P call ops rest a1 s1
   | none=>none
  else lA P call ops rest (a.put o.dst undef) s
def kX(P:Program)(call:Caller)(ops:Array Oper):List Oper->Act->St->List (List Touch)->Option (Act×St×List (List Touch))
 | [],a,s,ls=>some (a,s,ls)
 | o::rest,a,s,ls =>
  if Region.wanted o (yielded ops a.tmps) then
   match ib P call a o { s with log:=[] } with
   | some (a1,s1)=>kX P call ops rest a1 { s1 with log:=s1.log++s.log } (s1.log::ls)
   | none=>none
  else kX P call ops rest (a.put o.dst undef) s ([]::ls)
def clash(t u:Touch):Bool:=t.id==u.id&&(t.wr||u.wr)&&(match t.at_,u.at_ with | some i,some j=>i==j | _,_=>true)
def clashes(l m:List Touch):Bool:=l.any λt=>m.any λu=>clash t u
def ip(b:Array Nat):List (List Touch)->Nat->Bool
 | [],_=>true
 | l::rest,j=>(l.isEmpty||(rest.zipIdx.all λ(m,k)=>m.isEmpty||(b.getD j 0).testBit (j-1-k) || !clashes l m))&&ip b rest (j-1)
def gJ(ops:Array Oper):Bool:=ops.toList.all λo =>
 match o.guard with
 | none=>true
 | some (g,_)=>ops.toList.zipIdx.all λ(p,m)=>m==g||p.dst != (ops[g]?).bind (·.dst)
def fj(P:Program)(call:Caller)(ops:Array Oper)(draw:Bool)(a:Act)(s:St):Option (Act×St) :=
 if draw then
  match kX P call ops ops.toList a s [] with
  | some (a1,s1,ls)=>if gJ ops&&ip (Region.before ops) ls (ops.size-1) then some (a1,s1) else none
  | none=>none
 else lA P call ops ops.toList a s
def nS(P:Program)(fn:Func)(a:Act)(s:St):Option (Value×St):=aw P (results fn a.tmps) s
def kq(P:Program):List Deferred->St->Option (Unit×St)
 | [],s=>some ((),s)
 | d::ds,s =>
  match d.target with
  | .collected r =>
   match aw P (Instr.takeDeferred r) s with
   | some (_,s1)=>kq P ds s1
   | none=>none
  | _=>none
def D3:Exit->Option (Option Code)
 | .normal=>some none
 | .ret=>some (some .ret)
 | .exit id=>some (some (.exit id))
 | _=>none
def atEnd:Exit->Bool
 | .normal | .ret=>true
 | _=>false
def jB(P:Program)(fn:Func)(e:Exit)(a:Act)(s:St):Option (Value×St) :=
 match atEnd e with
 | true=>(match kq P a.defers s with | some (_,s1)=>nS P fn a s1 | none=>none)
 | false=>none
def g9(P:Program)(run:Runner)(f:FuncId)(args:Array Value)(s:St):Option (Value×St) :=
 match bg.H3 f args.toList with
 | some r=>some (r,s)
 | none =>
 match bg.wF f args.toList with
 | some q=>sR q s
 | none =>
 match P.funcs[f]? with
 | some fn =>
  match fn.body with
  | some body =>
   match run none body { tmps:=args++Array.replicate (fn.ntmps-args.size) undef,defers:=[] } s with
   | some (e,a,s1)=>jB P fn e a s1
   | none=>none
  | none=>none
 | none=>none
def sT(P:Program)(l:Nat)(e:Exit)(s:St):Option (Value×St) :=
 match D3 e with
 | some j=>aw P (Instr.endRound l j) s
 | none=>none
def nT:Exit->Bool
 | .normal=>true
 | _=>false
def m8(P:Program)(run:Runner)(l:Nat)(tmps:Array Value)(assign body:Code)(s:St):Option (Value×St) :=
 match run (some l) assign { tmps:=tmps,defers:=[] } s with
 | some (e,a1,s1) =>
  if nT e then
   match aw P (Instr.beginRound l) s1 with
   | some (_,s2) =>
    match run (some l) body a1 s2 with
    | some (e2,_,s3)=>sT P l e2 s3
    | none=>none
   | none=>none
  else none
 | none=>none
def lB(P:Program)(run:Runner):Caller
 | .fn f args,s=>g9 P run f args s
 | .D2 l tmps assign body,s=>m8 P run l tmps assign body s
def gj(P:Program)(a:Act)(g:Operand)(l:Nat):Option (FuncId×Array Value) :=
 if bH g then
  match a.eval g with
  | .func (.func f) first captured=>if uM P f then some (f,(first ++ #[.func (.yield l) #[] #[]])++captured) else none
  | _=>none
 else none
def qO(run:Runner)(rd:Option Nat)(j:Option Code)(a:Act)(s:St):Option (Exit×Act×St) :=
 match j with
 | none=>some (.normal,a,s)
 | some c=>run rd c a s
def m9:Option Code->Bool
 | none | some .ret | some (.exit _)=>true
 | _=>false
def m_(P:Program)(run:Runner)(rd:Option Nat)(g:Operand)(ps:Array Tmp)(assign body:Code)(a:Act)(s:St):Option (Exit×Act×St) :=
 match aw P (Instr.enterLoop 0 a.tmps ps assign body rd) s with
 | some ((l,mark),s1) =>
  match gj P a g l with
  | some (f,args) =>
   match g9 P run f args s1 with
   | some (_,s2) =>
    match aw P (Instr.endLoop l) s2 with
    | some (j,s3)=>if m9 j then qO run rd j { a with defers:=mark++a.defers } s3 else none
    | none=>none
   | none=>none
  | none=>none
 | none=>none
def uQ(run:Code->Act->St->Option (Exit×Act×St))(body:Code):Option (Exit×Act×St)->Option (Exit×Act×St)
 | some (.goto l,a,s) =>
  match findLabel body l with
  | some rest =>
   match run rest a s with
   | some (.goto _,_,_)=>none
   | r=>r
  | none=>none
 | r=>r
def ev(P:Program):Nat->Runner
 | 0,_,_,_,_=>none
 | n+1,rd,c,a,s =>
  match c with
  | .skip=>some (.normal,a,s)
  | .label _=>some (.normal,a,s)
  | .ret=>some (.ret,a,s)
  | .exit id=>some (.exit id,a,s)
  | .goto l=>some (.goto l,a,s)
  | .seq x y =>
   match ev P n rd x a s with
   | some (.normal,a1,s1)=>ev P n rd y a1 s1
   | r=>r
  | .cond c x y =>
   match bH c,a.eval c with
   | true,.bool b=>ev P n rd (if b then x else y) a s
   | _,_=>none
  | .block id body =>
   match ev P n rd body a s with
   | some (.exit i,a1,s1)=>if i=id then some (.normal,a1,s1) else some (.exit i,a1,s1)
   | r=>r
  | .loop body =>
   match ev P n rd body a s with
   | some (.normal,a1,s1)=>ev P n rd (.loop body) a1 s1
   | r=>r
  | .scope body =>
   match rd with
   | none=>uQ (ev P n none) body (ev P n none body a s)
   | some _=>none
  | .rangeFunc g ps assign body=>m_ P (ev P n) rd g ps assign body a s
  | .region _ ops draw =>
   match fj P (lB P (ev P n)) ops draw a s with
   | some (a1,s1)=>some (.normal,a1,s1)
   | none=>none
  | _=>none
def s0:St:={ heap:=.leaf,next:=1,log:=[] }
def isTrue:Option (Value×St)->Bool
 | some (.bool b,_)=>b
 | _=>false
end Go.Ev
namespace Go.Ev
open Go.RowKit
variable[bg]
theorem cT{P:Program}{m:Sem Value}{s s1:St}{n:Next}(h:sv (aw P m s)=some (n,s1)):s.next<=s1.next:=by
 unfold sv at h;rw[Option.map_eq_some_iff]at h;obtain⟨⟨v,s2⟩,h1,h2⟩:=h;cases h2;exact de P _ _ _ _ h1
theorem Ia{P:Program}{m:Sem Unit}{s s1:St}{n:Next}(h:su (aw P m s)=some (n,s1)):s.next<=s1.next:=by
 unfold su at h;rw[Option.map_eq_some_iff]at h;obtain⟨⟨v,s2⟩,h1,h2⟩:=h;cases h2;exact de P _ _ _ _ h1
theorem ku{P:Program}{a:Act}{o:Oper}{s s1:St}{n:Next}(h:fQ P a o s=some (n,s1)):s.next<=s1.next:=by
 unfold fQ at h
 split at h
 ·split at h
  ·split at h
   ·cases h;exact Nat.le_refl _
   ·cases h
  ·cases h
 ·cases h
theorem uR{P:Program}{s s1:St}{t:TypeId}{m k v:Value}{ok:Bool}(h:ji P s t m k ok=some (v,s1)):s.next<=s1.next:=by
 unfold ji at h
 split at h
 ·split at h
  ·rename_i es s2 hm
   have hs:s2.next=s.next:=by
    split at hm
    ·cases hm;rfl
    ·split at hm
     ·cases hm;rfl
     ·cases hm
    ·cases hm
   split at h
   ·cases h;omega
   ·split at h
    ·split at h
     ·split at h
      ·cases h;omega
      ·cases h
     ·cases h
    ·cases h
   ·cases h
  ·cases h
 ·cases h
theorem nU{P:Program}{s s1:St}{t:TypeId}{m k v:Value}(h:ek P s t m k v=some s1):s.next<=s1.next:=by
 unfold ek at h
 split at h
 ·split at h
  ·split at h
   ·split at h
    ·split at h
     ·cases h;exact Nat.le_refl _
     ·cases h
    ·cases h;exact Nat.le_refl _
    ·cases h
   ·cases h
  ·cases h
 ·cases h
theorem wZ{P:Program}{s s1:St}{t:TypeId}{m k v:Value}(h:gi P s t m k=some (v,s1)):s.next<=s1.next:=by
 unfold gi at h
 split at h
 ·split at h
  ·split at h
   ·split at h
    ·split at h
     ·cases h;exact Nat.le_refl _
     ·cases h
    ·split at h
     ·split at h
      ·split at h
       ·cases h;exact Nat.le_refl _
       ·cases h
      ·cases h
     ·cases h
    ·cases h
   ·cases h
  ·cases h
 ·cases h
theorem w_{s s1:St}{m st v:Value}(h:g7 s m st v=some s1):s.next<=s1.next:=by
 unfold g7 at h
 split at h
 ·split at h
  ·split at h
   ·split at h
    ·cases h;exact Nat.le_refl _
    ·cases h
   ·cases h
  ·cases h
 ·cases h
theorem uS{P:Program}{s s1:St}{t:TypeId}{m k:Value}(h:eW P s t m k=some s1):s.next<=s1.next:=by
 unfold eW at h
 split at h
 ·split at h
  ·split at h
   ·split at h
    ·cases h;exact Nat.le_refl _
    ·cases h;exact Nat.le_refl _
    ·cases h
   ·cases h
  ·cases h
 ·cases h
theorem uT{P:Program}{s s1:St}{t u:TypeId}{d x v:Value}(h:cS P s t u d x=some (v,s1)):s.next<=s1.next:=by
 unfold cS at h
 split at h
 ·split at h
  ·split at h
   ·split at h
    ·cases h;exact Nat.le_refl _
    ·split at h
     ·split at h
      ·dsimp only at h
       split at h
       ·cases h;exact Nat.le_succ _
       ·split at h
        ·split at h
         ·split at h
          ·cases h;exact Nat.le_succ _
          ·cases h
         ·cases h
        ·split at h
         ·cases h;exact Nat.le_succ _
         ·cases h
      ·cases h
     ·cases h
   ·cases h
  ·cases h
 ·cases h
theorem zv{P:Program}{a:Act}{c:Call}{ty:TypeId}{s s1:St}{n:Next}(h:mJ P a c ty s=some (n,s1)):s.next<=s1.next:=by
 unfold mJ at h
 split at h
 ·split at h
  ·split at h
   ·split at h
    ·cases h;exact Nat.le_refl _
    ·cases h
   ·split at h
    ·exact de P _ _ _ _ h
    ·cases h
   ·cases h
  ·split at h
   ·split at h
    ·split at h
     ·cases h;exact Nat.le_refl _
     ·cases h
    ·cases h
   ·cases h
  ·split at h
   ·exact cT h
   ·split at h
    ·exact cT h
    ·cases h
   ·split at h
    ·exact cT h
    ·unfold sv at h
     rw[Option.map_eq_some_iff]at h;obtain⟨⟨v,s2⟩,h1,h2⟩:=h;cases h2;exact uT h1
   ·exact cT h
   ·rw[Option.map_eq_some_iff]at h
    obtain⟨s2,h1,h2⟩:=h;cases h2;exact uS h1
   ·cases h
 ·cases h
theorem qP{P:Program}{a:Act}{o:Oper}{s s1:St}{n:Next}(h:bf P a o s=some (n,s1)):s.next<=s1.next:=by
 obtain⟨dst,op,ty,pos,after,guard⟩:=o;cases op with
 | move x =>
  simp only[bf]at h
  split at h
  ·cases h;exact Nat.le_refl _
  ·cases h
 | assign x =>
  simp only[bf]at h
  split at h
  ·cases h;exact Nat.le_refl _
  ·cases h
 | pick c x y =>
  simp only[bf]at h
  split at h
  ·split at h
   ·cases h;exact Nat.le_refl _
   ·cases h
  ·cases h
 | store t x y =>
  simp only[bf]at h
  split at h
  ·exact Ia h
  ·cases h
 | nilCheck x =>
  simp only[bf]at h
  split at h
  ·split at h
   ·cases h;exact Nat.le_refl _
   ·cases h;exact Nat.le_refl _
   ·cases h;exact Nat.le_refl _
   ·cases h
  ·cases h
 | binOp op t x y yt =>
  simp only[bf]at h
  split at h
  ·rename_i r hf
   cases h;exact ku hf
  ·split at h
   ·split at h
    ·split at h
     ·cases h;exact Nat.le_refl _
     ·cases h;exact Nat.le_refl _
     ·cases h
    ·unfold D0 at h
     rw[Option.map_eq_some_iff]at h;obtain⟨r,hb,hh⟩:=h;cases hh;exact Nat.le_refl _
   ·cases h
 | unOp op t x =>
  simp only[bf]at h
  split at h
  ·rename_i r hf
   cases h;exact ku hf
  ·split at h
   ·unfold D1 at h
    rw[Option.map_eq_some_iff]at h;obtain⟨r,hb,hh⟩:=h;cases hh;exact Nat.le_refl _
   ·cases h
 | convert t u x =>
  simp only[bf]at h
  split at h
  ·rename_i r hf
   cases h;exact ku hf
  ·split at h
   ·unfold zt at h
    split at h
    ·rw[Option.map_eq_some_iff]at h
     obtain⟨r,hb,hh⟩:=h;cases hh;exact Nat.le_refl _
    ·cases h
   ·cases h
 | makeFunc fn first captured =>
  cases fn with
  | func f =>
   simp only[bf]at h
   split at h
   ·cases h;exact Nat.le_refl _
   ·cases h
  | _=>simp[bf]at h
 | makeMap t r =>
  cases r with
  | none =>
   simp only[bf]at h;exact cT h
  | some x =>
   simp only[bf]at h
   split at h
   ·exact cT h
   ·cases h
 | slice t x lo hi mx =>
  simp only[bf]at h
  split at h
  ·split at h
   ·rename_i v s2 hrun
    split at h
    ·cases h;exact de P _ _ _ _ hrun
    ·cases h
   ·cases h
  ·cases h
 | lookup t m k ok =>
  simp only[bf]at h
  split at h
  ·unfold sv at h
   rw[Option.map_eq_some_iff]at h;obtain⟨⟨v,s2⟩,h1,h2⟩:=h;cases h2;exact uR h1
  ·cases h
 | mapUpdate t m k v =>
  simp only[bf]at h
  split at h
  ·rw[Option.map_eq_some_iff]at h
   obtain⟨s2,h1,h2⟩:=h;cases h2;exact nU h1
  ·cases h
 | insert t m k v =>
  simp only[bf]at h
  split at h
  ·rw[Option.map_eq_some_iff]at h
   obtain⟨s2,h1,h2⟩:=h;cases h2;exact nU h1
  ·cases h
 | mapEntry t m k =>
  simp only[bf]at h
  split at h
  ·unfold sv at h
   rw[Option.map_eq_some_iff]at h;obtain⟨⟨v,s2⟩,h1,h2⟩:=h;cases h2;exact wZ h1
  ·cases h
 | entryStore t m st v =>
  simp only[bf]at h
  split at h
  ·rw[Option.map_eq_some_iff]at h
   obtain⟨s2,h1,h2⟩:=h;cases h2;exact w_ h1
  ·cases h
 | call c =>
  simp only[bf]at h
  split at h
  ·rename_i r hf
   cases h;exact ku hf
  ·exact zv h
 | alloc t =>
  simp only[bf]at h
  split at h
  ·exact cT h
  ·cases h
 | box t x =>
  simp only[bf]at h
  split at h
  ·exact cT h
  ·cases h
 | build t ps =>
  simp only[bf]at h
  split at h
  ·exact cT h
  ·cases h
 | buildSlice t k ps =>
  simp only[bf]at h
  split at h
  ·exact cT h
  ·cases h
 | load t x =>
  simp only[bf]at h
  split at h
  ·exact cT h
  ·cases h
 | makeInterface t x =>
  simp only[bf]at h
  split at h
  ·exact cT h
  ·cases h
 | makeSlice t l c =>
  simp only[bf]at h
  split at h
  ·exact cT h
  ·cases h
 | fieldAddr t x f =>
  simp only[bf]at h
  split at h
  ·exact cT h
  ·cases h
 | field t x f =>
  simp only[bf]at h
  split at h
  ·exact cT h
  ·cases h
 | indexAddr t x i =>
  simp only[bf]at h
  split at h
  ·exact cT h
  ·cases h
 | index t x i =>
  simp only[bf]at h
  split at h
  ·exact cT h
  ·cases h
 | range t x =>
  simp only[bf]at h
  split at h
  ·exact cT h
  ·cases h
 | next x str =>
  simp only[bf]at h
  split at h
  ·exact cT h
  ·cases h
 | entry x =>
  simp only[bf]at h
  split at h
  ·exact cT h
  ·cases h
 | typeAssert x t u ok =>
  simp only[bf]at h
  split at h
  ·exact cT h
  ·cases h
 | extract x i =>
  simp only[bf]at h
  split at h
  ·exact cT h
  ·cases h
 | _=>simp[bf]at h
structure Goes(P:Program)(base:Nat->Prop)(ι κ:am)(s s1:St)(w w1:World):Prop where
 rep:dA P base κ s1.look w1
 ext:∀ id,(id<4*s.next\/4*s1.next<=id)->κ id=ι id
 below:Out base w w1
def d8(ι:am)(s s1:St):Prop:=∀ id,4*s.next<=id->id<4*s1.next->ι id=none
theorem Goes.le{P:Program}{base:Nat->Prop}{ι κ:am}{s s1:St}{w w1:World}(h:Goes P base ι κ s s1 w w1)(hf:d8 ι s s1):jf ι κ:=by
 intro id b hb
 by_cases hx:id<4*s.next\/4*s1.next<=id
 ·rw[h.ext id hx];exact hb
 ·rw[hf id (by omega) (by omega)]at hb;cases hb
theorem Goes.trans{P:Program}{base:Nat->Prop}{ι κ μ:am}{s s1 s2:St}{w w1 w2:World}(h:Goes P base ι κ s s1 w w1)(k:Goes P base κ μ s1 s2 w1 w2)(n1:s.next<=s1.next)(n2:s1.next<=s2.next):Goes P base ι μ s s2 w w2 :=
 ⟨k.rep,λid hx=>by rw[k.ext id (by omega),h.ext id (by omega)],h.below.trans k.below⟩
theorem Goes.refl{P:Program}{base:Nat->Prop}{ι:am}{s:St}{w:World}(h:dA P base ι s.look w):Goes P base ι ι s s w w:=⟨h,λ_ _=>rfl,Out.refl _ _⟩
theorem d8.left{ι:am}{s s1 s2:St}(h:d8 ι s s2)(n:s1.next<=s2.next):d8 ι s s1:=λid a b=>h id a (by omega)
theorem d8.right{P:Program}{base:Nat->Prop}{ι κ:am}{s s1 s2:St}{w w1:World}(h:d8 ι s s2)(g:Goes P base ι κ s s1 w w1)(n:s.next<=s1.next):d8 κ s1 s2:=λid a b=>by rw[g.ext id (by omega)];exact h id (by omega) b
theorem iq{ι:am}{a A:Act}{v v':Value}(h:cn ι a A)(hv:ao ι v v')(d:Option Tmp):cn ι (a.put d v) (A.put d v'):=by
 cases d with
 | none=>exact h
 | some d=>exact⟨f7 h.tmps hv d,h.H6⟩
theorem cn.mono{ι κ:am}(hk:jf ι κ){a A:Act}(h:cn ι a A):cn κ a A:=⟨h.tmps.mono hk,h.H6.mono hk⟩
end Go.Ev
namespace Go.Ev
open Go.RowKit
variable[bg]
theorem xa{ι:am}{a A:Act}(h:cn ι a A)(ops:Array Oper)(j:Nat):yielded ops A.tmps j=yielded ops a.tmps j:=by
 unfold yielded;cases (ops[j]?).bind (·.dst) with
 | none=>rfl
 | some t =>
  dsimp only[Option.bind];rcases h.tmps.get t with ⟨e1,e2⟩ | ⟨v,v',e1,e2,hv⟩
  ·rw[e1,e2]
  ·rw[e1,e2]
   cases hv with
   | sym n m _ hh =>
    have hl:=bg.leaf n;rw[hh]at hl;cases v'<;>first | rfl | cases hl
   | dyn id c _ h hh =>
    have hl:=nI c;rw[hh]at hl;cases v'<;>first | rfl | cases hl
   | junk n _ hl=>cases v'<;>first | rfl | cases hl
   | qD id c j _ h hh =>
    have hl:=oW j (dec c);rw[hh]at hl;cases v'<;>first | rfl | cases hl
   | _=>rfl
theorem qQ{ι:am}{a A:Act}(h:cn ι a A)(ops:Array Oper)(o:Oper):Region.wanted o (yielded ops A.tmps)=Region.wanted o (yielded ops a.tmps):=by
 have:yielded ops A.tmps=yielded ops a.tmps:=funext (xa h ops);rw[this]
theorem zw{P:Program}{base:Nat->Prop}{ι:am}{v v':Value}(h:ao ι v v') :
  aq P base (λκ a a'=>∃ id off b,a=⟨id,off,none⟩/\a'=⟨b,off,none⟩/\κ id=some b) ι (Go.asAddr v) (Go.asAddr v'):=by
 cases h with
 | ptr id off b h=>exact aq.ret ⟨id,off,b,rfl,rfl,h⟩
 | oX =>
  show aq P base _ ι (Go.runtimePanic .nilDeref) _;exact aq.panics
 | _=>exact aq.halt
theorem uU{ι:am}{f f':Array Value}(h:bN ι f f')(t:Nat):ao ι (f.getD t undef) (f'.getD t undef):=by
 rw[Array.getD_eq_getD_getElem?,Array.getD_eq_getD_getElem?];rcases h.get t with ⟨e1,e2⟩ | ⟨v,v',e1,e2,hv⟩
 ·rw[e1,e2];exact eV ι
 ·rw[e1,e2];exact hv
theorem pP{P:Program}{base:Nat->Prop}{ι:am}{f f':Array Value}(fn:Func)(h:bN ι f f'):aq P base VV ι (results fn f) (results fn f'):=by
 unfold results;refine aq.bnd (R:=bN) ?_ (λκ vs vs' hle hv=>?_)
 ·rw[Array.mapM_eq_mapM_toList,Array.mapM_eq_mapM_toList]
  refine aq.bnd (R:=dL) ?_ (λκ l l' _ hl=>aq.ret ⟨by simpa using hl.1,λi v v' a b=>hl.2 i v v' (by simpa using a) (by simpa using b)⟩);generalize fn.results.toList=rs
  induction rs generalizing ι with
  | nil=>exact aq.ret ⟨rfl,λi v v' h=>by simp at h⟩
  | cons r rs ih =>
   rw[List.mapM_cons,List.mapM_cons];refine aq.bnd (R:=VV) ?_ (λκ v v' hle hv=>?_)
   ·cases r with
    | tmp t=>exact aq.ret (uU h t)
    | cell a t =>
     refine aq.bnd (zw (uU h a)) (λκ x x' _ hx=>?_);obtain⟨id,off,b,rfl,rfl,hb⟩:=hx;exact pK t hb
   ·refine aq.bnd (ih (h.mono hle)) (λκ2 l l' hle2 hl=>aq.ret ⟨by simp[hl.1],λi x x' a b=>?_⟩)
    match i with
    | 0=>simp at a b;subst a b;exact hv.mono hle2
    | i+1=>exact hl.2 i x x' (by simpa using a) (by simpa using b)
 ·refine aq.ret ?_
  by_cases h1:vs.size=1
  ·have h1':vs'.size=1:=by rw[← hv.1];exact h1
   rw[dif_pos h1,dif_pos h1'];exact hv.2 0 _ _ (Array.getElem?_eq_getElem (by omega)) (Array.getElem?_eq_getElem (by omega))
  ·have h1':¬ vs'.size=1:=by rw[← hv.1];exact h1
   rw[dif_neg h1,dif_neg h1'];exact .tuple _ _ hv.1 hv.2
def Still{α:Type}(P:Program)(m:Sem α):Prop:=∀ w v w1,m.run P w=.ok v w1->w1=w
theorem Still.ret{α:Type}{P:Program}(a:α):Still P (Pure.pure a:Sem α):=by
 intro w v w1 h;cases h;rfl
theorem Still.bnd{α β:Type}{P:Program}{m:Sem α}{f:α->Sem β}(h:Still P m)(hf:∀ a,Still P (f a)):Still P (m >>= f):=by
 intro w v w1 hr;rw[Sem.run_bind]at hr;cases hm:m.run P w with
 | ok a w2 =>
  rw[hm]at hr;rw[hf a w2 v w1 hr,h w a w2 hm]
 | halt x w2=>rw[hm]at hr;cases hr
theorem Still.halt{α:Type}{P:Program}{x:Halt} : Still P (Sem.halt x:Sem α):=by
 intro w v w1 h;cases h
theorem qR{P:Program}(a:Addr):Still P (Go.load a):=by
 intro w v w1 h;unfold Go.load at h;simp only[Sem.run]at h
 split at h
 ·cases h;rfl
 ·split at h
  ·cases h;rfl
  ·cases h
theorem qS{P:Program}(t:TypeId):Still P (Go.typeInfo t):=by
 intro w v w1 h;unfold Go.typeInfo at h;have h':(match P.info? t with | some i=>(Pure.pure i:Sem TypeInfo) | none=>Go.stuck "no such type").run P w=.ok v w1:=h
 split at h'
 ·cases h';rfl
 ·cases h'
theorem o8{P:Program}(t:TypeId):Still P (Go.underlying t):=by
 intro w v w1 h;unfold Go.underlying at h;have h':(match P.underlying t with | some i=>(Pure.pure i:Sem TypeDesc) | none=>Go.stuck "no such type").run P w=.ok v w1:=h
 split at h'
 ·cases h';rfl
 ·cases h'
theorem qd{P:Program}(a:Addr):∀ (n i:Nat) (acc:Array Value),Still P (Go.loadCellsFrom a i n acc):=by
 intro n
 induction n with
 | zero=>intro i acc;exact Still.ret _
 | succ n ih=>intro i acc;exact Still.bnd (qR _) (λv=>ih _ _)
theorem sU{P:Program}(t:TypeId)(a:Addr):Still P (Go.loadVar t a):=by
 unfold Go.loadVar Go.isAgg;refine Still.bnd (Still.bnd (o8 t) (λd=>?_)) (λb=>?_)
 ·split<;>exact Still.ret _
 ·split
  ·exact Still.bnd (Still.bnd (qS t) (λi=>Still.ret _)) (λn=>Still.bnd (qd _ _ _ _) (λc=>Still.ret _))
  ·exact qR a
theorem uV{P:Program}(v:Value):Still P (Go.asAddr v):=by
 cases v with
 | pointer a =>
  cases a with
  | some a=>exact Still.ret _
  | none =>
   intro w v w1 h;cases h
 | _=>exact Still.halt
theorem mK{P:Program}(fn:Func)(f:Array Value):Still P (results fn f):=by
 unfold results;refine Still.bnd ?_ (λvs=>Still.ret _);rw[Array.mapM_eq_mapM_toList];refine Still.bnd ?_ (λl=>Still.ret _);generalize fn.results.toList=rs
 induction rs with
 | nil=>exact Still.ret _
 | cons r rs ih =>
  rw[List.mapM_cons];refine Still.bnd ?_ (λv=>Still.bnd ih (λl=>Still.ret _));cases r with
  | tmp t=>exact Still.ret _
  | cell a t=>exact Still.bnd (uV _) (λx=>sU t x)
end Go.Ev
