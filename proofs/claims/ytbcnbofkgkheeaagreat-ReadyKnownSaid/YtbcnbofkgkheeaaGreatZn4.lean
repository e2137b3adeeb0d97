/- Part of a proof: see the last text. -/
import Derived.Test.YtbcnbofkgkheeaaGreatZn3
import Derived.LoopN
import Derived.Scope
set_option linter.unusedSectionVars false
set_option linter.unusedSimpArgs false
set_option linter.unusedVariables false
namespace Go.Ev
open Go.RowKit
variable[aP]
theorem wY{ι:ag}{a A:Act}(h:bQ ι a A){xs:Array Operand}(hx:∀ x ∈ xs.toList,aZ x=true):bh ι (evs a xs) (xs.map A.eval):=by
 refine⟨by simp[evs],λi v v' h1 h2=>?_⟩;unfold evs at h1;rw[Array.getElem?_map,Option.map_eq_some_iff]at h1 h2;obtain⟨x,x1,rfl⟩:=h1;obtain⟨y,y1,rfl⟩:=h2;rw[x1]at y1;cases y1;exact aE h x (hx x (by rw[Array.mem_toList_iff];exact Array.mem_of_getElem? x1))
theorem DY{ι:ag}{a A:Act}(h:bQ ι a A){ps:Array (Nat×Operand)}(hx:bg (ps.toList.map (·.2))=true):zn ι (Pj a ps).toList (ps.map λ(i,x)=>(i,A.eval x)).toList:=by
 refine⟨by simp[Pj],λi v v' h1 h2=>?_⟩;unfold Pj at h1;rw[Array.getElem?_toList,Array.getElem?_map,Option.map_eq_some_iff]at h1 h2;obtain⟨x,x1,rfl⟩:=h1;obtain⟨y,y1,rfl⟩:=h2;rw[x1]at y1;cases y1;refine⟨rfl,aE h x.2 ?_⟩;unfold bg at hx;rw[List.all_eq_true]at hx;exact hx x.2 (List.mem_map.2 ⟨x,by rw[Array.mem_toList_iff];exact Array.mem_of_getElem? x1,rfl⟩)
theorem B8{ι:ag}{a A:Act}(h:bQ ι a A){x:Option Operand}(hx:bg x.toList=true):kf ι (x.map a.eval) (x.map A.eval):=by
 cases x with
 | none=>trivial
 | some x=>exact aE h x (by simpa[bg] using hx)
theorem jy{P:Program}{base:Nat->Prop}{ι:ag}{a A:Act}{o:Oper}{s s1:St}{w:World}{n:Next}(hA:bQ ι a A)(hr:dg P base ι s.look w)(h:fY P a o s=some (n,s1)):gx P base ι s s1 w n (execOp A.eval o):=by
 unfold fY at h
 split at h
 ·rename_i hc
  simp only[Bool.and_eq_true,List.all_eq_true]at hc;obtain⟨hf,hops⟩:=hc
  split at h
  ·rename_i v hq
   split at h
   ·rename_i hv
    cases h;have Rv:execOp A.eval o=execOp a.eval o:=by
     refine execOp_congr o ?_ ?_
     ·intro cs b e
      rw[e]at hf;cases hf
     ·intro x hx
      have:=hops x (by rw[Array.mem_toList_iff];exact hx);exact Mi 5 _ _ this.2 (aE hA x this.1)
    rw[Rv];exact gx.d9 hr (G2 _ _ hq w) (iT ι 5 v hv)
   ·cases h
  ·cases h
 ·cases h
theorem FB{x y:Operand}(h:bg [x,y]=true):aZ x=true/\aZ y=true:=by simpa[bg] using h
theorem Tf{x y z:Operand}(h:bg [x,y,z]=true):aZ x=true/\aZ y=true/\aZ z=true:=by simpa[bg] using h
theorem gx.vJ{P:Program}{base:Nat->Prop}{ι:ag}{s s1:St}{w w1:World}{n n':Next}{m':Sem Next}(h:m'.run P w=.ok n' w1)(hr:dg P base ι s1.look w1)(hn:Mj P ι n n')(hb:Out base w w1):gx P base ι s s1 w n m' :=
 ⟨ι,n',w1,h,hr,λ_ _=>rfl,hn,hb⟩
theorem oU(c:Call)(h:bg c.operands.toList=true):∀ x ∈ c.args.toList,aZ x=true:=by
 intro x hx;unfold bg at h;rw[List.all_eq_true]at h;refine h x ?_;unfold Call.operands;rw[Array.toList_append];exact List.mem_append_right _ hx
theorem zz{P:Program}{base:Nat->Prop}{ι:ag}{a A:Act}{o:Oper}{c:Call}{s s1:St}{w:World}{n:Next}(ho:o.op=.call c)(hA:bQ ι a A)(hr:dg P base ι s.look w)(h:nL P a c o.type s=some (n,s1))
    (hfr:∀ id,4*s.next<=id->id<4*s1.next->ι id=none):gx P base ι s s1 w n (execOp A.eval o):=by
  have hex:execOp A.eval o=(do let d ← resolve A.eval c o.type;invoke d.target d.args):=by
    unfold execOp;rw[ho]
  rw[hex];unfold nL at h
  split at h
  · rename_i hok
    have hargs:=wY hA (oU c hok)
    split at h
    · rename_i f cY
      have hfo:aZ f=true:=by
        unfold bg at hok;rw[List.all_eq_true]at hok;exact hok f (by simp[Call.operands,cY])
      have hv:=aE hA f hfo
      split at h
      · rename_i g first captured hg
        split at h
        · rename_i hfn
          cases h;rw[hg]at hv;generalize Rw:A.eval f=Af at hv;cases hv with
          | func _ _ f' _ c' hy hf hc h1 h2 =>
            refine gx.d9 hr (n':=.enter g ((f'++c.args.map A.eval)++c')) ?_ ⟨rfl,(bh.append (bh.append ⟨hf,h1⟩ hargs) ⟨hc,h2⟩)⟩;have hres:resolve A.eval c o.type=(Deferred.ofValue (A.eval f) (c.args.map A.eval)):=by
              unfold resolve;rw[cY]
            rw[hres,Rw];exact kL hfn _ w
        · cases h
      · rename_i l first captured hg
        split at h
        · rename_i he
          rw[Bool.and_eq_true,Array.isEmpty_iff,Array.isEmpty_iff]at he;obtain⟨rfl,rfl⟩:=he;rw[hg]at hv;generalize Rw:A.eval f=Af at hv;have hres:resolve A.eval c o.type=(Deferred.ofValue (A.eval f) (c.args.map A.eval)):=by
            unfold resolve;rw[cY]
          have hb:∃ b,Af=.func (.yield b) #[] #[]/\ι l=some b:=by
            cases hv with
            | yield _ b hb=>exact⟨b,rfl,hb⟩
            | func _ _ f' _ c' hy hf hc h1 h2=>exact(hy l rfl).elim
          obtain⟨b,rfl,hb⟩:=hb;have hd:(do let d ← resolve A.eval c o.type;invoke d.target d.args)=Instr.yield b (c.args.map A.eval):=by
            rw[hres,Rw];show Instr.yield b (#[]++c.args.map A.eval)=_;rw[Array.empty_append]
          rw[hd];obtain⟨κ,n',w1,r1,r2,r3,r4,r5⟩:=FM (P:=P) (base:=base) hb hargs s w n s1 hr h hfr;exact⟨κ,n',w1,r1,r2,r3,r4,r5⟩
        · cases h
      · cases h
    · rename_i r name cY
      have hfo:aZ r=true:=by
        unfold bg at hok;rw[List.all_eq_true]at hok;exact hok r (by simp[Call.operands,cY])
      have hv:=aE hA r hfo
      split at h
      · rename_i t v hg
        split at h
        · rename_i f hm
          split at h
          · rename_i hfn
            cases h;rw[hg]at hv;generalize Rw:A.eval r=Af at hv;cases hv with
            | iface _ _ v' hvv =>
              have hone:bh ι #[v] #[v']:=by
                refine⟨rfl,λi x x' h1 h2=>?_⟩
                match i with
                | 0=>simp at h1 h2;subst h1 h2;exact hvv
                | i+1=>simp at h1
              refine gx.d9 hr (n':=.enter f (#[v']++c.args.map A.eval)) ?_ ⟨rfl,hone.append hargs⟩;have hm':oT P t v' name=some f:=hm;have hres:resolve A.eval c o.type=pure { target:=.fn (.method name) #[],args:=#[A.eval r]++c.args.map A.eval }:=by
                unfold resolve;rw[cY]
              rw[hres,Rw];show(invoke (.fn (.method name) #[]) (#[.iface t v']++c.args.map A.eval)).run P w=_;have hget:(#[Value.iface t v']++c.args.map A.eval)[0]? = some (.iface t v'):=by rw[Array.getElem?_append_left (by simp)];rfl
              have hext:(#[Value.iface t v']++c.args.map A.eval).extract 1 (#[Value.iface t v']++c.args.map A.eval).size=c.args.map A.eval:=by
                apply Array.ext';simp;rw[List.take_of_length_le (by simp)]
              unfold invoke;simp only[hget,hext];unfold callMethod;show((do let p ← Go.program;let (f,receiver) ← method (p.types.size+Made.depth) t v' name;callFunc f (#[receiver]++c.args.map A.eval)):Sem Next).run P w=_;show((do let (f,receiver) ← method (P.types.size+Made.depth) t v' name;callFunc f (#[receiver]++c.args.map A.eval)):Sem Next).run P w=_;have hpos:0<Made.depth:=by decide
              obtain⟨k,hk⟩:∃ k,P.types.size+Made.depth=k+1:=⟨P.types.size+(Made.depth-1),by omega⟩;rw[hk,Sem.run_bind,B6 hm'];exact kL hfn _ w
          · cases h
        · cases h
      · cases h
    · rename_i b cY
      obtain⟨cs,hres⟩:∃ cs,resolve A.eval c o.type=pure { target:=.builtin b c.argTypes o.type cs,args:=c.args.map A.eval }:=by
        unfold resolve;rw[cY];exact⟨_,rfl⟩
      have hx2:(do let d ← resolve A.eval c o.type;invoke d.target d.args)=builtin b c.argTypes o.type cs (c.args.map A.eval):=by
        rw[hres];rfl
      rw[hx2];clear hx2 hres hex;have key1:∀ x t,c.args.toList=[x]->c.argTypes.toList=[t]->c.args.map A.eval = #[A.eval x]/\c.argTypes = #[t]/\aZ x=true:=by
        intro x t h1 h2;have e1:c.args = #[x]:=Array.ext' h1;refine⟨by rw[e1];simp,Array.ext' h2,oU c hok x (by rw[h1];simp)⟩
      have key2:∀ x y t u,c.args.toList=[x,y]->c.argTypes.toList=[t,u]->c.args.map A.eval = #[A.eval x,A.eval y]/\c.argTypes = #[t,u]/\aZ x=true/\aZ y=true:=by
        intro x y t u h1 h2;have e1:c.args = #[x,y]:=Array.ext' h1;refine⟨by rw[e1];simp,Array.ext' h2,oU c hok x (by rw[h1];simp),oU c hok y (by rw[h1];simp)⟩
      split at h
      · rename_i x t h1 h2
        obtain⟨e1,e2,e3⟩:=key1 x t h1 h2;rw[e1,e2];have hb:builtin .len #[t] o.type cs #[A.eval x]=(do pure (Next.value (← Builtin.len_ #[t] o.type #[A.eval x]))):=rfl;rw[hb];exact gx.dz (Mn t o.type (aE hA x e3)) hr h hfr
      · rename_i x t h1 h2
        obtain⟨e1,e2,e3⟩:=key1 x t h1 h2;rw[e1,e2];have hb:builtin .cap #[t] o.type cs #[A.eval x]=(do pure (Next.value (← Builtin.cap_ #[t] o.type #[A.eval x]))):=rfl;rw[hb]
        split at h
        · rename_i hcap
          exact gx.dz (Mp t o.type (aE hA x e3) hcap) hr h hfr
        · cases h
      · rename_i x y t u h1 h2
        obtain⟨e1,e2,e3,e4⟩:=key2 x y t u h1 h2;rw[e1,e2];have hb:builtin .append #[t,u] o.type cs #[A.eval x,A.eval y]=(do pure (Next.value (← Builtin.append_ #[t,u] o.type #[A.eval x,A.eval y]))):=rfl;rw[hb]
        split at h
        · rename_i hin
          exact gx.dz (wV t u o.type (aE hA x e3) (aE hA y e4) hin) hr h hfr
        · unfold sv at h
          rw[Option.map_eq_some_iff]at h;obtain⟨⟨v,s2⟩,g1,g2⟩:=h;cases g2;obtain⟨κ,v',w1,r1,r2,r3,r4,r5⟩:=u4 (ty:=o.type) hr (aE hA x e3) (aE hA y e4) g1 hfr;exact⟨κ,.value v',w1,by rw[Sem.run_bind,r1];rfl,r2,r3,r4,r5⟩
      · rename_i x y t u h1 h2
        obtain⟨e1,e2,e3,e4⟩:=key2 x y t u h1 h2;rw[e1,e2];have hb:builtin .copy #[t,u] o.type cs #[A.eval x,A.eval y]=(do pure (Next.value (← Builtin.copy_ #[t,u] o.type #[A.eval x,A.eval y]))):=rfl;rw[hb];exact gx.dz (G6 t u o.type (aE hA x e3) (aE hA y e4)) hr h hfr
      · rename_i x y t u h1 h2
        obtain⟨e1,e2,e3,e4⟩:=key2 x y t u h1 h2;rw[e1,e2];rw[Option.map_eq_some_iff]at h;obtain⟨s2,g1,g2⟩:=h;cases g2;obtain⟨w1,r1,r2,r3,r4⟩:=u0 (ty:=o.type) (kk:=u) hr (aE hA x e3) (aE hA y e4) g1;have hb:builtin .delete #[t,u] o.type cs #[A.eval x,A.eval y]=(do pure (Next.value (← Builtin.delete_ #[t,u] o.type #[A.eval x,A.eval y]))):=rfl;rw[hb];exact gx.vJ (n':=.value (.tuple #[])) (by rw[Sem.run_bind,r1];rfl) r2 (e9 ι) r3
      · cases h
  · cases h
theorem jz{P:Program}{base:Nat->Prop}{ι:ag}{a A:Act}{o:Oper}{s s1:St}{w:World}{n:Next}(hA:bQ ι a A)(hr:dg P base ι s.look w)(h:aU P a o s=some (n,s1))
    (hfr:∀ id,4*s.next<=id->id<4*s1.next->ι id=none):gx P base ι s s1 w n (execOp A.eval o):=by
  obtain⟨dst,op,ty,pos,after,guard⟩:=o;cases op with
  | move x =>
    simp only[aU]at h
    split at h
    · rename_i hx;cases h;exact gx.d9 hr (n':=.value (A.eval x)) rfl (aE hA x hx)
    · cases h
  | assign x =>
    simp only[aU]at h
    split at h
    · rename_i hx;cases h;exact gx.d9 hr (n':=.value (A.eval x)) rfl (aE hA x hx)
    · cases h
  | pick c x y =>
    simp only[aU]at h
    split at h
    · rename_i hx
      obtain⟨h1,h2,h3⟩:=Tf hx;have hc:=aE hA c h1
      split at h
      · rename_i b hb
        cases h;rw[hb]at hc;generalize TJ:A.eval c=Ac at hc;cases hc;refine gx.d9 hr (n':=.value (if b then A.eval x else A.eval y)) ?_ ?_
        · show(do pure (Next.value (if ← asBool (A.eval c) then A.eval x else A.eval y)):Sem Next).run P w=_
          rw[TJ];rfl
        · cases b
          · exact aE hA y h3
          · exact aE hA x h2
      · cases h
    · cases h
  | alloc t =>
    simp only[aU]at h
    split at h
    · rename_i hz;exact gx.dz (FC t hz) hr h hfr
    · cases h
  | box t x =>
    simp only[aU]at h
    split at h
    · rename_i hx;exact gx.dz (Mm t (aE hA x hx)) hr h hfr
    · cases h
  | build t ps =>
    simp only[aU]at h
    split at h
    · rename_i hx
      rw[Bool.and_eq_true]at hx;exact gx.dz (FG t hx.1 (DY hA hx.2)) hr h hfr
    · cases h
  | buildSlice t k ps =>
    simp only[aU]at h
    split at h
    · rename_i hx
      rw[Bool.and_eq_true,Bool.and_eq_true]at hx;exact gx.dz (sN t k hx.1.1 hx.1.2 (DY hA hx.2)) hr h hfr
    · cases h
  | load t x =>
    simp only[aU]at h
    split at h
    · rename_i hx;exact gx.dz (B0 t (aE hA x hx)) hr h hfr
    · cases h
  | store t x y =>
    simp only[aU]at h
    split at h
    · rename_i hx
      obtain⟨h1,h2⟩:=FB hx;exact gx.Mq (zh t (aE hA x h1) (aE hA y h2)) hr h hfr
    · cases h
  | nilCheck x =>
    simp only[aU]at h
    split at h
    · rename_i hx
      have hv:=aE hA x hx
      split at h
      · rename_i b hb
        cases h;have hv2:=hv;rw[hb]at hv;generalize hAx:A.eval x=Ax at hv;refine gx.d9 hr (n':=.value (A.eval x)) ?_ hv2;cases hv;simp only[execOp,hAx];rfl
      · rename_i f g c hb
        cases h;have hv2:=hv;rw[hb]at hv;generalize hAx:A.eval x=Ax at hv;refine gx.d9 hr (n':=.value (A.eval x)) ?_ hv2;cases hv;simp only[execOp,hAx];rfl
      · rename_i t v hb
        cases h;have hv2:=hv;rw[hb]at hv;generalize hAx:A.eval x=Ax at hv;refine gx.d9 hr (n':=.value (A.eval x)) ?_ hv2;cases hv;simp only[execOp,hAx];rfl
      · cases h
    · cases h
  | binOp op t x y yt =>
    simp only[aU]at h
    split at h
    · rename_i r hf
      cases h;exact jy hA hr hf
    · split at h
      · rename_i hok
        obtain⟨h1,h2⟩:=FB hok
        split at h
        · rename_i hc
          have hn:=FN (P:=P) (ox:=x) (oy:=y) (B4 (aE hA x h1) (aE hA y h2) hc) w
          split at h
          · cases h
            refine gx.d9 hr (n':=.value (.bool false)) ?_ (.bool false);show(do pure (Next.value (← (do eqGuard .eql t x y (A.eval x) (A.eval y);binOp .eql t (A.eval x) (A.eval y)))):Sem Next).run P w=_;rw[Sem.run_bind,hn.1];rfl
          · cases h
            refine gx.d9 hr (n':=.value (.bool true)) ?_ (.bool true);show(do pure (Next.value (← (do eqGuard .neq t x y (A.eval x) (A.eval y);binOp .neq t (A.eval x) (A.eval y)))):Sem Next).run P w=_;rw[Sem.run_bind,hn.2];rfl
          · cases h
        · unfold G9 at h
          rw[Option.map_eq_some_iff]at h;obtain⟨r,hb,hh⟩:=h;cases hh;obtain⟨k1,k2,k3,k4⟩:=aP.wH _ _ _ _ hb;refine gx.d9 hr (n':=.value (n8 aP.val r)) ?_ (kN k3);show(do pure (Next.value (← (do eqGuard op t x y (A.eval x) (A.eval y);binOp op t (A.eval x) (A.eval y)))):Sem Next).run P w=_;rw[sT (aE hA x h1) k1,sT (aE hA y h2) k2,k4];rfl
      · cases h
  | unOp op t x =>
    simp only[aU]at h
    split at h
    · rename_i r hf
      cases h;exact jy hA hr hf
    · split at h
      · rename_i hx
        unfold G_ at h;rw[Option.map_eq_some_iff]at h;obtain⟨r,hb,hh⟩:=h;cases hh;obtain⟨k1,k3,k4⟩:=aP.wI _ _ _ hb;refine gx.d9 hr (n':=.value (n8 aP.val r)) ?_ (kN k3);show(do pure (Next.value (← Op.unary op (A.eval x))):Sem Next).run P w=_;rw[sT (aE hA x hx) k1,k4];rfl
      · cases h
  | convert t u x =>
    simp only[aU]at h
    split at h
    · rename_i r hf
      cases h;exact jy hA hr hf
    · split at h
      · rename_i hx
        unfold B7 at h
        split at h
        · rename_i k0 k hu1 hu2
          rw[Option.map_eq_some_iff]at h;obtain⟨r,hb,hh⟩:=h;cases hh;obtain⟨k1,k3,kk,nn,k4,k5⟩:=aP.wJ _ _ _ hb;refine gx.d9 hr (n':=.value (n8 aP.val r)) ?_ (kN k3);show(do pure (Next.value (← convert t u (A.eval x))):Sem Next).run P w=_;rw[sT (aE hA x hx) k1,k4,k5];have e:(convert t u (.int kk nn)).run P w=.ok (.int k (k.wrap nn)) w:=by
            unfold convert;rw[Sem.run_bind,bR hu1];dsimp only[Result.andThen];rw[Sem.run_bind,bR hu2];rfl
          rw[Sem.run_bind,e];rfl
        · cases h
      · cases h
  | makeInterface t x =>
    simp only[aU]at h
    split at h
    · rename_i hx;exact gx.dz (oQ t (aE hA x hx)) hr h hfr
    · cases h
  | makeFunc fn first captured =>
    cases fn with
    | func f =>
      simp only[aU]at h
      split at h
      · rename_i hx
        rw[Bool.and_eq_true]at hx;cases h;have h1:=wY hA (xs:=first) (by have:=hx.1;unfold bg at this;rw[List.all_eq_true]at this;exact this);have h2:=wY hA (xs:=captured) (by have:=hx.2;unfold bg at this;rw[List.all_eq_true]at this;exact this);exact gx.d9 hr (n':=.value (.func (.func f) (first.map A.eval) (captured.map A.eval))) rfl (.func _ _ _ _ _ (by intro l e;cases e) h1.1 h2.1 h1.2 h2.2)
      · cases h
    | _=>simp[aU]at h
  | makeMap t r =>
    cases r with
    | none =>
      simp only[aU]at h;exact gx.dz (rj (r:=none) (r':=none) t trivial) hr h hfr
    | some x =>
      simp only[aU]at h
      split at h
      · rename_i hx;exact gx.dz (rj (r:=some _) (r':=some _) t (aE hA x hx)) hr h hfr
      · cases h
  | makeSlice t l c =>
    simp only[aU]at h
    split at h
    · rename_i hx
      rw[Bool.and_eq_true,Bool.and_eq_true]at hx;obtain⟨h1,h2⟩:=FB hx.2;exact gx.dz (u5 t hx.1.1 hx.1.2 (aE hA l h1) (aE hA c h2)) hr h hfr
    · cases h
  | slice t x lo hi mx =>
    simp only[aU]at h
    split at h
    · rename_i hx
      simp only[Bool.and_eq_true]at hx;obtain⟨⟨⟨⟨⟨g1,g2⟩,g3⟩,g4⟩,g5⟩,g6⟩:=hx
      split at h
      · rename_i v s2 hrun
        split at h
        · rename_i hres
          cases h;obtain⟨κ,v',w1,r1,r2,r3,r4,r5⟩:=zl (P:=P) (base:=base) t (aE hA x g2) (B8 hA g3) (B8 hA g4) (B8 hA g5) g6 g1 s w v s1 hr hrun hfr;refine⟨κ,.value v',w1,?_,r2,r3,r4 hres,r5⟩;show(do pure (Next.value (← Instr.sliceAt t (A.eval x) (lo.map A.eval) (hi.map A.eval) (mx.map A.eval))):Sem Next).run P w=_;rw[Sem.run_bind,r1];rfl
        · cases h
      · cases h
    · cases h
  | fieldAddr t x f =>
    simp only[aU]at h
    split at h
    · rename_i hx
      rw[Bool.and_eq_true]at hx;exact gx.dz (zi t f (aE hA x hx.1) hx.2) hr h hfr
    · cases h
  | field t x f =>
    simp only[aU]at h
    split at h
    · rename_i hx;exact gx.dz (FH t f (aE hA x hx)) hr h hfr
    · cases h
  | indexAddr t x i =>
    simp only[aU]at h
    split at h
    · rename_i hx
      obtain⟨h1,h2⟩:=FB hx;exact gx.dz (zj t (aE hA x h1) (aE hA i h2)) hr h hfr
    · cases h
  | index t x i =>
    simp only[aU]at h
    split at h
    · rename_i hx
      obtain⟨h1,h2⟩:=FB hx;exact gx.dz (FI t (aE hA x h1) (aE hA i h2)) hr h hfr
    · cases h
  | lookup t m k ok =>
    simp only[aU]at h
    split at h
    · rename_i hx
      obtain⟨h1,h2⟩:=FB hx;unfold sv at h;rw[Option.map_eq_some_iff]at h;obtain⟨⟨v,s2⟩,g1,g2⟩:=h;cases g2;obtain⟨v',r1,r2,r3,r4⟩:=uZ hr (aE hA m h1) (aE hA k h2) g1;refine gx.vJ (n':=.value v') (w1:=w) ?_ (by rw[r3];exact hr) r2 (Out.refl _ _);show(do pure (Next.value (← Instr.lookup t (A.eval m) (A.eval k) ok)):Sem Next).run P w=_;rw[Sem.run_bind,r1];rfl
    · cases h
  | mapUpdate t m k v =>
    simp only[aU]at h
    split at h
    · rename_i hx
      obtain⟨h1,h2,h3⟩:=Tf hx;rw[Option.map_eq_some_iff]at h;obtain⟨s2,g1,g2⟩:=h;cases g2;obtain⟨w1,r1,r2,r3,r4⟩:=nJ hr (aE hA m h1) (aE hA k h2) (aE hA v h3) g1;refine gx.vJ (n':=.skip) (w1:=w1) ?_ r2 trivial r3;show(do Instr.mapUpdate t (A.eval m) (A.eval k) (A.eval v);pure .skip:Sem Next).run P w=_;rw[Sem.run_bind,r1];rfl
    · cases h
  | insert t m k v =>
    simp only[aU]at h
    split at h
    · rename_i hx
      obtain⟨h1,h2,h3⟩:=Tf hx;rw[Option.map_eq_some_iff]at h;obtain⟨s2,g1,g2⟩:=h;cases g2;obtain⟨w1,r1,r2,r3,r4⟩:=nJ hr (aE hA m h1) (aE hA k h2) (aE hA v h3) g1;refine gx.vJ (n':=.skip) (w1:=w1) ?_ r2 trivial r3;show(do Instr.mapUpdate t (A.eval m) (A.eval k) (A.eval v);pure .skip:Sem Next).run P w=_;rw[Sem.run_bind,r1];rfl
    · cases h
  | mapEntry t m k =>
    simp only[aU]at h
    split at h
    · rename_i hx
      obtain⟨h1,h2⟩:=FB hx;unfold sv at h;rw[Option.map_eq_some_iff]at h;obtain⟨⟨v,s2⟩,g1,g2⟩:=h;cases g2;obtain⟨v',w1,r1,r2,r3,r4,r5⟩:=wR hr (aE hA m h1) (aE hA k h2) g1;refine gx.vJ (n':=.value v') (w1:=w1) ?_ r3 r2 r4;show(do pure (Next.value (← Instr.mapEntry t (A.eval m) (A.eval k))):Sem Next).run P w=_;rw[Sem.run_bind,r1];rfl
    · cases h
  | entryStore t m st v =>
    simp only[aU]at h
    split at h
    · rename_i hx
      obtain⟨h1,h2,h3⟩:=Tf hx;rw[Option.map_eq_some_iff]at h;obtain⟨s2,g1,g2⟩:=h;cases g2;obtain⟨w1,r1,r2,r3,r4⟩:=wS (t:=t) hr (aE hA m h1) (aE hA st h2) (aE hA v h3) g1;refine gx.vJ (n':=.skip) (w1:=w1) ?_ r2 trivial r3;show(do Instr.entryStore t (A.eval m) (A.eval st) (A.eval v);pure .skip:Sem Next).run P w=_;rw[Sem.run_bind,r1];rfl
    · cases h
  | range t x =>
    simp only[aU]at h
    split at h
    · rename_i hx;exact gx.dz (FJ t (aE hA x hx)) hr h hfr
    · cases h
  | next x str =>
    simp only[aU]at h
    split at h
    · rename_i hx;exact gx.dz (G5 str ty (aE hA x hx)) hr h hfr
    · cases h
  | entry x =>
    simp only[aU]at h
    split at h
    · rename_i hx;exact gx.dz (FK (aE hA x hx)) hr h hfr
    · cases h
  | typeAssert x t u ok =>
    simp only[aU]at h
    split at h
    · rename_i hx
      rw[Bool.and_eq_true]at hx;exact gx.dz (sO t u ok (λe=>by rw[e]at hx;simpa using hx.2) (aE hA x hx.1)) hr h hfr
    · cases h
  | extract x i =>
    simp only[aU]at h
    split at h
    · rename_i hx;exact gx.dz (zr i (aE hA x hx)) hr h hfr
    · cases h
  | call c =>
    simp only[aU]at h
    split at h
    · rename_i r hf
      cases h;exact jy hA hr hf
    · exact zz rfl hA hr h hfr
  | _=>simp[aU]at h
variable[aP]
inductive TK where
 | fn (f:FuncId) (args:Array Value)
 | G' (l:Nat) (tmps:Array Value) (assign body:Code)
abbrev Caller:=TK->St->Option (Value×St)
abbrev Runner:=Option Nat->Code->Act->St->Option (Exit×Act×St)
def jr(g:Nat):Obj:=.view ⟨g,0,none⟩ 0
def u9(q:GQ)(s:St):Option (Value×St) :=
 match s.look 3 with
 | some (.view x _) =>
  match q x.block (4*s.next+3) with
  | some (r,none)=>some (r,s.touch 3 none false)
  | some (r,some g)=>some (r,{ (s.put 3 (some (jr g))).touch 3 none true with next:=s.next+1 })
  | none=>none
 | _=>none
def lM(a:Act)(op:Op):List Value:=op.operands.toList.map a.eval
def zA(sz:Nat)(x:Value)(s:St):Option (Array Value×St) :=
 match bk s sz x with
 | some (c,l)=>some (c,{ s with log:=l++s.log })
 | none=>none
def qg(q:sD)(vals:List Value)(s:St):Option (Value×St) :=
 match q with
 | .now q=>u9 q s
 | .src sz j q =>
  match vals[j]? with
  | some y=>(match zA sz y s with | some (c,s1)=>u9 (q c.toList) s1 | none=>none)
  | none=>none
def sU(q:sD)(a:Act)(o:Oper)(s:St):Option (Value×St):=if bg o.op.operands.toList then qg q (lM a o.op) s else none
def kh(P:Program)(call:Caller)(a:Act)(o:Oper)(s:St):Option (Act×St) :=
 match aP.G0 o.op (lM a o.op) with
 | some q=>(match sU q a o s with | some (v,s1)=>some (a.put o.dst v,s1) | none=>none)
 | none =>
 match aU P a o s with
 | some (.value v,s1)=>some (a.put o.dst v,s1)
 | some (.skip,s1)=>some (a.put o.dst undef,s1)
 | some (.enter f args,s1)=>(match call (.fn f args) s1 with | some (v,s2)=>some (a.put o.dst v,s2) | none=>none)
 | some (.round l _ tmps assign body,s1)=>(match call (.G' l tmps assign body) s1 with | some (v,s2)=>some (a.put o.dst v,s2) | none=>none)
 | _=>none
def lZ(P:Program)(call:Caller)(ops:Array Oper):List Oper->Act->St->Option (Act×St)
 | [],a,s=>some (a,s)
 | o::rest,a,s =>
  if Region.wanted o (yielded ops a.tmps) then
   match kh P call a o s with
   | some (a1,s1)=>lZ P call ops rest a1 s1
   | none=>none
  else lZ P call ops rest (a.put o.dst undef) s
def lN(P:Program)(call:Caller)(ops:Array Oper):List Oper->Act->St->List (List Touch)->Option (Act×St×List (List Touch))
 | [],a,s,ls=>some (a,s,ls)
 | o::rest,a,s,ls =>
  if Region.wanted o (yielded ops a.tmps) then
   match kh P call a o { s with log:=[] } with
   | some (a1,s1)=>lN P call ops rest a1 { s1 with log:=s1.log++s.log } (s1.log::ls)
   | none=>none
  else lN P call ops rest (a.put o.dst undef) s ([]::ls)
def clash(t u:Touch):Bool:=t.id==u.id&&(t.wr||u.wr)&&(match t.at_,u.at_ with | some i,some j=>i==j | _,_=>true)
def clashes(l m:List Touch):Bool:=l.any λt=>m.any λu=>clash t u
def iH(b:Array Nat):List (List Touch)->Nat->Bool
 | [],_=>true
 | l::rest,j=>(l.isEmpty||(rest.zipIdx.all λ(m,k)=>m.isEmpty||(b.getD j 0).testBit (j-1-k) || !clashes l m))&&iH b rest (j-1)
def gT(ops:Array Oper):Bool:=ops.toList.all λo =>
 match o.guard with
 | none=>true
 | some (g,_)=>ops.toList.zipIdx.all λ(p,m)=>m==g||p.dst != (ops[g]?).bind (·.dst)
def fE(P:Program)(call:Caller)(ops:Array Oper)(draw:Bool)(a:Act)(s:St):Option (Act×St) :=
 if draw then
  match lN P call ops ops.toList a s [] with
  | some (a1,s1,ls)=>if gT ops&&iH (Region.before ops) ls (ops.size-1) then some (a1,s1) else none
  | none=>none
 else lZ P call ops ops.toList a s
def oV(P:Program)(fn:Func)(a:Act)(s:St):Option (Value×St):=az P (results fn a.tmps) s
def kO(P:Program):List Deferred->St->Option (Unit×St)
 | [],s=>some ((),s)
 | d::ds,s =>
  match d.target with
  | .collected r =>
   match az P (Instr.takeDeferred r) s with
   | some (_,s1)=>kO P ds s1
   | none=>none
  | _=>none
def Ha:Exit->Option (Option Code)
 | .normal=>some none
 | .ret=>some (some .ret)
 | .exit id=>some (some (.exit id))
 | _=>none
def atEnd:Exit->Bool
 | .normal | .ret=>true
 | _=>false
def jW(P:Program)(fn:Func)(e:Exit)(a:Act)(s:St):Option (Value×St) :=
 match atEnd e with
 | true=>(match kO P a.defers s with | some (_,s1)=>oV P fn a s1 | none=>none)
 | false=>none
def ig(P:Program)(run:Runner)(f:FuncId)(args:Array Value)(s:St):Option (Value×St) :=
 match aP.Mb f args.toList with
 | some r=>some (r,s)
 | none =>
 match aP.wL f args.toList with
 | some q=>u9 q s
 | none =>
 match P.funcs[f]? with
 | some fn =>
  match fn.body with
  | some body =>
   match run none body { tmps:=args++Array.replicate (fn.ntmps-args.size) undef,defers:=[] } s with
   | some (e,a,s1)=>jW P fn e a s1
   | none=>none
  | none=>none
 | none=>none
def u_(P:Program)(l:Nat)(e:Exit)(s:St):Option (Value×St) :=
 match Ha e with
 | some j=>az P (Instr.endRound l j) s
 | none=>none
def oW:Exit->Bool
 | .normal=>true
 | _=>false
def oc(P:Program)(run:Runner)(l:Nat)(tmps:Array Value)(assign body:Code)(s:St):Option (Value×St) :=
 match run (some l) assign { tmps:=tmps,defers:=[] } s with
 | some (e,a1,s1) =>
  if oW e then
   match az P (Instr.beginRound l) s1 with
   | some (_,s2) =>
    match run (some l) body a1 s2 with
    | some (e2,_,s3)=>u_ P l e2 s3
    | none=>none
   | none=>none
  else none
 | none=>none
def l3(P:Program)(run:Runner):Caller
 | .fn f args,s=>ig P run f args s
 | .G' l tmps assign body,s=>oc P run l tmps assign body s
def gA(P:Program)(a:Act)(g:Operand)(l:Nat):Option (FuncId×Array Value) :=
 if aZ g then
  match a.eval g with
  | .func (.func f) first captured=>if wW P f then some (f,(first ++ #[.func (.yield l) #[] #[]])++captured) else none
  | _=>none
 else none
def sX(run:Runner)(rd:Option Nat)(j:Option Code)(a:Act)(s:St):Option (Exit×Act×St) :=
 match j with
 | none=>some (.normal,a,s)
 | some c=>run rd c a s
def od:Option Code->Bool
 | none | some .ret | some (.exit _)=>true
 | _=>false
def oe(P:Program)(run:Runner)(rd:Option Nat)(g:Operand)(ps:Array Tmp)(assign body:Code)(a:Act)(s:St):Option (Exit×Act×St) :=
 match az P (Instr.enterLoop 0 a.tmps ps assign body rd) s with
 | some ((l,mark),s1) =>
  match gA P a g l with
  | some (f,args) =>
   match ig P run f args s1 with
   | some (_,s2) =>
    match az P (Instr.endLoop l) s2 with
    | some (j,s3)=>if od j then sX run rd j { a with defers:=mark++a.defers } s3 else none
    | none=>none
   | none=>none
  | none=>none
 | none=>none
def wZ(run:Code->Act->St->Option (Exit×Act×St))(body:Code):Option (Exit×Act×St)->Option (Exit×Act×St)
 | some (.goto l,a,s) =>
  match findLabel body l with
  | some rest =>
   match run rest a s with
   | some (.goto _,_,_)=>none
   | r=>r
  | none=>none
 | r=>r
def ev(P:Program):Nat->Runner
 | 0,_,_,_,_=>none
 | n+1,rd,c,a,s =>
  match c with
  | .skip=>some (.normal,a,s)
  | .label _=>some (.normal,a,s)
  | .ret=>some (.ret,a,s)
  | .exit id=>some (.exit id,a,s)
  | .goto l=>some (.goto l,a,s)
  | .seq x y =>
   match ev P n rd x a s with
   | some (.normal,a1,s1)=>ev P n rd y a1 s1
   | r=>r
  | .cond c x y =>
   match aZ c,a.eval c with
   | true,.bool b=>ev P n rd (if b then x else y) a s
   | _,_=>none
  | .block id body =>
   match ev P n rd body a s with
   | some (.exit i,a1,s1)=>if i=id then some (.normal,a1,s1) else some (.exit i,a1,s1)
   | r=>r
  | .loop body =>
   match ev P n rd body a s with
   | some (.normal,a1,s1)=>ev P n rd (.loop body) a1 s1
   | r=>r
  | .scope body =>
   match rd with
   | none=>wZ (ev P n none) body (ev P n none body a s)
   | some _=>none
  | .rangeFunc g ps assign body=>oe P (ev P n) rd g ps assign body a s
  | .region _ ops draw =>
   match fE P (l3 P (ev P n)) ops draw a s with
   | some (a1,s1)=>some (.normal,a1,s1)
   | none=>none
  | _=>none
def s0:St:={ heap:=.leaf,next:=1,log:=[] }
def isTrue:Option (Value×St)->Bool
 | some (.bool b,_)=>b
 | _=>false
variable[aP]
theorem cM{P:Program}{m:Sem Value}{s s1:St}{n:Next}(h:sv (az P m s)=some (n,s1)):s.next<=s1.next:=by
 unfold sv at h;rw[Option.map_eq_some_iff]at h;obtain⟨⟨v,s2⟩,h1,h2⟩:=h;cases h2;exact cV P _ _ _ _ h1
theorem Mr{P:Program}{m:Sem Unit}{s s1:St}{n:Next}(h:su (az P m s)=some (n,s1)):s.next<=s1.next:=by
 unfold su at h;rw[Option.map_eq_some_iff]at h;obtain⟨⟨v,s2⟩,h1,h2⟩:=h;cases h2;exact cV P _ _ _ _ h1
theorem kP{P:Program}{a:Act}{o:Oper}{s s1:St}{n:Next}(h:fY P a o s=some (n,s1)):s.next<=s1.next:=by
 unfold fY at h
 split at h
 ·split at h
  ·split at h
   ·cases h;exact Nat.le_refl _
   ·cases h
  ·cases h
 ·cases h
theorem w9{P:Program}{s s1:St}{t:TypeId}{m k v:Value}{ok:Bool}(h:jw P s t m k ok=some (v,s1)):s.next<=s1.next:=by
 unfold jw at h
 split at h
 ·split at h
  ·rename_i es s2 hm
   have hs:s2.next=s.next:=by
    split at hm
    ·cases hm;rfl
    ·split at hm
     ·cases hm;rfl
     ·cases hm
    ·cases hm
   split at h
   ·cases h;omega
   ·split at h
    ·split at h
     ·split at h
      ·cases h;omega
      ·cases h
     ·cases h
    ·cases h
   ·cases h
  ·cases h
 ·cases h
theorem oX{P:Program}{s s1:St}{t:TypeId}{m k v:Value}(h:d8 P s t m k v=some s1):s.next<=s1.next:=by
 unfold d8 at h
 split at h
 ·split at h
  ·split at h
   ·split at h
    ·split at h
     ·cases h;exact Nat.le_refl _
     ·cases h
    ·cases h;exact Nat.le_refl _
    ·cases h
   ·cases h
  ·cases h
 ·cases h
theorem zB{P:Program}{s s1:St}{t:TypeId}{m k v:Value}(h:gy P s t m k=some (v,s1)):s.next<=s1.next:=by
 unfold gy at h
 split at h
 ·split at h
  ·split at h
   ·split at h
    ·split at h
     ·cases h;exact Nat.le_refl _
     ·cases h
    ·split at h
     ·split at h
      ·split at h
       ·cases h;exact Nat.le_refl _
       ·cases h
      ·cases h
     ·cases h
    ·cases h
   ·cases h
  ·cases h
 ·cases h
theorem zC{s s1:St}{m st v:Value}(h:ic s m st v=some s1):s.next<=s1.next:=by
 unfold ic at h
 split at h
 ·split at h
  ·split at h
   ·split at h
    ·cases h;exact Nat.le_refl _
    ·cases h
   ·cases h
  ·cases h
 ·cases h
theorem w_{P:Program}{s s1:St}{t:TypeId}{m k:Value}(h:fe P s t m k=some s1):s.next<=s1.next:=by
 unfold fe at h
 split at h
 ·split at h
  ·split at h
   ·split at h
    ·cases h;exact Nat.le_refl _
    ·cases h;exact Nat.le_refl _
    ·cases h
   ·cases h
  ·cases h
 ·cases h
theorem xa{P:Program}{s s1:St}{t u:TypeId}{d x v:Value}(h:cL P s t u d x=some (v,s1)):s.next<=s1.next:=by
 unfold cL at h
 split at h
 ·split at h
  ·split at h
   ·split at h
    ·cases h;exact Nat.le_refl _
    ·split at h
     ·split at h
      ·dsimp only at h
       split at h
       ·cases h;exact Nat.le_succ _
       ·split at h
        ·split at h
         ·split at h
          ·cases h;exact Nat.le_succ _
          ·cases h
         ·cases h
        ·split at h
         ·cases h;exact Nat.le_succ _
         ·cases h
      ·cases h
     ·cases h
   ·cases h
  ·cases h
 ·cases h
theorem B9{P:Program}{a:Act}{c:Call}{ty:TypeId}{s s1:St}{n:Next}(h:nL P a c ty s=some (n,s1)):s.next<=s1.next:=by
 unfold nL at h
 split at h
 ·split at h
  ·split at h
   ·split at h
    ·cases h;exact Nat.le_refl _
    ·cases h
   ·split at h
    ·exact cV P _ _ _ _ h
    ·cases h
   ·cases h
  ·split at h
   ·split at h
    ·split at h
     ·cases h;exact Nat.le_refl _
     ·cases h
    ·cases h
   ·cases h
  ·split at h
   ·exact cM h
   ·split at h
    ·exact cM h
    ·cases h
   ·split at h
    ·exact cM h
    ·unfold sv at h
     rw[Option.map_eq_some_iff]at h;obtain⟨⟨v,s2⟩,h1,h2⟩:=h;cases h2;exact xa h1
   ·exact cM h
   ·rw[Option.map_eq_some_iff]at h
    obtain⟨s2,h1,h2⟩:=h;cases h2;exact w_ h1
   ·cases h
 ·cases h
theorem sY{P:Program}{a:Act}{o:Oper}{s s1:St}{n:Next}(h:aU P a o s=some (n,s1)):s.next<=s1.next:=by
 obtain⟨dst,op,ty,pos,after,guard⟩:=o;cases op with
 | move x =>
  simp only[aU]at h
  split at h
  ·cases h;exact Nat.le_refl _
  ·cases h
 | assign x =>
  simp only[aU]at h
  split at h
  ·cases h;exact Nat.le_refl _
  ·cases h
 | pick c x y =>
  simp only[aU]at h
  split at h
  ·split at h
   ·cases h;exact Nat.le_refl _
   ·cases h
  ·cases h
 | store t x y =>
  simp only[aU]at h
  split at h
  ·exact Mr h
  ·cases h
 | nilCheck x =>
  simp only[aU]at h
  split at h
  ·split at h
   ·cases h;exact Nat.le_refl _
   ·cases h;exact Nat.le_refl _
   ·cases h;exact Nat.le_refl _
   ·cases h
  ·cases h
 | binOp op t x y yt =>
  simp only[aU]at h
  split at h
  ·rename_i r hf
   cases h;exact kP hf
  ·split at h
   ·split at h
    ·split at h
     ·cases h;exact Nat.le_refl _
     ·cases h;exact Nat.le_refl _
     ·cases h
    ·unfold G9 at h
     rw[Option.map_eq_some_iff]at h;obtain⟨r,hb,hh⟩:=h;cases hh;exact Nat.le_refl _
   ·cases h
 | unOp op t x =>
  simp only[aU]at h
  split at h
  ·rename_i r hf
   cases h;exact kP hf
  ·split at h
   ·unfold G_ at h
    rw[Option.map_eq_some_iff]at h;obtain⟨r,hb,hh⟩:=h;cases hh;exact Nat.le_refl _
   ·cases h
 | convert t u x =>
  simp only[aU]at h
  split at h
  ·rename_i r hf
   cases h;exact kP hf
  ·split at h
   ·unfold B7 at h
    split at h
    ·rw[Option.map_eq_some_iff]at h
     obtain⟨r,hb,hh⟩:=h;cases hh;exact Nat.le_refl _
    ·cases h
   ·cases h
 | makeFunc fn first captured =>
  cases fn with
  | func f =>
   simp only[aU]at h
   split at h
   ·cases h;exact Nat.le_refl _
   ·cases h
  | _=>simp[aU]at h
 | makeMap t r =>
  cases r with
  | none =>
   simp only[aU]at h;exact cM h
  | some x =>
   simp only[aU]at h
   split at h
   ·exact cM h
   ·cases h
 | slice t x lo hi mx =>
  simp only[aU]at h
  split at h
  ·split at h
   ·rename_i v s2 hrun
    split at h
    ·cases h;exact cV P _ _ _ _ hrun
    ·cases h
   ·cases h
  ·cases h
 | lookup t m k ok =>
  simp only[aU]at h
  split at h
  ·unfold sv at h
   rw[Option.map_eq_some_iff]at h;obtain⟨⟨v,s2⟩,h1,h2⟩:=h;cases h2;exact w9 h1
  ·cases h
 | mapUpdate t m k v =>
  simp only[aU]at h
  split at h
  ·rw[Option.map_eq_some_iff]at h
   obtain⟨s2,h1,h2⟩:=h;cases h2;exact oX h1
  ·cases h
 | insert t m k v =>
  simp only[aU]at h
  split at h
  ·rw[Option.map_eq_some_iff]at h
   obtain⟨s2,h1,h2⟩:=h;cases h2;exact oX h1
  ·cases h
 | mapEntry t m k =>
  simp only[aU]at h
  split at h
  ·unfold sv at h
   rw[Option.map_eq_some_iff]at h;obtain⟨⟨v,s2⟩,h1,h2⟩:=h;cases h2;exact zB h1
  ·cases h
 | entryStore t m st v =>
  simp only[aU]at h
  split at h
  ·rw[Option.map_eq_some_iff]at h
   obtain⟨s2,h1,h2⟩:=h;cases h2;exact zC h1
  ·cases h
 | call c =>
  simp only[aU]at h
  split at h
  ·rename_i r hf
   cases h;exact kP hf
  ·exact B9 h
 | alloc t =>
  simp only[aU]at h
  split at h
  ·exact cM h
  ·cases h
 | box t x =>
  simp only[aU]at h
  split at h
  ·exact cM h
  ·cases h
 | build t ps =>
  simp only[aU]at h
  split at h
  ·exact cM h
  ·cases h
 | buildSlice t k ps =>
  simp only[aU]at h
  split at h
  ·exact cM h
  ·cases h
 | load t x =>
  simp only[aU]at h
  split at h
  ·exact cM h
  ·cases h
 | makeInterface t x =>
  simp only[aU]at h
  split at h
  ·exact cM h
  ·cases h
 | makeSlice t l c =>
  simp only[aU]at h
  split at h
  ·exact cM h
  ·cases h
 | fieldAddr t x f =>
  simp only[aU]at h
  split at h
  ·exact cM h
  ·cases h
 | field t x f =>
  simp only[aU]at h
  split at h
  ·exact cM h
  ·cases h
 | indexAddr t x i =>
  simp only[aU]at h
  split at h
  ·exact cM h
  ·cases h
 | index t x i =>
  simp only[aU]at h
  split at h
  ·exact cM h
  ·cases h
 | range t x =>
  simp only[aU]at h
  split at h
  ·exact cM h
  ·cases h
 | next x str =>
  simp only[aU]at h
  split at h
  ·exact cM h
  ·cases h
 | entry x =>
  simp only[aU]at h
  split at h
  ·exact cM h
  ·cases h
 | typeAssert x t u ok =>
  simp only[aU]at h
  split at h
  ·exact cM h
  ·cases h
 | extract x i =>
  simp only[aU]at h
  split at h
  ·exact cM h
  ·cases h
 | _=>simp[aU]at h
structure Goes(P:Program)(base:Nat->Prop)(ι κ:ag)(s s1:St)(w w1:World):Prop where
 rep:dg P base κ s1.look w1
 ext:∀ id,(id<4*s.next\/4*s1.next<=id)->κ id=ι id
 below:Out base w w1
def da(ι:ag)(s s1:St):Prop:=∀ id,4*s.next<=id->id<4*s1.next->ι id=none
theorem Goes.le{P:Program}{base:Nat->Prop}{ι κ:ag}{s s1:St}{w w1:World}(h:Goes P base ι κ s s1 w w1)(hf:da ι s s1):jT ι κ:=by
 intro id b hb
 by_cases hx:id<4*s.next\/4*s1.next<=id
 ·rw[h.ext id hx];exact hb
 ·rw[hf id (by omega) (by omega)]at hb;cases hb
theorem Goes.trans{P:Program}{base:Nat->Prop}{ι κ μ:ag}{s s1 s2:St}{w w1 w2:World}(h:Goes P base ι κ s s1 w w1)(k:Goes P base κ μ s1 s2 w1 w2)(n1:s.next<=s1.next)(n2:s1.next<=s2.next):Goes P base ι μ s s2 w w2 :=
 ⟨k.rep,λid hx=>by rw[k.ext id (by omega),h.ext id (by omega)],h.below.trans k.below⟩
theorem Goes.refl{P:Program}{base:Nat->Prop}{ι:ag}{s:St}{w:World}(h:dg P base ι s.look w):Goes P base ι ι s s w w:=⟨h,λ_ _=>rfl,Out.refl _ _⟩
theorem da.left{ι:ag}{s s1 s2:St}(h:da ι s s2)(n:s1.next<=s2.next):da ι s s1:=λid a b=>h id a (by omega)
theorem da.right{P:Program}{base:Nat->Prop}{ι κ:ag}{s s1 s2:St}{w w1:World}(h:da ι s s2)(g:Goes P base ι κ s s1 w w1)(n:s.next<=s1.next):da κ s1 s2:=λid a b=>by rw[g.ext id (by omega)];exact h id (by omega) b
theorem jA{ι:ag}{a A:Act}{v v':Value}(h:bQ ι a A)(hv:ao ι v v')(d:Option Tmp):bQ ι (a.put d v) (A.put d v'):=by
 cases d with
 | none=>exact h
 | some d=>exact⟨gw h.tmps hv d,h.Ml⟩
theorem bQ.mono{ι κ:ag}(hk:jT ι κ){a A:Act}(h:bQ ι a A):bQ κ a A:=⟨h.tmps.mono hk,h.Ml.mono hk⟩
variable[aP]
theorem zD{ι:ag}{a A:Act}(h:bQ ι a A)(ops:Array Oper)(j:Nat):yielded ops A.tmps j=yielded ops a.tmps j:=by
 unfold yielded;cases (ops[j]?).bind (·.dst) with
 | none=>rfl
 | some t =>
  dsimp only[Option.bind];rcases h.tmps.get t with ⟨e1,e2⟩ | ⟨v,v',e1,e2,hv⟩
  ·rw[e1,e2]
  ·rw[e1,e2]
   cases hv with
   | sym n m _ hh =>
    have hl:=aP.leaf n;rw[hh]at hl;cases v'<;>first | rfl | cases hl
   | dyn id c _ h hh =>
    have hl:=aV c;rw[hh]at hl;cases v'<;>first | rfl | cases hl
   | junk n _ hl=>cases v'<;>first | rfl | cases hl
   | sE id c j _ h hh =>
    have hl:=p_ j (dec c);rw[hh]at hl;cases v'<;>first | rfl | cases hl
   | _=>rfl
theorem sZ{ι:ag}{a A:Act}(h:bQ ι a A)(ops:Array Oper)(o:Oper):Region.wanted o (yielded ops A.tmps)=Region.wanted o (yielded ops a.tmps):=by
 have:yielded ops A.tmps=yielded ops a.tmps:=funext (zD h ops);rw[this]
theorem B_{P:Program}{base:Nat->Prop}{ι:ag}{v v':Value}(h:ao ι v v') :
  aq P base (λκ a a'=>∃ id off b,a=⟨id,off,none⟩/\a'=⟨b,off,none⟩/\κ id=some b) ι (Go.asAddr v) (Go.asAddr v'):=by
 cases h with
 | ptr id off b h=>exact aq.ret ⟨id,off,b,rfl,rfl,h⟩
 | oM =>
  show aq P base _ ι (Go.runtimePanic .nilDeref) _;exact aq.panics
 | _=>exact aq.halt
theorem xb{ι:ag}{f f':Array Value}(h:bh ι f f')(t:Nat):ao ι (f.getD t undef) (f'.getD t undef):=by
 rw[Array.getD_eq_getD_getElem?,Array.getD_eq_getD_getElem?];rcases h.get t with ⟨e1,e2⟩ | ⟨v,v',e1,e2,hv⟩
 ·rw[e1,e2];exact e9 ι
 ·rw[e1,e2];exact hv
theorem rl{P:Program}{base:Nat->Prop}{ι:ag}{f f':Array Value}(fn:Func)(h:bh ι f f'):aq P base VV ι (results fn f) (results fn f'):=by
 unfold results;refine aq.bnd (R:=bh) ?_ (λκ vs vs' hle hv=>?_)
 ·rw[Array.mapM_eq_mapM_toList,Array.mapM_eq_mapM_toList]
  refine aq.bnd (R:=cN) ?_ (λκ l l' _ hl=>aq.ret ⟨by simpa using hl.1,λi v v' a b=>hl.2 i v v' (by simpa using a) (by simpa using b)⟩);generalize fn.results.toList=rs
  induction rs generalizing ι with
  | nil=>exact aq.ret ⟨rfl,λi v v' h=>by simp at h⟩
  | cons r rs ih =>
   rw[List.mapM_cons,List.mapM_cons];refine aq.bnd (R:=VV) ?_ (λκ v v' hle hv=>?_)
   ·cases r with
    | tmp t=>exact aq.ret (xb h t)
    | cell a t =>
     refine aq.bnd (B_ (xb h a)) (λκ x x' _ hx=>?_);obtain⟨id,off,b,rfl,rfl,hb⟩:=hx;exact rf t hb
   ·refine aq.bnd (ih (h.mono hle)) (λκ2 l l' hle2 hl=>aq.ret ⟨by simp[hl.1],λi x x' a b=>?_⟩)
    match i with
    | 0=>simp at a b;subst a b;exact hv.mono hle2
    | i+1=>exact hl.2 i x x' (by simpa using a) (by simpa using b)
 ·refine aq.ret ?_
  by_cases h1:vs.size=1
  ·have h1':vs'.size=1:=by rw[← hv.1];exact h1
   rw[dif_pos h1,dif_pos h1'];exact hv.2 0 _ _ (Array.getElem?_eq_getElem (by omega)) (Array.getElem?_eq_getElem (by omega))
  ·have h1':¬ vs'.size=1:=by rw[← hv.1];exact h1
   rw[dif_neg h1,dif_neg h1'];exact .tuple _ _ hv.1 hv.2
def Still{α:Type}(P:Program)(m:Sem α):Prop:=∀ w v w1,m.run P w=.ok v w1->w1=w
theorem Still.ret{α:Type}{P:Program}(a:α):Still P (Pure.pure a:Sem α):=by
 intro w v w1 h;cases h;rfl
theorem Still.bnd{α β:Type}{P:Program}{m:Sem α}{f:α->Sem β}(h:Still P m)(hf:∀ a,Still P (f a)):Still P (m >>= f):=by
 intro w v w1 hr;rw[Sem.run_bind]at hr;cases hm:m.run P w with
 | ok a w2 =>
  rw[hm]at hr;rw[hf a w2 v w1 hr,h w a w2 hm]
 | halt x w2=>rw[hm]at hr;cases hr
theorem Still.halt{α:Type}{P:Program}{x:Halt} : Still P (Sem.halt x:Sem α):=by
 intro w v w1 h;cases h
theorem s5{P:Program}(a:Addr):Still P (Go.load a):=by
 intro w v w1 h;unfold Go.load at h;simp only[Sem.run]at h
 split at h
 ·cases h;rfl
 ·split at h
  ·cases h;rfl
  ·cases h
theorem s6{P:Program}(t:TypeId):Still P (Go.typeInfo t):=by
 intro w v w1 h;unfold Go.typeInfo at h;have h':(match P.info? t with | some i=>(Pure.pure i:Sem TypeInfo) | none=>Go.stuck "no such type").run P w=.ok v w1:=h
 split at h'
 ·cases h';rfl
 ·cases h'
theorem qh{P:Program}(t:TypeId):Still P (Go.underlying t):=by
 intro w v w1 h;unfold Go.underlying at h;have h':(match P.underlying t with | some i=>(Pure.pure i:Sem TypeDesc) | none=>Go.stuck "no such type").run P w=.ok v w1:=h
 split at h'
 ·cases h';rfl
 ·cases h'
theorem rI{P:Program}(a:Addr):∀ (n i:Nat) (acc:Array Value),Still P (Go.loadCellsFrom a i n acc):=by
 intro n
 induction n with
 | zero=>intro i acc;exact Still.ret _
 | succ n ih=>intro i acc;exact Still.bnd (s5 _) (λv=>ih _ _)
theorem va{P:Program}(t:TypeId)(a:Addr):Still P (Go.loadVar t a):=by
 unfold Go.loadVar Go.isAgg;refine Still.bnd (Still.bnd (qh t) (λd=>?_)) (λb=>?_)
 ·split<;>exact Still.ret _
 ·split
  ·exact Still.bnd (Still.bnd (s6 t) (λi=>Still.ret _)) (λn=>Still.bnd (rI _ _ _ _) (λc=>Still.ret _))
  ·exact s5 a
theorem xc{P:Program}(v:Value):Still P (Go.asAddr v):=by
 cases v with
 | pointer a =>
  cases a with
  | some a=>exact Still.ret _
  | none =>
   intro w v w1 h;cases h
 | _=>exact Still.halt
theorem nM{P:Program}(fn:Func)(f:Array Value):Still P (results fn f):=by
 unfold results;refine Still.bnd ?_ (λvs=>Still.ret _);rw[Array.mapM_eq_mapM_toList];refine Still.bnd ?_ (λl=>Still.ret _);generalize fn.results.toList=rs
 induction rs with
 | nil=>exact Still.ret _
 | cons r rs ih =>
  rw[List.mapM_cons];refine Still.bnd ?_ (λv=>Still.bnd ih (λl=>Still.ret _));cases r with
  | tmp t=>exact Still.ret _
  | cell a t=>exact Still.bnd (xc _) (λx=>va t x)
end Go.Ev
