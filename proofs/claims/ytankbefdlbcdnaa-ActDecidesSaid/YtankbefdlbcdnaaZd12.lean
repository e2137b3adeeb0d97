/- Part of a proof: see the last text. -/
import Derived.Test.YtankbefdlbcdnaaZd11
import Derived.Maps.Range
import Derived.Maps.Views
set_option linter.unusedSectionVars false
set_option linter.unusedSimpArgs false
set_option linter.unusedVariables false
namespace Go.Ev
open Go.RowKit
theorem Cp{op:Op}{t:TypeId}(h:cy op=some [13,t]):∃ x,op=.range t x:=by
 unfold cy at h
 split at h<;>first | (cases h;done) | skip
 all_goals first | (cases h;exact⟨_,rfl⟩) | (simp at h)
theorem FF{op:Op}(h:cy op=some [14,0]):∃ x,op=.next x false:=by
 unfold cy at h
 split at h<;>first | (cases h;done) | skip
 all_goals first | (simp at h;done) | skip
 rename_i x b;cases b
 ·exact⟨_,rfl⟩
 ·simp at h
theorem Cq{op:Op} (h:cy op=some [15]):∃ x,op=.entry x:=by
 unfold cy at h
 split at h<;>first | (cases h;done) | skip
 all_goals first | (cases h;exact⟨_,rfl⟩) | (simp at h)
theorem Az{op:Op}{t:TypeId}{b:Bool}{n:Nat}(hn:n=cond b 1 0)(h:cy op=some [5,t,n]):∃ x y,op=.lookup t x y b:=by
 subst hn;unfold cy at h
 split at h<;>first | (cases h;done) | skip
 all_goals first | (simp at h;done) | skip
 rename_i t' x y ok;cases ok<;>cases b<;>simp at h<;>subst h<;>exact⟨_,_,rfl⟩
theorem sO{op:Op}{t:TypeId}(h:cy op=some [6,t]):∃ x y z,op=.mapUpdate t x y z:=by
 unfold cy at h
 split at h<;>first | (cases h;done) | skip
 all_goals first | (cases h;exact⟨_,_,_,rfl⟩) | (simp at h)
theorem vl{op:Op}{t:TypeId}(h:cy op=some [22,t]):∃ x y,op=.mapEntry t x y:=by
 unfold cy at h
 split at h<;>first | (cases h;done) | skip
 all_goals first | (cases h;exact⟨_,_,rfl⟩) | (simp at h)
theorem qx{op:Op}{t:TypeId}(h:cy op=some [23,t]):∃ x y z,op=.entryStore t x y z:=by
 unfold cy at h
 split at h<;>first | (cases h;done) | skip
 all_goals first | (cases h;exact⟨_,_,_,rfl⟩) | (simp at h)
theorem AA{op:Op}{t:TypeId}(h:cy op=some [24,t]):∃ x,op=.buildSlice t 1 #[(0,x)]:=by
 unfold cy at h
 split at h<;>first | (cases h;done) | skip
 all_goals first | (cases h;exact⟨_,rfl⟩) | (simp at h)
theorem AB{op:Op}{t u:TypeId}(h:cy op=some [12,t,u]):∃ x y,op=.call { callee:=.builtin .delete,args:=#[x,y],argTypes:=#[t,u] }:=by
 unfold cy at h
 split at h<;>first | (cases h;done) | skip
 all_goals first | (cases h;exact⟨_,_,rfl⟩) | (simp at h)
theorem HT{op:Op}{t u:TypeId}(h:cy op=some [16,t,u]):∃ x y,op=.call { callee:=.builtin .min,args:=#[x,y],argTypes:=#[t,u] }:=by
 unfold cy at h
 split at h<;>first | (cases h;done) | skip
 all_goals first | (cases h;exact⟨_,_,rfl⟩) | (simp at h)
theorem HU{op:Op}{t u:TypeId}(h:cy op=some [17,t,u]):∃ x y,op=.call { callee:=.builtin .max,args:=#[x,y],argTypes:=#[t,u] }:=by
 unfold cy at h
 split at h<;>first | (cases h;done) | skip
 all_goals first | (cases h;exact⟨_,_,rfl⟩) | (simp at h)
theorem vm{op:Op} (h:cy op=some [9]):∃ x,op=.nilCheck x:=by
 unfold cy at h
 split at h<;>first | (cases h;done) | skip
 all_goals first | (cases h;exact⟨_,rfl⟩) | (simp at h)
theorem sR{op:Op}{t:TypeId}{f:Nat}(h:cy op=some [7,t,f]):∃ x,op=.fieldAddr t x f:=by
 unfold cy at h
 split at h<;>first | (cases h;done) | skip
 all_goals first | (cases h;exact⟨_,rfl⟩) | (simp at h)
theorem HV{ι:ag}[aL]{x y z:Value}{l:List Value}(h:cx ι [x,y,z] l):∃ x' y' z',l=[x',y',z']/\aw ι x x'/\aw ι y y'/\aw ι z z':=by
 match l,h with
 | [],h=>exact absurd h.1 (by simp)
 | [_],h=>exact absurd h.1 (by simp)
 | [_,_],h=>exact absurd h.1 (by simp)
 | [x',y',z'],h=>exact⟨x',y',z',rfl,h.2 0 x x' rfl rfl,h.2 1 y y' rfl rfl,h.2 2 z z' rfl rfl⟩
 | _::_::_::_::_,h=>exact absurd h.1 (by simp)
variable(k:Kn){P:Program}{g:Nat}{d0 ng:Option Nat}{r:Value}
theorem aD.range{t:TypeId}{x:Value}(h:letI:aL:=k.sig;∀ ι F w d x',Ask k g d0 ng ι F w d->aw ι x x'->eA P (Instr.range t x') ι d F w r ng):aD k P ⟨[13,t],[x],none,g,d0,r,ng⟩:=by
 letI:aL:=k.sig;intro o hk ev ι F w d hv _ h1 h2 h3 h4;obtain⟨a,ho⟩:=Cp hk;rw[ho]at hv;obtain⟨x',e,hx⟩:=sG hv;simp[Op.operands]at e;subst e;obtain⟨v',w',r1,r2⟩:=h ι F w d _ ⟨h1,h2,h3,h4⟩ hx;refine⟨.value v',v',w',?_,.inl rfl,r2⟩;unfold execOp;rw[ho];simp only;rw[Sem.run_bind,r1];rfl
theorem aD.next {x:Value}(h:letI:aL:=k.sig;∀ ι F w d x' ty,Ask k g d0 ng ι F w d->aw ι x x'->eA P (Instr.next x' false ty) ι d F w r ng):aD k P ⟨[14,0],[x],none,g,d0,r,ng⟩:=by
 letI:aL:=k.sig;intro o hk ev ι F w d hv _ h1 h2 h3 h4;obtain⟨a,ho⟩:=FF hk;rw[ho]at hv;obtain⟨x',e,hx⟩:=sG hv;simp[Op.operands]at e;subst e;obtain⟨v',w',r1,r2⟩:=h ι F w d _ o.type ⟨h1,h2,h3,h4⟩ hx;refine⟨.value v',v',w',?_,.inl rfl,r2⟩;unfold execOp;rw[ho];simp only;rw[Sem.run_bind,r1];rfl
theorem aD.entry {x:Value}(h:letI:aL:=k.sig;∀ ι F w d x',Ask k g d0 ng ι F w d->aw ι x x'->eA P (Instr.entry x') ι d F w r ng):aD k P ⟨[15],[x],none,g,d0,r,ng⟩:=by
 letI:aL:=k.sig;intro o hk ev ι F w d hv _ h1 h2 h3 h4;obtain⟨a,ho⟩:=Cq hk;rw[ho]at hv;obtain⟨x',e,hx⟩:=sG hv;simp[Op.operands]at e;subst e;obtain⟨v',w',r1,r2⟩:=h ι F w d _ ⟨h1,h2,h3,h4⟩ hx;refine⟨.value v',v',w',?_,.inl rfl,r2⟩;unfold execOp;rw[ho];simp only;rw[Sem.run_bind,r1];rfl
theorem aD.fieldAddr{t:TypeId}{f:Nat}{x:Value}(h:letI:aL:=k.sig;∀ ι F w d x',Ask k g d0 ng ι F w d->aw ι x x'->eA P (Instr.fieldAt t x' f) ι d F w r ng):aD k P ⟨[7,t,f],[x],none,g,d0,r,ng⟩:=by
 letI:aL:=k.sig;intro o hk ev ι F w d hv _ h1 h2 h3 h4;obtain⟨a,ho⟩:=sR hk;rw[ho]at hv;obtain⟨x',e,hx⟩:=sG hv;simp[Op.operands]at e;subst e;obtain⟨v',w',r1,r2⟩:=h ι F w d _ ⟨h1,h2,h3,h4⟩ hx;refine⟨.value v',v',w',?_,.inl rfl,r2⟩;unfold execOp;rw[ho];simp only;rw[Sem.run_bind,r1];rfl
theorem aD.lookup{t:TypeId}{b:Bool}{n:Nat}(hn:n=cond b 1 0){x y:Value}(h:letI:aL:=k.sig;∀ ι F w d x' y',Ask k g d0 ng ι F w d->aw ι x x'->aw ι y y'->eA P (Instr.lookup t x' y' b) ι d F w r ng):aD k P ⟨[5,t,n],[x,y],none,g,d0,r,ng⟩:=by
 letI:aL:=k.sig;intro o hk ev ι F w d hv _ h1 h2 h3 h4;obtain⟨a,b,ho⟩:=Az hn hk;rw[ho]at hv;obtain⟨x',y',e,hx,hy⟩:=m_ hv;simp[Op.operands]at e;obtain⟨rfl,rfl⟩:=e;obtain⟨v',w',r1,r2⟩:=h ι F w d _ _ ⟨h1,h2,h3,h4⟩ hx hy;refine⟨.value v',v',w',?_,.inl rfl,r2⟩;unfold execOp;rw[ho];simp only;rw[Sem.run_bind,r1];rfl
theorem aD.mapUpdate{t:TypeId}{x y z:Value}(h:letI:aL:=k.sig;∀ ι F w d x' y' z',Ask k g d0 ng ι F w d->aw ι x x'->aw ι y y'->aw ι z z'->Cl P (Instr.mapUpdate t x' y' z') ι d F w ng):aD k P ⟨[6,t],[x,y,z],none,g,d0,undef,ng⟩:=by
 letI:aL:=k.sig;intro o hk ev ι F w d hv _ h1 h2 h3 h4;obtain⟨a,b,c,ho⟩:=sO hk;rw[ho]at hv;obtain⟨x',y',z',e,hx,hy,hz⟩:=HV hv;simp[Op.operands]at e;obtain⟨rfl,rfl,rfl⟩:=e;obtain⟨w',r1,r2⟩:=h ι F w d _ _ _ ⟨h1,h2,h3,h4⟩ hx hy hz;refine⟨.skip,undef,w',?_,.inr ⟨rfl,rfl⟩,r2⟩;unfold execOp;rw[ho];simp only;rw[Sem.run_bind,r1];rfl
theorem aD.mapEntry{t:TypeId}{x y:Value}(h:letI:aL:=k.sig;∀ ι F w d x' y',Ask k g d0 ng ι F w d->aw ι x x'->aw ι y y'->eA P (Instr.mapEntry t x' y') ι d F w r ng):aD k P ⟨[22,t],[x,y],none,g,d0,r,ng⟩:=by
 letI:aL:=k.sig;intro o hk ev ι F w d hv _ h1 h2 h3 h4;obtain⟨a,b,ho⟩:=vl hk;rw[ho]at hv;obtain⟨x',y',e,hx,hy⟩:=m_ hv;simp[Op.operands]at e;obtain⟨rfl,rfl⟩:=e;obtain⟨v',w',r1,r2⟩:=h ι F w d _ _ ⟨h1,h2,h3,h4⟩ hx hy;refine⟨.value v',v',w',?_,.inl rfl,r2⟩;unfold execOp;rw[ho];simp only;rw[Sem.run_bind,r1];rfl
theorem aD.entryStore{t:TypeId}{x y z:Value}(h:letI:aL:=k.sig;∀ ι F w d x' y' z',Ask k g d0 ng ι F w d->aw ι x x'->aw ι y y'->aw ι z z'->Cl P (Instr.entryStore t x' y' z') ι d F w ng):aD k P ⟨[23,t],[x,y,z],none,g,d0,undef,ng⟩:=by
 letI:aL:=k.sig;intro o hk ev ι F w d hv _ h1 h2 h3 h4;obtain⟨a,b,c,ho⟩:=qx hk;rw[ho]at hv;obtain⟨x',y',z',e,hx,hy,hz⟩:=HV hv;simp[Op.operands]at e;obtain⟨rfl,rfl,rfl⟩:=e;obtain⟨w',r1,r2⟩:=h ι F w d _ _ _ ⟨h1,h2,h3,h4⟩ hx hy hz;refine⟨.skip,undef,w',?_,.inr ⟨rfl,rfl⟩,r2⟩;unfold execOp;rw[ho];simp only;rw[Sem.run_bind,r1];rfl
theorem aD.HW{t:TypeId}{x:Value}(h:letI:aL:=k.sig;∀ ι F w d x',Ask k g d0 ng ι F w d->aw ι x x'->eA P (Instr.buildSlice t 1 #[(0,x')]) ι d F w r ng):aD k P ⟨[24,t],[x],none,g,d0,r,ng⟩:=by
 letI:aL:=k.sig;intro o hk ev ι F w d hv _ h1 h2 h3 h4;obtain⟨a,ho⟩:=AA hk;rw[ho]at hv;obtain⟨x',e,hx⟩:=sG hv;simp[Op.operands]at e;subst e;obtain⟨v',w',r1,r2⟩:=h ι F w d _ ⟨h1,h2,h3,h4⟩ hx;refine⟨.value v',v',w',?_,.inl rfl,r2⟩;unfold execOp;rw[ho];simp only;rw[Sem.run_bind];simp[r1]
theorem aD.delete{t u:TypeId}{x y:Value}(h:letI:aL:=k.sig;∀ ι F w d x' y' ty,Ask k g d0 ng ι F w d->aw ι x x'->aw ι y y'->eA P (Builtin.delete_ #[t,u] ty #[x',y']) ι d F w r ng):aD k P ⟨[12,t,u],[x,y],none,g,d0,r,ng⟩:=by
  letI:aL:=k.sig;intro o hk ev ι F w d hv _ h1 h2 h3 h4;obtain⟨a,b,ho⟩:=AB hk;obtain⟨cs,he⟩:=dE (ev:=ev) ho rfl;rw[ho]at hv;obtain⟨x',y',e,hx,hy⟩:=m_ hv;simp[Op.operands,Call.operands]at e;obtain⟨rfl,rfl⟩:=e;obtain⟨v',w',r1,r2⟩:=h ι F w d _ _ o.type ⟨h1,h2,h3,h4⟩ hx hy;refine⟨.value v',v',w',?_,.inl rfl,r2⟩;rw[he];have hb:builtin .delete #[t,u] o.type cs #[ev a,ev b]=(do pure (Next.value (← Builtin.delete_ #[t,u] o.type #[ev a,ev b]))):=rfl;simp only[List.map_toArray,List.map_cons,List.map_nil];rw[hb];rw[Sem.run_bind,r1];rfl
theorem aD.min{t u:TypeId}{x y:Value}(h:letI:aL:=k.sig;∀ ι F w d x' y' ty,Ask k g d0 ng ι F w d->aw ι x x'->aw ι y y'->eA P (Builtin.min_ #[t,u] ty #[x',y']) ι d F w r ng):aD k P ⟨[16,t,u],[x,y],none,g,d0,r,ng⟩:=by
  letI:aL:=k.sig;intro o hk ev ι F w d hv _ h1 h2 h3 h4;obtain⟨a,b,ho⟩:=HT hk;obtain⟨cs,he⟩:=dE (ev:=ev) ho rfl;rw[ho]at hv;obtain⟨x',y',e,hx,hy⟩:=m_ hv;simp[Op.operands,Call.operands]at e;obtain⟨rfl,rfl⟩:=e;obtain⟨v',w',r1,r2⟩:=h ι F w d _ _ o.type ⟨h1,h2,h3,h4⟩ hx hy;refine⟨.value v',v',w',?_,.inl rfl,r2⟩;rw[he];have hb:builtin .min #[t,u] o.type cs #[ev a,ev b]=(do pure (Next.value (← Builtin.min_ #[t,u] o.type #[ev a,ev b]))):=rfl;simp only[List.map_toArray,List.map_cons,List.map_nil];rw[hb];rw[Sem.run_bind,r1];rfl
theorem aD.max{t u:TypeId}{x y:Value}(h:letI:aL:=k.sig;∀ ι F w d x' y' ty,Ask k g d0 ng ι F w d->aw ι x x'->aw ι y y'->eA P (Builtin.max_ #[t,u] ty #[x',y']) ι d F w r ng):aD k P ⟨[17,t,u],[x,y],none,g,d0,r,ng⟩:=by
  letI:aL:=k.sig;intro o hk ev ι F w d hv _ h1 h2 h3 h4;obtain⟨a,b,ho⟩:=HU hk;obtain⟨cs,he⟩:=dE (ev:=ev) ho rfl;rw[ho]at hv;obtain⟨x',y',e,hx,hy⟩:=m_ hv;simp[Op.operands,Call.operands]at e;obtain⟨rfl,rfl⟩:=e;obtain⟨v',w',r1,r2⟩:=h ι F w d _ _ o.type ⟨h1,h2,h3,h4⟩ hx hy;refine⟨.value v',v',w',?_,.inl rfl,r2⟩;rw[he];have hb:builtin .max #[t,u] o.type cs #[ev a,ev b]=(do pure (Next.value (← Builtin.max_ #[t,u] o.type #[ev a,ev b]))):=rfl;simp only[List.map_toArray,List.map_cons,List.map_nil];rw[hb];rw[Sem.run_bind,r1];rfl
end Go.Ev
namespace Go.Ev
open Go.RowKit Go.Maps Go.WideShapes
open Go.WideElems (Fit rd rg pl rd_key rd_val rg_of other_key)
section parts
variable{k:Kn}{P:Program}{g g':Nat}{d0:Option Nat}{r:Value}{l:List aK}{i:Nat}{a a':aK}{ι:ag}{F:Nat->Prop}{w w':World}{d:Nat}
theorem a_{ng:Option Nat}(hg:k.gs[g]? = some (star l))(hi:l[i]? = some a)(q:Ask k g d0 ng ι F w d):∃ Fs f,jI l Fs ι F w/\Fs[i]? = some f/\a.p ι f w:=by
 obtain⟨b,q1,q2⟩:=q.st;rw[hg]at q1;cases q1;obtain⟨Fs,q2⟩:=q2;have hlt:i<Fs.length:=by rw[q2.len];exact(List.getElem?_eq_some_iff.1 hi).1
 exact⟨Fs,Fs[i],q2,List.getElem?_eq_getElem hlt,q2.holds i a _ hi (List.getElem?_eq_getElem hlt)⟩
theorem dS(hg':k.gs[g']? = some (star (l.set i a'))){Fs:List (Nat->Prop)}{f f':Nat->Prop}(hS:jI l Fs ι F w)(lt:∀ x,F x->x<w.heap.size)(hi:Fs[i]? = some f)(hd:ι d=none)(c:Nat){v':Value}(ha:a'.p (ι.upd d c) f' w')(ht:Turn f w w')
  (hs:∀ x,f' x->x<w'.heap.size/\(f x\/w.heap.size<=x)) (hv:letI:aL:=k.sig;aw (ι.upd d c) r v'):letI:aL:=k.sig;si ι d F w r (some g') v' w':=by
 letI:aL:=k.sig;obtain⟨F',h1,h2,h3⟩:=hS.one lt hi (ag.dT (b:=c) hd) a' f' ha ht hs;exact⟨c,F',hv,⟨_,hg',h1⟩,h2,h3⟩
theorem bU(q:Ask k g d0 (some g') ι F w d):ι d=none:=by
 rcases q.fresh with h | h
 ·exact h
 ·cases h
end parts
inductive Lv where
 | st (v:Value)
 | dy (d:Nat)
def Lv.is(ι:ag)(v:Value):Lv->Prop
 | .st v0=>v=v0
 | .dy d=>∃ c,ι d=some c/\dec c=v
theorem Lv.mono{ι κ:ag}(h:ib ι κ){v:Value}{l:Lv}(hl:l.is ι v):l.is κ v:=by
 cases l with
 | st v0=>exact hl
 | dy d=>obtain⟨c,h1,h2⟩:=hl;exact⟨c,h _ _ h1,h2⟩
structure Cr(P:Program)(t kT e:TypeId):Prop where
 ht:P.underlying t=some (.map kT e)
 hk:P.underlying kT=some (.int .i64)
 he:P.underlying e=some (.int .i64)
 hz:∀ w,(zeroValue e).run P w=.ok (.int .i64 0) w
def nZ(i:Int):Prop:=(Lit.int .i64 i).wf=true
def Reads(D:DataW Unit)(f:Int->Option Int):Prop:=∀ i,nZ i->Maps.has D (.int .i64 i)=(f i).isSome/\D.atKey (.int .i64 i) (.lit (.int .i64 0))=.lit (.int .i64 ((f i).getD 0))
def upd(f:Int->Option Int)(i:Int)(x:Option Int):Int->Option Int:=λj=>if j=i then x else f j
theorem jJ{i j:Int}(h:j≠i):(Lit.int .i64 j)≠(Lit.int .i64 i):=λe=>by cases e;exact h rfl
theorem Reads.put{D:DataW Unit}{f:Int->Option Int}(h:Reads D f)(hm:IsMap D){i x:Int} : Reads (D.put (.int .i64 i) (.lit (.int .i64 x))) (upd f i (some x)):=by
 intro j hj
 by_cases e:j=i
 ·subst e
  rw[has_put_same hm (by trivial),atKey_put_same hm (by trivial)];simp[upd]
 ·rw[has_put_other (jJ e),atKey_put_other (jJ e)]
  simpa[upd,e] using h j hj
theorem Reads.del{D:DataW Unit}{f:Int->Option Int}(h:Reads D f){i:Int} : Reads (D.del (.int .i64 i)) (upd f i none):=by
 intro j hj
 by_cases e:j=i
 ·subst e
  rw[has_del_same,atKey_del_same];simp[upd]
 ·rw[has_del_other (jJ e),atKey_del_other (jJ e)]
  simpa[upd,e] using h j hj
section
variable(P:Program)(kT e:TypeId)
def vn(b n:Nat)(f:Int->Option Int)(w:World):Prop:=∃ D:DataW Unit,w.ownsMap P kT (plainElem P e) b n D/\Reads D f
theorem vn.keep{b n:Nat}{f:Int->Option Int}{w w':World}(h:vn P kT e b n f w)(hk:w'.heap[b]? = w.heap[b]?):vn P kT e b n f w':=by
 obtain⟨D,⟨es,clock,h1,h2⟩,h3⟩:=h;exact⟨D,⟨es,clock,by rw[hk];exact h1,h2⟩,h3⟩
def mapA(b n:Nat)(f:Int->Option Int):aK where
 p:=λ_ F w=>(∀ j,F j↔j=b)/\vn P kT e b n f w
 keep:=λι F w w' hk ⟨h1,h2⟩=>⟨h1,h2.keep P kT e (hk b ((h1 b).2 rfl))⟩
 mono:=λ_ _ _ _ _ h=>h
def vo(b r n cnt:Nat)(f:Int->Option Int)(left:Int->Bool)(w:World):Prop :=
 ∃ (D:DataW Unit) (lf:Lit->Bool),w.ranges P kT (plainElem P e) b r n D lf cnt/\Reads D f/\(∀ i,nZ i->lf (.int .i64 i)=left i)/\∀ i,nZ i->left i=true->(f i).isSome=true
theorem vo.keep{b r n cnt:Nat}{f:Int->Option Int}{left:Int->Bool}{w w':World}(h:vo P kT e b r n cnt f left w)(hb:w'.heap[b]? = w.heap[b]?)(hr:w'.heap[r]? = w.heap[r]?):vo P kT e b r n cnt f left w':=by
 obtain⟨D,lf,⟨es,clock,since,seen,c0,h1,h2,h3,h4,h5,h6⟩,h7⟩:=h;exact⟨D,lf,⟨es,clock,since,seen,c0,by rw[hb];exact h1,h2,h3,h4,by rw[hr];exact h5,h6⟩,h7⟩
def HX(r:Nat):Value:=.pointer (some ⟨r,0,none⟩)
def K2(b:Nat)(rv:Lv)(n cnt:Nat)(f:Int->Option Int)(left:Int->Bool):aK where
 p:=λι F w=>∃ r,rv.is ι (HX r)/\(∀ j,F j↔j=b\/j=r)/\vo P kT e b r n cnt f left w
 keep:=λι F w w' hk ⟨r,h0,h1,h2⟩=>⟨r,h0,h1,h2.keep P kT e (hk b ((h1 b).2 (.inl rfl))) (hk r ((h1 r).2 (.inr rfl)))⟩
 mono:=λι κ F w hle ⟨r,h0,h1⟩=>⟨r,Lv.mono hle h0,h1⟩
def vp(b r n cnt:Nat)(f:Int->Option Int)(left:Int->Bool)(i:Int)(w:World):Prop :=
 nZ i/\(f i).isSome=true/\vo P kT e b r n cnt f left w/\∀ w2:World,w2.heap[b]? = w.heap[b]?->w2.heap[r]? = w.heap[r]?->(Instr.entry (HX r)).run P w2=.ok (.tuple #[.int .i64 i,.int .i64 ((f i).getD 0)]) w2
theorem vp.keep{b r n cnt:Nat}{f:Int->Option Int}{left:Int->Bool}{i:Int}{w w':World}(h:vp P kT e b r n cnt f left i w)(hb:w'.heap[b]? = w.heap[b]?)(hr:w'.heap[r]? = w.heap[r]?):vp P kT e b r n cnt f left i w':=by
 obtain⟨h0,h1,h2,h3⟩:=h;exact⟨h0,h1,h2.keep P kT e hb hr,λw2 k1 k2=>h3 w2 (k1.trans hb) (k2.trans hr)⟩
def HY(b r n cnt:Nat)(f:Int->Option Int)(left:Int->Bool)(i:Int):aK where
 p:=λι F w=>(∀ j,F j↔j=b\/j=r)/\vp P kT e b r n cnt f left i w
 keep:=λι F w w' hk ⟨h1,h2⟩=>⟨h1,h2.keep P kT e (hk b ((h1 b).2 (.inl rfl))) (hk r ((h1 r).2 (.inr rfl)))⟩
 mono:=λι κ F w hle h=>h
def Cs(left:Int->Bool)(i:Int):Int->Bool:=λj=>left j && !(decide (j=i))
def Jp(b r n cnt:Nat)(f:Int->Option Int)(left:Int->Bool):aK where
 p:=λι F w=>(∀ j,F j↔j=b\/j=r)/\∃ i cnt',cnt'<cnt/\left i=true/\vp P kT e b r n cnt' f (Cs left i) i w
 keep:=λι F w w' hk ⟨h1,i,c,h2,h3,h4⟩=>⟨h1,i,c,h2,h3,h4.keep P kT e (hk b ((h1 b).2 (.inl rfl))) (hk r ((h1 r).2 (.inr rfl)))⟩
 mono:=λι κ F w hle h=>h
end
section rows
variable{k:Kn}{P:Program}{g g':Nat}{d0:Option Nat}{l:List aK}{ci:Nat}{t kT e:TypeId}{b n sM sK sV:Nat}{f:Int->Option Int}{i x:Int}(M:Cr P t kT e)
include M
theorem oA:Keyed P kT:=int_keyed M.hk
theorem y_(hi:nZ i):keyOf P kT (.int .i64 i)=some (.int .i64 i):=keyOf_int_mk M.hk hi
theorem Ct:plainElem (H:=Unit) P e (.int .i64 0)=some (.lit (.int .i64 0),[]):=plainElem_int M.he (by decide)
theorem GZ{y:Value}{f:Int->Option Int}{D:DataW Unit}{ps:List MemPlace}(hD:Reads D f)(hi:nZ i)(h:plainElem (H:=Unit) P e y=some (D.atKey (.int .i64 i) (.lit (.int .i64 0)),ps)):y=.int .i64 ((f i).getD 0):=by
 obtain⟨c,rfl,hc,_⟩:=plainElem_int_inv M.he h;rw[(hD i hi).2]at hc;simp only[Prod.mk.injEq,DataW.lit.injEq,Lit.int.injEq,true_and]at hc;rw[hc.1]
theorem kL{ι:ag}{m:Nat}{x':Value}(h:letI:aL:=k.sig;aw ι (sy m) x'):x'=k.val m:=by
 letI:aL:=k.sig;cases h with
 | sym n m' _ h=>exact h.symm
theorem Jq{ι:ag}{m:Nat}{x':Value}(h:k.val m=x'):letI:aL:=k.sig;aw ι (sy m) x':=by
 letI:aL:=k.sig;exact .sym m 0 x' h
theorem G1{ι:ag}{a b a' b':Value}(h:letI:aL:=k.sig;aw ι a a')(h':letI:aL:=k.sig;aw ι b b'):letI:aL:=k.sig;aw ι (.tuple #[a,b]) (.tuple #[a',b']):=by
 letI:aL:=k.sig;refine .tuple _ _ rfl (λi v v' h1 h2=>?_)
 match i with
 | 0=>simp at h1 h2;subst h1 h2;exact h
 | 1=>simp at h1 h2;subst h1 h2;exact h'
 | i+2=>simp at h1
theorem sT(hg:k.gs[g]? = some (star l))(hi:l[ci]? = some (mapA P kT e b n f))(hM:k.val sM=.map (some b))(hK:k.val sK=.int .i64 i)(hw:nZ i)(hx:f i=some x)(hV:k.val sV=.int .i64 x):aD k P ⟨[5,t,1],[sy sM,sy sK],none,g,none,.tuple #[sy sV,.bool true],none⟩:=by
 refine aD.lookup k (b:=true) rfl ?_;letI:aL:=k.sig;intro ι F w d x' y' q hx' hy;obtain⟨Fs,ff,hS,hf,h1,D,h2,h3⟩:=a_ hg hi q;rw[kL M hx',kL M hy,hM,hK];obtain⟨v,ps,r1,r2⟩:=h2.look_ok (oA M) M.ht (M.hz w) (Ct M) (y_ M hw);rw[GZ M h3 hw r2,(h3 i hw).1,hx]at r1;exact⟨_,w,r1,G1 M (Jq M hV) (.bool true),Below.refl _ _⟩
theorem jK(hg:k.gs[g]? = some (star l))(hi:l[ci]? = some (mapA P kT e b n f))(hM:k.val sM=.map (some b))(hK:k.val sK=.int .i64 i)(hw:nZ i)(hx:f i=none):aD k P ⟨[5,t,1],[sy sM,sy sK],none,g,none,.tuple #[.int .i64 0,.bool false],none⟩:=by
 refine aD.lookup k (b:=true) rfl ?_;letI:aL:=k.sig;intro ι F w d x' y' q hx' hy;obtain⟨Fs,ff,hS,hf,h1,D,h2,h3⟩:=a_ hg hi q;rw[kL M hx',kL M hy,hM,hK];obtain⟨v,ps,r1,r2⟩:=h2.look_ok (oA M) M.ht (M.hz w) (Ct M) (y_ M hw);rw[GZ M h3 hw r2,(h3 i hw).1,hx]at r1;exact⟨_,w,r1,G1 M (.int _ _) (.bool false),Below.refl _ _⟩
theorem n6{w w':World}(h:w.mapTurned w' b){ff:Nat->Prop}(hf:∀ j,ff j↔j=b):Turn ff w w':=by
 have hg:=h.grown;exact⟨hg.os,hg.tape,hg.output,hg.size,λj hj hn=>hg.block j hj (λe=>hn ((hf j).2 (by cases e;rfl)))⟩
theorem za{v':Value}(hg:k.gs[g]? = some (star l))(hi:l[ci]? = some (mapA P kT e b n f))(hg':k.gs[g']? = some (star (l.set ci (mapA P kT e b (n+1) (upd f i (some x))))))(hM:k.val sM=.map (some b))(hK:k.val sK=.int .i64 i)(hw:nZ i)(hn:n<maxLen)(hV:∀ ι y,(letI:aL:=k.sig;aw ι v' y)->y=.int .i64 x)(hx:nZ x):aD k P ⟨[6,t],[sy sM,sy sK,v'],none,g,none,undef,some g'⟩:=by
 refine aD.mapUpdate k ?_;letI:aL:=k.sig;intro ι F w d x' y' z' q hx' hy hz;obtain⟨Fs,ff,hS,hf,h1,D,h2,h3⟩:=a_ hg hi q;rw[kL M hx',kL M hy,hM,hK,hV _ _ hz];obtain⟨w',r1,r2,r3⟩:=h2.store (oA M) M.ht hn (y_ M hw) (plainElem_int M.he hx);refine⟨w',r1,dS hg' hS q.lt hf (bU q) 0 (f':=ff) ⟨h1,_,r2,h3.put h2.isMap⟩ (n6 M r3 h1) (λj hj=>⟨?_,.inl hj⟩) (cB _)⟩;rw[(h1 j).1 hj];exact r2.lt
theorem FG{u:TypeId}(hu:u=kT)(hg:k.gs[g]? = some (star l))(hi:l[ci]? = some (mapA P kT e b n f))(hg':k.gs[g']? = some (star (l.set ci (mapA P kT e b n (upd f i none)))))(hM:k.val sM=.map (some b))(hK:k.val sK=.int .i64 i)(hw:nZ i):aD k P ⟨[12,t,u],[sy sM,sy sK],none,g,none,.tuple #[],some g'⟩:=by
 subst hu;refine aD.delete k ?_;letI:aL:=k.sig;intro ι F w d x' y' ty q hx' hy;obtain⟨Fs,ff,hS,hf,h1,D,h2,h3⟩:=a_ hg hi q;rw[kL M hx',kL M hy,hM,hK];obtain⟨w',r1,r2,r3⟩:=h2.drop (oA M) M.ht (y_ M hw) ty;refine⟨_,w',r1,dS hg' hS q.lt hf (bU q) 0 (f':=ff) ⟨h1,_,r2,h3.del⟩ (n6 M r3 h1) (λj hj=>⟨?_,.inl hj⟩) (.tuple _ _ rfl (λi v v' h=>by simp at h))⟩;rw[(h1 j).1 hj];exact r2.lt
end rows
end Go.Ev
namespace Go.Ev
open Go.RowKit
def cQ(w0:World)(X:Nat->Prop):aK where
 p:=λ_ F w=>(∀ j,F j↔j<w0.heap.size/\¬ X j)/\∀ j,j<w0.heap.size->¬ X j->w.heap[j]? = w0.heap[j]?
 keep:=λι F w w' hk ⟨h1,h3⟩=>⟨h1,λj hj hx=>(hk j ((h1 j).2 ⟨hj,hx⟩)).trans (h3 j hj hx)⟩
 mono:=λ_ _ _ _ _ h=>h
abbrev K3(w0:World):aK:=cQ w0 (λ_=>False)
def fL(X:Nat->Prop):Value->Prop
 | .slice (some ⟨b,_,_⟩) n _=>0<n->¬ X b
 | _=>True
theorem aH(v:Value):fL (λ_=>False) v:=by
 unfold fL
 split
 ·exact λ_ h=>h
 ·trivial
def c7(sz:Nat)(v:Value)(n:Nat)(xs:List Value)(w0:World):Prop :=
 xs.length=n*sz/\((n=0/\∃ a c,v=.slice a 0 c)\/∃ b off c,v=.slice (some ⟨b,off,none⟩) n c/\(b<w0.heap.size/\n<=c)/\∀ j,j<n*sz->w0.cell? ⟨b,off+j,none⟩=xs[j]?)
def au(v:Value)(m:Nat):Value :=
 match v with
 | .slice (some ⟨b,off,_⟩) _ _=>.pointer (some ⟨b,off+m,none⟩)
 | _=>.pointer none
theorem ae(v:Value)(m:Nat):aR (au v m)=true:=by
 unfold au
 split<;>rfl
theorem c7.leaf{sz n:Nat}{v:Value}{xs:List Value}{w0:World}(h:c7 sz v n xs w0):aR v=true:=by
 obtain⟨_,⟨_,a,c,rfl⟩ | ⟨b,off,c,rfl,_⟩⟩:=h<;>rfl
theorem pA{w w0:World}{X:Nat->Prop}{b o:Nat}(hb:b<w0.heap.size)(hx:¬ X b)(h:∀ j,j<w0.heap.size->¬ X j->w.heap[j]? = w0.heap[j]?):w.cell? ⟨b,o,none⟩=w0.cell? ⟨b,o,none⟩:=by
 simp only[World.cell?,h b hb hx]
section rows
variable{k:Kn}{P:Program}{g:Nat}{l:List aK}{ci:Nat}{w0:World}{X:Nat->Prop}{t e:TypeId}{sL sI sP sQ sV n sz m:Nat}{v:Value}{xs:List Value}
theorem bH{ι:ag}{m:Nat}{x':Value}(h:letI:aL:=k.sig;aw ι (sy m) x'):x'=k.val m:=by
 letI:aL:=k.sig;cases h with
 | sym n m' _ h=>exact h.symm
theorem eB{ι:ag}{m:Nat}{x':Value}(h:k.val m=x'):letI:aL:=k.sig;aw ι (sy m) x':=by
 letI:aL:=k.sig;exact .sym m 0 x' h
theorem bf(hg:k.gs[g]? = some (star l))(hi:l[ci]? = some (cQ w0 X))(hs:c7 sz v n xs w0)(ht:P.underlying t=some (.slice e))(hL:k.val sL=v)(hV:k.val sV=.int .i64 (n:Int)):aD k P ⟨[10,t],[sy sL],none,g,none,sy sV,none⟩:=by
 refine aD.len k ?_;letI:aL:=k.sig;intro ι F w d x' ty q hx;rw[bH hx,hL];have:(Builtin.len_ #[t] ty #[v]).run P w=.ok (.int .i64 n) w:=by
  obtain⟨h1,⟨rfl,a,c,rfl⟩ | ⟨b,off,c,rfl,_⟩⟩:=hs<;>simp[Builtin.len_,run_underlying ht,goInt]
 exact⟨_,w,this,eB hV,Below.refl _ _⟩
theorem bj{kd:IntKind}{j:Nat}{i:TypeInfo}(hg:k.gs[g]? = some (star l))(hi:l[ci]? = some (cQ w0 X))(hs:c7 sz v n xs w0)(ht:P.underlying t=some (.slice e))(cZ:P.info? e=some i)(hsz:i.size=sz)(hL:k.val sL=v)(hI:k.val sI=.int kd (j:Int))(hj:j<n)(hP:k.val sP=au v (j*sz)):aD k P ⟨[3,t],[sy sL,sy sI],none,g,none,sy sP,none⟩:=by
 refine aD.index k ?_;letI:aL:=k.sig;intro ι F w d x' y' q hx hy;rw[bH hx,bH hy,hL,hI];obtain⟨h1,⟨rfl,_⟩ | ⟨b,off,c,rfl,⟨hb,_⟩,hc⟩⟩:=hs
 ·omega
 ·refine⟨.pointer (some ⟨b,off+j*sz,none⟩),w,?_,eB hP,Below.refl _ _⟩
  have hc:(0:Int)<=(j:Int)/\(j:Int)<(n:Int):=⟨by omega,by omega⟩;simp[Instr.indexAt,run_underlying ht,hc,sizeOf,typeInfo,cZ,hsz,dY,asIntOf];intro h;omega
theorem dA{f fo:Nat}(hg:k.gs[g]? = some (star l))(hs:c7 sz v n xs w0)(hn:0<n)(hF:∀ b o w,(Instr.fieldAt t (.pointer (some ⟨b,o,none⟩)) f).run P w=.ok (.pointer (some ⟨b,o+fo,none⟩)) w)(hP:k.val sP=au v m)(hQ:k.val sQ=au v (m+fo)):aD k P ⟨[7,t,f],[sy sP],none,g,none,sy sQ,none⟩:=by
 refine aD.fieldAddr k ?_;letI:aL:=k.sig;intro ι F w d x' q hx;rw[bH hx,hP];obtain⟨h1,⟨rfl,_⟩ | ⟨b,off,c,rfl,⟨hb,_⟩,hc⟩⟩:=hs
 ·omega
 ·exact⟨_,w,hF b (off+m) w,eB (by rw[hQ];show Value.pointer (some ⟨b,off+(m+fo),none⟩)=_;rw[Nat.add_assoc]),Below.refl _ _⟩
def gS(P:Program)(t:TypeId):Prop:=∀ b o x (w:World),w.cell? ⟨b,o,none⟩=some x->(Instr.loadAt t (.pointer (some ⟨b,o,none⟩))).run P w=.ok x w
def oB(P:Program)(t:TypeId)(sz:Nat):Prop:=∀ b o (cs:List Value) (w:World),cs.length=sz->(∀ j,j<sz->w.cell? ⟨b,o+j,none⟩=cs[j]?)->(Instr.loadAt t (.pointer (some ⟨b,o,none⟩))).run P w=.ok (.agg cs.toArray) w
theorem bq{x:Value}(hg:k.gs[g]? = some (star l))(hi:l[ci]? = some (cQ w0 X))(hs:c7 sz v n xs w0)(hL:gS P t)(hm:xs[m]? = some x)(hP:k.val sP=au v m)(hV:k.val sV=x)(hX:fL X v:=by first | assumption | exact Go.Ev.aH _):aD k P ⟨[1,t],[sy sP],none,g,none,sy sV,none⟩:=by
 refine aD.load k ?_;letI:aL:=k.sig;intro ι F w d x' q hx;obtain⟨Fs,ff,hS,hf,h1,h3⟩:=a_ hg hi q;rw[bH hx,hP];have hlt:=(List.getElem?_eq_some_iff.1 hm).1;obtain⟨e1,⟨rfl,_⟩ | ⟨b,off,c,rfl,⟨hb,_⟩,hc⟩⟩:=hs
 ·omega
 ·exact⟨x,w,hL b (off+m) x w (by rw[pA hb (hX (Nat.pos_of_ne_zero (λh0=>by rw[h0,Nat.zero_mul]at e1;omega))) h3,hc m (by omega),hm]),eB hV,Below.refl _ _⟩
theorem Cu{j:Nat}{cs abs:List Value}(hg:k.gs[g]? = some (star l))(hi:l[ci]? = some (cQ w0 X))(hs:c7 sz v n xs w0)(hL:oB P t sz)(hj:j<n)(hcs:cs=(xs.drop (j*sz)).take sz)(hP:k.val sP=au v (j*sz))(hV:∀ ι,(letI:aL:=k.sig;cx ι abs cs))(hX:fL X v:=by first | assumption | exact Go.Ev.aH _):aD k P ⟨[1,t],[sy sP],none,g,none,.agg abs.toArray,none⟩:=by
 refine aD.load k ?_;letI:aL:=k.sig;intro ι F w d x' q hx;obtain⟨Fs,ff,hS,hf,h1,h3⟩:=a_ hg hi q;rw[bH hx,hP];obtain⟨e1,⟨rfl,_⟩ | ⟨b,off,c,rfl,⟨hb,_⟩,hc⟩⟩:=hs
 ·omega
 ·have hle:j*sz+sz<=n*sz:=by
   have:=Nat.mul_le_mul_right sz (show j+1<=n by omega);rw[Nat.add_mul,Nat.one_mul]at this;exact this
  have hlen:cs.length=sz:=by
   rw[hcs,List.length_take,List.length_drop];omega
  refine⟨.agg cs.toArray,w,hL b (off+j*sz) cs w hlen (λi hi=>?_),?_,Below.refl _ _⟩
  ·rw[Nat.add_assoc,pA hb (hX (by omega)) h3,hc _ (by omega),hcs,List.getElem?_take,if_pos hi,List.getElem?_drop]
  ·have:=hV ι
   exact .agg _ _ (by simpa using this.1) (λi v v' a b=>this.2 i v v' (by simpa using a) (by simpa using b))
end rows
def eC(w0:World)(X:Nat->Prop)(w:World):Prop:=∀ j,j<w0.heap.size->¬ X j->w.heap[j]? = w0.heap[j]?
theorem c7.old{sz n:Nat}{v:Value}{xs:List Value}{w0 w:World}{X:Nat->Prop}(h:c7 sz v n xs w0)(ho:eC w0 X w)(hX:fL X v:=by first | assumption | exact Go.Ev.aH _):c7 sz v n xs w:=by
 obtain⟨h1,h2 | ⟨b,off,c,e,⟨hb,hcap⟩,hc⟩⟩:=h
 ·exact⟨h1,.inl h2⟩
 ·subst e
  rcases Nat.eq_zero_or_pos n with h0 | h0
  ·subst h0
   exact⟨h1,.inl ⟨rfl,_,_,rfl⟩⟩
  have hX:=hX h0;have hlt:b<w.heap.size:=by
   have e1:=ho b hb hX;rw[Array.getElem?_eq_getElem hb]at e1;exact(Array.getElem?_eq_some_iff.1 e1).1
  exact⟨h1,.inr ⟨b,off,c,rfl,⟨hlt,hcap⟩,λj hj=>by rw[pA hb hX ho];exact hc j hj⟩⟩
def oC(k:Kn)(x v:Value):Prop:=∀ ι x',(letI:aL:=k.sig;aw ι x x')->x'=v
theorem cu{k:Kn}{m:Nat}{v:Value}(h:k.val m=v):oC k (sy m) v:=λι x' hx=>by rw[bH hx,h]
theorem dM{k:Kn}{kd:IntKind}{m:Int} : oC k (.int kd m) (.int kd m):=λι x' hx=>by
 letI:aL:=k.sig;cases hx with
 | int=>rfl
theorem FH{k:Kn}{P:Program}{g:Nat}{t u:TypeId}{x y:Value}{sV:Nat}{kd:IntKind}{a b:Int}(hx:oC k x (.int kd a))(hy:oC k y (.int kd b))(hV:k.val sV=.int kd (min a b)):aD k P ⟨[16,t,u],[x,y],none,g,none,sy sV,none⟩:=by
 refine aD.min k ?_;letI:aL:=k.sig;intro ι F w d x' y' ty q h1 h2;rw[hx _ _ h1,hy _ _ h2];refine⟨_,w,?_,eB hV,Below.refl _ _⟩;simp[Builtin.min_,Builtin.min2]
 try (by_cases h:a<=b<;>simp[h,Int.min_def]<;>omega)
theorem FI{k:Kn}{P:Program}{g:Nat}{t u:TypeId}{x y:Value}{sV:Nat}{kd:IntKind}{a b:Int}(hx:oC k x (.int kd a))(hy:oC k y (.int kd b))(hV:k.val sV=.int kd (max a b)):aD k P ⟨[17,t,u],[x,y],none,g,none,sy sV,none⟩:=by
 refine aD.max k ?_;letI:aL:=k.sig;intro ι F w d x' y' ty q h1 h2;rw[hx _ _ h1,hy _ _ h2];refine⟨_,w,?_,eB hV,Below.refl _ _⟩;simp[Builtin.max_,Builtin.max2]
 try (by_cases h:a<=b<;>simp[h,Int.max_def]<;>omega)
def Flat(a:aK):Prop:=∀ ι κ F w,a.p ι F w->a.p κ F w
theorem ni{l:List aK}(h:∀ a ∈ l,Flat a):Flat (star l):=λι κ F w ⟨Fs,q⟩=>⟨Fs,q.len,λi a f h1 h2=>h a (List.mem_of_getElem? h1) ι κ f w (q.holds i a f h1 h2),q.apart,q.all⟩
structure Same(W w:World):Prop where
 os:w.os=W.os
 tape:w.tape=W.tape
 output:w.output=W.output
 size:W.heap.size<=w.heap.size
theorem Same.refl(W:World):Same W W:=⟨rfl,rfl,rfl,Nat.le_refl _⟩
theorem Same.trans{a b c:World}(h:Same a b)(k:Same b c):Same a c:=⟨k.os.trans h.os,k.tape.trans h.tape,k.output.trans h.output,Nat.le_trans h.size k.size⟩
theorem Turn.same{F:Nat->Prop}{w w':World}(h:Turn F w w'):Same w w':=⟨h.os,h.tape,h.output,h.size⟩
structure bu(l:List aK)(F:Nat->Prop)(w:World):Prop where
 st:(star l).p (λ_=>none) F w
 lt:∀ j,F j->j<w.heap.size
theorem bu.gr{k:Kn}{g:Nat}{l:List aK}{F:Nat->Prop}{w:World}(h:bu l F w)(hl:∀ a ∈ l,Flat a)(hg:k.gs[g]? = some (star l))(ι:ag):letI:aL:=k.sig;aL.GR g ι F w:=⟨_,hg,ni hl _ _ F w h.st⟩
theorem Left.now{k:Kn}{g:Nat}{l:List aK}{rn:List (Nat×Nat)}{bl:List g_}{F:Nat->Prop}{w w1:World}{κ:ag}(h:letI:aL:=k.sig;Left rn bl g F w κ w1)(hl:∀ a ∈ l,Flat a)(hg:k.gs[g]? = some (star l)):∃ F',bu l F' w1/\Same w w1:=by
 letI:aL:=k.sig;obtain⟨F',⟨a,q1,q2⟩,q3,q4⟩:=h.gh;rw[hg]at q1;cases q1;exact⟨F',⟨ni hl _ _ F' w1 q2,λj hj=>(q3 j hj).1⟩,h.turn.same⟩
theorem bu.part{l:List aK}{F:Nat->Prop}{w:World}(h:bu l F w){i:Nat}{a:aK}(hi:l[i]? = some a):∃ f,a.p (λ_=>none) f w:=by
 obtain⟨Fs,q⟩:=h.st;have hlt:i<Fs.length:=by rw[q.len];exact(List.getElem?_eq_some_iff.1 hi).1
 exact⟨_,q.holds i a _ hi (List.getElem?_eq_getElem hlt)⟩
theorem bu.below{l:List aK}{F:Nat->Prop}{w W:World}(h:bu l F w){i:Nat}(hi:l[i]? = some (K3 W))(hs:Same W w):Below W.heap.size W w:=by
 obtain⟨f,h1,h3⟩:=h.part hi;exact⟨hs.os,hs.tape,hs.output,hs.size,λj hj=>h3 j hj (λh=>h)⟩
theorem aX(w:World):bu [] (λ_=>False) w :=
 ⟨⟨[],rfl,(λi a f h=>by cases h),(λi j f f' _ h=>by cases h),λx=>⟨λh=>h.elim,λ⟨i,f,h,_⟩=>by cases h⟩⟩,λj h=>h.elim⟩
theorem cf{a:aK}{l:List aK}{Fa F:Nat->Prop}{w:World}(ha:a.p (λ_=>none) Fa w)(hl:bu l F w)(hlt:∀ j,Fa j->j<w.heap.size)(hd:∀ j,Fa j->¬ F j):bu (a::l) (λj=>Fa j\/F j) w:=by
 obtain⟨⟨Fs,h1,h2,h3,h4⟩,h5⟩:=hl;refine⟨⟨Fa::Fs,by simp[h1],λi b f k1 k2=>?_,λi j f f' hij k1 k2 x hx hx'=>?_,λx=>⟨λh=>?_,λ⟨i,f,k1,k2⟩=>?_⟩⟩,λj hj=>hj.elim (hlt j) (h5 j)⟩
 ·cases i with
  | zero=>cases k1;cases k2;exact ha
  | succ i=>exact h2 i b f (by simpa using k1) (by simpa using k2)
 ·cases i with
  | zero =>
   cases j with
   | zero=>exact hij rfl
   | succ j =>
    cases k1;exact hd x hx ((h4 x).2 ⟨j,f',by simpa using k2,hx'⟩)
  | succ i =>
   cases j with
   | zero =>
    cases k2;exact hd x hx' ((h4 x).2 ⟨i,f,by simpa using k1,hx⟩)
   | succ j=>exact h3 i j f f' (λe=>hij (by rw[e])) (by simpa using k1) (by simpa using k2) x hx hx'
 ·rcases h with h | h
  ·exact⟨0,Fa,rfl,h⟩
  ·obtain⟨i,f,k1,k2⟩:=(h4 x).1 h
   exact⟨i+1,f,by simpa using k1,k2⟩
 ·cases i with
  | zero=>cases k1;exact .inl k2
  | succ i=>exact .inr ((h4 x).2 ⟨i,f,by simpa using k1,k2⟩)
theorem bT{a:aK}{l:List aK}{F:Nat->Prop}{w:World}(h:bu (a::l) F w):∃ Fa Fl,a.p (λ_=>none) Fa w/\bu l Fl w/\(∀ j,Fa j->¬ Fl j)/\∀ j,F j↔Fa j\/Fl j:=by
 obtain⟨⟨Fs,h1,h2,h3,h4⟩,h5⟩:=h
 match Fs,h1 with
 | Fa::Fs,h1 =>
  refine⟨Fa,λj=>∃ (i:Nat) (f:Nat->Prop),Fs[i]? = some f/\f j,h2 0 a Fa rfl rfl,⟨⟨Fs,by simpa using h1,λi b f k1 k2=>h2 (i+1) b f (by simpa using k1) (by simpa using k2),λi j f f' hij k1 k2=>h3 (i+1) (j+1) f f' (by omega) (by simpa using k1) (by simpa using k2),λx=>Iff.rfl⟩,λj ⟨i,f,k1,k2⟩=>h5 j ((h4 j).2 ⟨i+1,f,by simpa using k1,k2⟩)⟩,λj hj ⟨i,f,k1,k2⟩=>h3 0 (i+1) Fa f (by omega) rfl (by simpa using k1) j hj k2,λj=>⟨λhj=>?_,λhj=>?_⟩⟩
  ·obtain⟨i,f,k1,k2⟩:=(h4 j).1 hj
   cases i with
   | zero=>cases k1;exact .inl k2
   | succ i=>exact .inr ⟨i,f,by simpa using k1,k2⟩
  ·rcases hj with hj | ⟨i,f,k1,k2⟩
   ·exact(h4 j).2 ⟨0,Fa,rfl,hj⟩
   ·exact(h4 j).2 ⟨i+1,f,by simpa using k1,k2⟩
theorem bu.of{l:List aK}{F:Nat->Prop}{w:World}{κ:ag}(hl:∀ a ∈ l,Flat a)(h:(star l).p κ F w)(hlt:∀ j,F j->j<w.heap.size):bu l F w:=⟨ni hl _ _ F w h,hlt⟩
theorem zb{k:Kn}{ι:ag} : letI:aL:=k.sig;cx ι [] []:=⟨rfl,λi v v' h=>by simp at h⟩
theorem iw{k:Kn}{ι:ag}{x x':Value}{l l':List Value}(h:letI:aL:=k.sig;aw ι x x')(h':letI:aL:=k.sig;cx ι l l'):letI:aL:=k.sig;cx ι (x::l) (x'::l'):=by
 letI:aL:=k.sig;refine⟨by simp[h'.1],λi v v' h1 h2=>?_⟩
 match i with
 | 0=>simp at h1 h2;subst h1 h2;exact h
 | i+1=>exact h'.2 i v v' (by simpa using h1) (by simpa using h2)
theorem Jr{k:Kn}{ι:ag}{kd:IntKind}{m:Int} : letI:aL:=k.sig;aw ι (.int kd m) (.int kd m):=by
 letI:aL:=k.sig;exact .int kd m
theorem HZ{k:Kn}{ι:ag}{b:Bool} : letI:aL:=k.sig;aw ι (.bool b) (.bool b):=by
 letI:aL:=k.sig;exact .bool b
theorem xp{args:Array Value}{N:Nat}(h:args.size<=N):(args++Array.replicate (N-args.size) undef).size=N:=by
 simp;omega
theorem AC{args:Array Value}{N i:Nat}{v:Value}(h:args[i]? = some v):(args++Array.replicate (N-args.size) undef).getD i undef=v:=by
 have hi:=(Array.getElem?_eq_some_iff.1 h).1;rw[Array.getD_eq_getD_getElem?,Array.getElem?_append_left hi,h];rfl
structure eO where
 W:World
 X:Nat->Prop
def kM(κ:ag)(a:aK):aK where
 p:=λ_ F w=>a.p κ F w
 keep:=λ_ F w w' hk h=>a.keep κ F w w' hk h
 mono:=λ_ _ _ _ _ h=>h
def bv(b:Nat)(cs:List Value)(T:TypeId):aK where
 p:=λ_ F w=>(∀ j,F j↔j=b)/\w.heap[b]? = some (.cells cs.toArray T (0,0))
 keep:=λ_ F w w' hk ⟨h1,h2⟩=>⟨h1,(hk b ((h1 b).2 rfl)).trans h2⟩
 mono:=λ_ _ _ _ _ h=>h
def ce(d:Nat)(a:Value->aK):aK where
 p:=λι F w=>∃ c,ι d=some c/\(a (dec c)).p ι F w
 keep:=λι F w w' hk ⟨c,h1,h2⟩=>⟨c,h1,(a (dec c)).keep ι F w w' hk h2⟩
 mono:=λι κ F w hle ⟨c,h1,h2⟩=>⟨c,hle _ _ h1,(a (dec c)).mono ι κ F w hle h2⟩
def Cv:aK where
 p:=λ_ F _=>∀ j,¬ F j
 keep:=λ_ _ _ _ _ h=>h
 mono:=λ_ _ _ _ _ h=>h
theorem dk{l:List aK}{F G:Nat->Prop}{w:World}(h:bu l F w)(e:∀ j,F j↔G j):bu l G w:=by
 rw[← show F=G from funext λj=>propext (e j)];exact h
theorem dB:∀ {l m:List aK} {F G:Nat->Prop} {w:World},bu l F w->bu m G w->(∀ j,F j->¬ G j)->bu (l++m) (λj=>F j\/G j) w:=by
 intro l
 induction l with
 | nil =>
  intro m F G w h1 h2 hd;refine dk h2 (λj=>⟨.inr,λh=>h.elim (λh=>?_) id⟩);obtain⟨⟨Fs,e1,e2,e3,e4⟩,_⟩:=h1;obtain⟨i,f,k1,k2⟩:=(e4 j).1 h;have:Fs=[]:=List.eq_nil_of_length_eq_zero e1;rw[this]at k1;cases k1
 | cons a l ih =>
  intro m F G w h1 h2 hd;obtain⟨Fa,Fl,k1,k2,k3,k4⟩:=bT h1;refine dk (cf k1 (ih k2 h2 (λj hj=>hd j ((k4 j).2 (.inr hj)))) (λj hj=>h1.lt j ((k4 j).2 (.inl hj))) (λj hj hh=>hh.elim (k3 j hj) (hd j ((k4 j).2 (.inl hj))))) (λj=>?_);rw[k4 j];exact⟨λh=>h.elim (λh=>.inl (.inl h)) (λh=>h.elim (λh=>.inl (.inr h)) .inr),λh=>h.elim (λh=>h.elim .inl (λh=>.inr (.inl h))) (λh=>.inr (.inr h))⟩
theorem cC:∀ {l m:List aK} {F:Nat->Prop} {w:World},bu (l++m) F w->∃ F1 F2,bu l F1 w/\bu m F2 w/\(∀ j,F1 j->¬ F2 j)/\∀ j,F j↔F1 j\/F2 j:=by
 intro l
 induction l with
 | nil=>intro m F w h;exact⟨λ_=>False,F,aX w,h,λ_ h=>h.elim,λj=>⟨.inr,λh=>h.elim False.elim id⟩⟩
 | cons a l ih =>
  intro m F w h;obtain⟨Fa,Fl,k1,k2,k3,k4⟩:=bT h;obtain⟨F1,F2,e1,e2,e3,e4⟩:=ih k2;refine⟨λj=>Fa j\/F1 j,F2,cf k1 e1 (λj hj=>h.lt j ((k4 j).2 (.inl hj))) (λj hj hh=>k3 j hj ((e4 j).2 (.inl hh))),e2,λj hj hh=>hj.elim (λhj=>k3 j hj ((e4 j).2 (.inr hh))) (λhj=>e3 j hj hh),λj=>?_⟩;rw[k4 j,e4 j];exact⟨λh=>h.elim (λh=>.inl (.inl h)) (λh=>h.elim (λh=>.inl (.inr h)) .inr),λh=>h.elim (λh=>h.elim .inl (λh=>.inr (.inl h))) (λh=>.inr (.inr h))⟩
theorem ft{l:List aK}{F:Nat->Prop}{w w':World}(h:bu l F w)(hk:∀ j,F j->w'.heap[j]? = w.heap[j]?)(hs:w.heap.size<=w'.heap.size):bu l F w' :=
 ⟨(star l).keep _ F w w' hk h.st,λj hj=>Nat.lt_of_lt_of_le (h.lt j hj) hs⟩
theorem mf{l m:List aK}{F:Nat->Prop}{w:World}(h:bu l F w)(hl:m.length=l.length)(hm:∀ (i:Nat) a b f,l[i]? = some a->m[i]? = some b->a.p (λ_=>none) f w->b.p (λ_=>none) f w):bu m F w:=by
 obtain⟨⟨Fs,q⟩,lt⟩:=h;refine⟨⟨Fs,by rw[q.len,hl],λi b f h1 h2=>?_,q.apart,q.all⟩,lt⟩;have hi:i<l.length:=by rw[← hl];exact(List.getElem?_eq_some_iff.1 h1).1
 exact hm i l[i] b f (List.getElem?_eq_getElem hi) h1 (q.holds i _ f (List.getElem?_eq_getElem hi) h2)
theorem ke{l:List aK}{κ:ag}{F:Nat->Prop}{w:World}(h:(star l).p κ F w)(lt:∀ j,F j->j<w.heap.size):bu (l.map (kM κ)) F w:=by
 obtain⟨Fs,q⟩:=h;refine⟨⟨Fs,by rw[q.len,List.length_map],λi b f h1 h2=>?_,q.apart,q.all⟩,lt⟩;rw[List.getElem?_map]at h1;cases hi:l[i]? with
 | none=>rw[hi]at h1;cases h1
 | some a =>
  rw[hi]at h1;cases h1;exact q.holds i a f hi h2
noncomputable def xq(i:Nat):List Nat->Bool
 | []=>false
 | j::l=>Nat.beq i j||xq i l
theorem pB{i:Nat} : ∀ {l:List Nat},xq i l=false->i ∉ l
 | [],_,h=>by cases h
 | j::l,h,hm=>by
  have h':(Nat.beq i j||xq i l)=false:=h;rw[Bool.or_eq_false_iff]at h';rcases List.mem_cons.1 hm with e | hm
  ·subst e
   rw[Nat.beq_refl]at h';cases h'.1
  ·exact pB h'.2 hm
noncomputable def jo(n:Nat):List Nat->Bool
 | []=>true
 | i::l=>Nat.blt i n&&(!(xq i l)&&jo n l)
theorem zc{n:Nat} : ∀ {l:List Nat},jo n l=true->(∀ i ∈ l,i<n)/\l.Nodup
 | [],_=>⟨(λi h=>by cases h),List.nodup_nil⟩
 | i::l,h=>by
  have h':(Nat.blt i n&&(!(xq i l)&&jo n l))=true:=h;simp only[Bool.and_eq_true,Bool.not_eq_true']at h';obtain⟨k1,k2⟩:=zc h'.2.2;refine⟨λj hj=>?_,List.nodup_cons.2 ⟨pB h'.2.1,k2⟩⟩;rcases List.mem_cons.1 hj with rfl | hj
  ·exact Nat.le_of_ble_eq_true h'.1
  ·exact k1 j hj
def sel(l:List aK)(idx:List Nat):List aK:=idx.map λi=>l.getD i Cv
theorem kf{l:List aK}{F:Nat->Prop}{w:World}(h:bu l F w)(idx:List Nat)(hi:jo l.length idx=true):∃ F',bu (sel l idx) F' w/\∀ j,F' j->F j:=by
 obtain⟨h1,h2⟩:=zc hi;obtain⟨⟨Fs,q⟩,lt⟩:=h;have key:∀ (i:Nat) f,(idx.map λi=>Fs.getD i (λ_=>False))[i]? = some f->∃ k,idx[i]? = some k/\Fs[k]? = some f:=by
  intro i f hf;rw[List.getElem?_map]at hf;cases hk:idx[i]? with
  | none=>rw[hk]at hf;cases hf
  | some k =>
   rw[hk]at hf;have hlt:k<Fs.length:=by rw[q.len];exact h1 k (List.mem_of_getElem? hk)
   refine⟨k,rfl,?_⟩;rw[List.getElem?_eq_getElem hlt];have:Fs.getD k (λ_=>False)=f:=Option.some.inj hf;rw[List.getD_eq_getElem?_getD,List.getElem?_eq_getElem hlt]at this;exact congrArg some this
 refine⟨λx=>∃ (i:Nat) (f:Nat->Prop),(idx.map λi=>Fs.getD i (λ_=>False))[i]? = some f/\f x,⟨⟨idx.map λi=>Fs.getD i (λ_=>False),by simp[sel],λi a f k1 k2=>?_,λi j f f' hij k1 k2 x hx hx'=>?_,λx=>Iff.rfl⟩,?_⟩,?_⟩
 ·obtain⟨k,e1,e2⟩:=key i f k2
  unfold sel at k1;rw[List.getElem?_map,e1]at k1;have hlt:k<l.length:=h1 k (List.mem_of_getElem? e1);have:l.getD k Cv=a:=Option.some.inj k1;rw[List.getD_eq_getElem?_getD,List.getElem?_eq_getElem hlt]at this;exact q.holds k a f (by rw[List.getElem?_eq_getElem hlt];exact congrArg some this) e2
 ·obtain⟨k,e1,e2⟩:=key i f k1
  obtain⟨k',IQ,e2'⟩:=key j f' k2;refine q.apart k k' f f' (λe=>hij ?_) e2 e2' x hx hx';subst e;exact(List.getElem?_inj (List.getElem?_eq_some_iff.1 e1).1 h2).1 (e1.trans IQ.symm)
 ·rintro j ⟨i,f,k1,k2⟩
  obtain⟨k,e1,e2⟩:=key i f k1;exact lt j ((q.all j).2 ⟨k,f,e2,k2⟩)
 ·rintro j ⟨i,f,k1,k2⟩
  obtain⟨k,e1,e2⟩:=key i f k1;exact(q.all j).2 ⟨k,f,e2,k2⟩
structure ay(c:eO)(l:List aK)(w:World):Prop where
 ex:∃ F,bu l F w/\Turn c.X c.W w/\∀ j,F j->c.X j\/c.W.heap.size<=j
theorem ay.start{l:List aK}{F:Nat->Prop}{w:World}(h:bu l F w):ay ⟨w,F⟩ l w:=⟨⟨F,h,⟨rfl,rfl,rfl,Nat.le_refl _,λ_ _ _=>rfl⟩,λ_ h=>.inl h⟩⟩
theorem ay.sel{c:eO}{l:List aK}{w:World}(h:ay c l w)(idx:List Nat)(hi:jo l.length idx=true:=by kernel_rfl):ay c (Ev.sel l idx) w:=by
 obtain⟨F,h1,h2,h3⟩:=h.ex;obtain⟨F',k1,k2⟩:=kf h1 idx hi;exact⟨⟨F',k1,h2,λj hj=>h3 j (k2 j hj)⟩⟩
theorem ay.old{c:eO}{l:List aK}{w:World}(h:ay c l w):eC c.W c.X w:=by
 obtain⟨F,h1,h2,h3⟩:=h.ex;exact λj hj hx=>h2.block j hj hx
theorem ay.same{c:eO}{l:List aK}{w:World}(h:ay c l w):Same c.W w:=by
 obtain⟨F,h1,h2,h3⟩:=h.ex;exact h2.same
theorem ay.head{c:eO}{a b:aK}{l:List aK}{w:World}(h:ay c (a::l) w)(hab:∀ f,a.p (λ_=>none) f w->b.p (λ_=>none) f w):ay c (b::l) w:=by
 obtain⟨F,h1,h2,h3⟩:=h.ex;obtain⟨Fa,Fl,k1,k2,k3,k4⟩:=bT h1;exact⟨⟨F,dk (cf (hab Fa k1) k2 (λj hj=>h1.lt j ((k4 j).2 (.inl hj))) k3) (λj=>(k4 j).symm),h2,h3⟩⟩
theorem ay.vq{c:eO}{a:aK}{l:List aK}{w:World}{β:Type}{b:β->aK}{p:β->Prop}(h:ay c (a::l) w)(hab:∀ f,a.p (λ_=>none) f w->∃ x,p x/\(b x).p (λ_=>none) f w):∃ x,p x/\ay c (b x::l) w:=by
 obtain⟨F,h1,h2,h3⟩:=h.ex;obtain⟨Fa,Fl,k1,k2,k3,k4⟩:=bT h1;obtain⟨x,hx,k1'⟩:=hab Fa k1;exact⟨x,hx,⟨⟨F,dk (cf k1' k2 (λj hj=>h1.lt j ((k4 j).2 (.inl hj))) k3) (λj=>(k4 j).symm),h2,h3⟩⟩⟩
theorem ay.first{c:eO}{a:aK}{l:List aK}{w:World}(h:ay c (a::l) w):∃ f,a.p (λ_=>none) f w:=by
 obtain⟨F,h1,h2,h3⟩:=h.ex;obtain⟨Fa,Fl,k1,k2,k3,k4⟩:=bT h1;exact⟨Fa,k1⟩
theorem ay.into{c:eO}{l m:List aK}{F:Nat->Prop}{w w':World}(h:ay ⟨w,F⟩ m w')(hc:Turn c.X c.W w)(hF:∀ j,F j->c.X j\/c.W.heap.size<=j):ay c m w':=by
 obtain⟨G,h1,h2,h3⟩:=h.ex;refine⟨⟨G,h1,⟨h2.os.trans hc.os,h2.tape.trans hc.tape,h2.output.trans hc.output,Nat.le_trans hc.size h2.size,λj hj hn=>?_⟩,λj hj=>?_⟩⟩
 ·refine(h2.block j (Nat.lt_of_lt_of_le hj hc.size) (λhf=>?_)).trans (hc.block j hj hn)
  rcases hF j hf with h | h
  ·exact hn h
  ·omega
 ·rcases h3 j hj with h | h
  ·exact hF j h
  ·exact .inr (Nat.le_trans hc.size h)
theorem ay.below{c:eO}{l:List aK}{w:World}(h:ay c l w)(hX:∀ j,¬ c.X j):Below c.W.heap.size c.W w:=by
 obtain⟨F,h1,h2,h3⟩:=h.ex;exact⟨h2.os,h2.tape,h2.output,h2.size,λj hj=>h2.block j hj (hX j)⟩
def pC[aL](κ:ag):Value->Value
 | .map (some id)=>.map (some ((κ id).getD 0))
 | .slice (some ⟨id,off,none⟩) n c=>.slice (some ⟨(κ id).getD 0,off,none⟩) n c
 | v=>rH κ v
def dZ[aL]:Nat->ag->Value->Value
 | 0,κ,v=>pC κ v
 | n+1,κ,v=>match v with
  | .agg f=>.agg (f.toList.map (dZ n κ)).toArray
  | .tuple f=>.tuple (f.toList.map (dZ n κ)).toArray
  | .iface t v=>.iface t (dZ n κ v)
  | .func fn f c=>.func fn (f.toList.map (dZ n κ)).toArray (c.toList.map (dZ n κ)).toArray
  | v=>pC κ v
def kg:Fn->Bool
 | .yield _=>true
 | _=>false
def Js:Value->Bool
 | .map (some _)=>true
 | .slice (some ⟨id,_,none⟩) _ _=>!(gG id)
 | v=>IB v
def wb:Nat->Value->Bool
 | 0,v=>Js v
 | n+1,v=>match v with
  | .agg f=>f.toList.all (wb n)
  | .tuple f=>f.toList.all (wb n)
  | .iface _ v=>wb n v
  | .func fn f c=>!(kg fn)&&(f.toList.all (wb n)&&c.toList.all (wb n))
  | v=>Js v
def Kd(rn:List (Nat×Nat)):Value->Bool
 | .map (some id)=>(bh rn id).isSome
 | .pointer (some ⟨id,_,none⟩)=>(bh rn id).isSome
 | .pointer none | .slice none 0 0 | .map none | .nilFunc | .nilIface=>true
 | v=>dp v
def vt(rn:List (Nat×Nat)):Nat->Value->Bool
 | 0,v=>Kd rn v
 | n+1,v=>match v with
  | .agg f=>f.toList.all (vt rn n)
  | .tuple f=>f.toList.all (vt rn n)
  | .iface _ v=>vt rn n v
  | .func fn f c=>!(kg fn)&&(f.toList.all (vt rn n)&&c.toList.all (vt rn n))
  | v=>Kd rn v
theorem vu{κ:ag}[aL]{v v':Value}(h:aw κ v v')(hk:Js v=true):v'=pC κ v:=by
 cases h with
 | map id b h=>simp[pC,h]
 | slice id off b n c c' h h0 h1 h2 h3 =>
  have hg:gG id=false:=by simpa[Js] using hk
  rw[← h0 hg];simp[pC,h]
 | cD id off b h h0=>simp[pC,h]
 | ptr id off b h=>exact me (.ptr id off b h) hk
 | lM=>rfl
 | cz=>rfl
 | kU=>rfl
 | nilFunc=>rfl
 | nilIface=>rfl
 | sym n m _ h=>exact me (κ:=κ) (.sym n m _ h) hk
 | dyn id c _ h h'=>exact me (.dyn id c _ h h') hk
 | oR id c j _ h h'=>exact me (.oR id c j _ h h') hk
 | bool=>rfl
 | int=>rfl
 | float=>rfl
 | string=>rfl
 | _=>first | cases hk | (simp[Js,IB,dp]at hk)
theorem pD{κ:ag}[aL]{n:Nat}{f f':Array Value}(hf:f.size=f'.size)(h:∀ (i:Nat) (v v':Value),f[i]? = some v->f'[i]? = some v'->aw κ v v')(hk:f.toList.all (wb n)=true)(ih:∀ v v',aw κ v v'->wb n v=true->v'=dZ n κ v):f'=(f.toList.map (dZ n κ)).toArray:=by
 rw[List.all_eq_true]at hk;apply Array.ext (by simp[hf]);intro i h1 h2;have h3:i<f.size:=by rw[hf];exact h1
 rw[ih f[i] f'[i] (h i _ _ (Array.getElem?_eq_getElem h3) (Array.getElem?_eq_getElem h1)) (hk _ (by simp))];simp
theorem pE{κ:ag}[aL]:∀ (n:Nat) {v v':Value},aw κ v v'->wb n v=true->v'=dZ n κ v:=by
 intro n
 induction n with
 | zero=>exact λh hk=>vu h hk
 | succ n ih =>
  intro v v' h hk;cases v with
  | agg f=>cases h with | agg _ f' hf h=>exact congrArg Value.agg (pD hf h hk (λv v'=>ih))
  | tuple f=>cases h with | tuple _ f' hf h=>exact congrArg Value.tuple (pD hf h hk (λv v'=>ih))
  | iface t v=>cases h with | iface _ _ v' h=>exact congrArg (Value.iface t) (ih h hk)
  | func fn f c =>
   have hk':(!(kg fn)&&(f.toList.all (wb n)&&c.toList.all (wb n)))=true:=hk;simp only[Bool.and_eq_true]at hk';cases h with
   | func _ _ f' _ c' hy hf hc h h' =>
    rw[pD hf h hk'.2.1 (λv v'=>ih),pD hc h' hk'.2.2 (λv v'=>ih)];rfl
   | yield=>exact absurd hk'.1 (by simp[kg])
  | _=>exact vu h hk
theorem zd{rn:List (Nat×Nat)}{id:Nat}(h:(bh rn id).isSome=true):bh rn id=some ((bh rn id).getD 0):=by
 cases hr:bh rn id with
 | none=>rw[hr]at h;cases h
 | some b=>rfl
theorem G3{rn:List (Nat×Nat)}[aL]{v:Value}(hk:Kd rn v=true):aw (bh rn) v (pC (bh rn) v):=by
 unfold Kd at hk
 split at hk
 ·exact .map _ _ (zd hk)
 ·exact .ptr _ _ _ (zd hk)
 ·exact .lM
 ·exact .cz
 ·exact .kU
 ·exact .nilFunc
 ·exact .nilIface
 ·unfold dp at hk
  split at hk<;>first | exact .bool _ | exact .int _ _ | exact .float _ _ | exact .string _ | exact .sym _ _ _ rfl | contradiction | cases hk
theorem sU{rn:List (Nat×Nat)}[aL]{n:Nat}{f:Array Value}(hk:f.toList.all (vt rn n)=true)(ih:∀ v,vt rn n v=true->aw (bh rn) v (dZ n (bh rn) v)):f.size=(f.toList.map (dZ n (bh rn))).toArray.size/\∀ (i:Nat) (v v':Value),f[i]? = some v->(f.toList.map (dZ n (bh rn))).toArray[i]? = some v'->aw (bh rn) v v':=by
 rw[List.all_eq_true]at hk;refine⟨by simp,λi v v' h1 h2=>?_⟩;simp[h1]at h2;subst h2;exact ih v (hk v (by obtain⟨h3,rfl⟩:=Array.getElem?_eq_some_iff.1 h1;simp))
theorem vv{rn:List (Nat×Nat)}[aL]:∀ (n:Nat) (v:Value),vt rn n v=true->aw (bh rn) v (dZ n (bh rn) v):=by
 intro n
 induction n with
 | zero=>exact λv hk=>G3 hk
 | succ n ih =>
  intro v hk;cases v with
  | agg f=>obtain⟨h1,h2⟩:=sU hk ih;exact .agg _ _ h1 h2
  | tuple f=>obtain⟨h1,h2⟩:=sU hk ih;exact .tuple _ _ h1 h2
  | iface t v=>exact .iface _ _ _ (ih _ hk)
  | func fn f c =>
   have hk':(!(kg fn)&&(f.toList.all (vt rn n)&&c.toList.all (vt rn n)))=true:=hk;simp only[Bool.and_eq_true]at hk';obtain⟨h1,h2⟩:=sU hk'.2.1 ih;obtain⟨h3,h4⟩:=sU hk'.2.2 ih;exact .func fn _ _ _ _ (λl e=>by rw[e]at hk';simp[kg]at hk') h1 h3 h2 h4
  | _=>exact G3 hk
end Go.Ev
