/- Part of a proof: see the last text. -/
import Derived.Test.YtbcnbofkgkheeaaGreatZn14
import Derived.Test.YtbcnbofkgkheeaaGreatZn12
import Derived.OwnWalk
set_option linter.unusedSectionVars false
set_option linter.unusedSimpArgs false
set_option linter.unusedVariables false
namespace Go.Ev
open Go.RowKit
theorem ah.cJ{e:TypeId}{sz:Nat}{c:fQ}{l:List aC}{w:World}(h:ah c l w):ah c (aD e sz (.slice none 0 0) 0 []::l) w:=by
 obtain⟨F,h1,h2,h3⟩:=h.ex;refine⟨⟨_,cb (a:=aD e sz (.slice none 0 0) 0 []) (fh.nil e sz w) h1 (λj hj=>hj.elim) (λj hj=>hj.elim),h2,λj hj=>hj.elim (λh=>h.elim) (h3 j)⟩⟩
section
variable{k:Kn}{P:Program}{g g':Nat}{l:List aC}{t kT e:TypeId}
theorem grow_end{r:Value}{ι:ag}{F f':Nat->Prop}{w w':World}{d:Nat}{a':aC}(hg':k.gs[g']? = some (star (l++[a'])))(hS:(star l).p ι F w)(lt:∀ x,F x->x<w.heap.size)(hd:ι d=none)(c:Nat){v':Value}(ha:a'.p (ι.upd d c) f' w')(hb:Below w.heap.size w w')(hs:∀ x,f' x->x<w'.heap.size/\w.heap.size<=x)(hv:letI:aP:=k.sig;ao (ι.upd d c) r v'):letI:aP:=k.sig;xw ι d F w r (some g') v' w':=by
 letI:aP:=k.sig;obtain⟨Fs,q⟩:=hS;refine⟨c,λj=>F j\/f' j,hv,⟨_,hg',Fs++[f'],by simp[q.len],λi a f h1 h2=>?_,λi j f f2 hij h1 h2 x hx hx'=>?_,λx=>⟨λh=>?_,λ⟨i,f,h1,h2⟩=>?_⟩⟩,Turn.below hb,λj hj=>?_⟩
 ·rcases Nat.lt_or_ge i l.length with hi | hi
  ·rw[List.getElem?_append_left hi]at h1
   rw[List.getElem?_append_left (by rw[q.len];exact hi)]at h2;refine a.mono ι _ f w' (ag.dE (b:=c) hd) (a.keep ι f w w' (λx hx=>hb.block x (lt x ((q.all x).2 ⟨i,f,h2,hx⟩))) (q.holds i a f h1 h2))
  ·rw[List.getElem?_append_right hi]at h1
   rw[List.getElem?_append_right (by rw[q.len];exact hi),q.len]at h2;cases hk:i-l.length with
   | zero=>rw[hk]at h1 h2;cases h1;cases h2;exact ha
   | succ m=>rw[hk]at h1;cases h1
 ·rcases Nat.lt_or_ge i Fs.length with hi | hi
  ·rw[List.getElem?_append_left hi]at h1
   rcases Nat.lt_or_ge j Fs.length with hj | hj
   ·rw[List.getElem?_append_left hj]at h2
    exact q.apart i j f f2 hij h1 h2 x hx hx'
   ·rw[List.getElem?_append_right hj]at h2
    cases hk:j-Fs.length with
    | zero =>
     rw[hk]at h2;cases h2;have h3:=lt x ((q.all x).2 ⟨i,f,h1,hx⟩);have h4:=(hs x hx').2;omega
    | succ m=>rw[hk]at h2;cases h2
  ·rw[List.getElem?_append_right hi]at h1
   cases hk:i-Fs.length with
   | succ m=>rw[hk]at h1;cases h1
   | zero =>
    rw[hk]at h1;cases h1;rcases Nat.lt_or_ge j Fs.length with hj | hj
    ·rw[List.getElem?_append_left hj]at h2
     have h3:=lt x ((q.all x).2 ⟨j,f2,h2,hx'⟩);have h4:=(hs x hx).2;omega
    ·rw[List.getElem?_append_right hj]at h2
     cases hk':j-Fs.length with
     | zero=>omega
     | succ m=>rw[hk']at h2;cases h2
 ·rcases h with h | h
  ·obtain⟨i,f,h1,h2⟩:=(q.all x).1 h
   exact⟨i,f,by rw[List.getElem?_append_left (List.getElem?_eq_some_iff.1 h1).1];exact h1,h2⟩
  ·exact⟨Fs.length,f',by simp,h⟩
 ·rcases Nat.lt_or_ge i Fs.length with hi | hi
  ·rw[List.getElem?_append_left hi]at h1
   exact .inl ((q.all x).2 ⟨i,f,h1,h2⟩)
  ·rw[List.getElem?_append_right hi]at h1
   cases hk:i-Fs.length with
   | zero=>rw[hk]at h1;cases h1;exact .inr h2
   | succ m=>rw[hk]at h1;cases h1
 ·rcases hj with hj | hj
  ·exact⟨Nat.lt_of_lt_of_le (lt j hj) hb.size,.inl hj⟩
  ·exact⟨(hs j hj).1,.inr (hs j hj).2⟩
end
theorem Nd{k:Kn}{P:Program}{c:fQ}{f:FuncId}{abs args:List Value}{g g' d1:Nat}{gl lp:List aC}{r:Value}{ret:Value->Value}(fs:List (Value->aC))(idx rest:List Nat)(hg:k.gs[g]? = some (star (dn c.W c.X::gl)))(hg':k.gs[g']? = some (star (dn c.W c.X::(fs.map (bP d1)++sel gl rest))))(hsel:ku gl.length (idx++rest)=true)(hp:sel gl idx=lp)(hf:lP lp)
  (ha:∀ ι l',(letI:aP:=k.sig;cN ι abs l')->l'=args) (hr:∀ (ι:ag) cd,ι d1=some cd->(letI:aP:=k.sig;ao ι r (ret (dec cd))))
  (con:∀ (w:World) (F:Nat->Prop),jZ c.W c.X w->bI lp F w->(∀ j,F j->c.X j\/c.W.heap.size<=j)->Calls P f args.toArray w λe w'=>∃ v cd,dec cd=v/\e=.returned (ret v)/\ah ⟨w,F⟩ (fs.map (λf=>f v)) w'):dQ k P ⟨f,abs,g,some d1,r,some g'⟩:=by
 refine IB (lq:=λv=>fs.map (λf=>f v)) idx rest hg hg' hsel hp hf ha hr (λι cd w' hi=>⟨by simp,λi a b ff h1 h2 h=>?_⟩) con;rw[List.getElem?_map]at h1 h2;cases hfi:fs[i]? with
 | none=>rw[hfi]at h1;cases h1
 | some q =>
  rw[hfi]at h1 h2;cases h1;cases h2;exact⟨cd,hi,(q (dec cd)).mono _ _ ff w' (λ_ _ e=>by cases e) h⟩
def cutV(sz:Nat)(v:Value)(lo hi:Nat):Value :=
 match v with
 | .slice none _ c=>.slice none (hi-lo) (c-lo)
 | .slice (some a) _ c=>.slice (some (if c=lo then a else a.add (lo*sz))) (hi-lo) (c-lo)
 | v=>v
theorem Gr{sz lo hi:Nat}{v:Value}(h:ai v=true):ai (cutV sz v lo hi)=true:=by
 unfold cutV
 split
 ·rfl
 ·rfl
 ·exact h
section cuts
variable{k:Kn}{P:Program}{g:Nat}{t e:TypeId}{sL sA sB sV n sz lo hi:Nat}{v:Value}{xs:List Value}{w0:World}{i:TypeInfo}{kd kd':IntKind}
theorem Ne{eR hiv:Option Value}(hlo:eR=none/\lo=0\/eR=some (.int kd (lo:Int)))(hhi:hiv=some (.int kd' (hi:Int)))(hs:lT sz v n xs w0)(ht:P.underlying t=some (.slice e))(jl:P.info? e=some i)(hsz:i.size=sz)(h1:lo<=hi)(h2:hi<=n)(w:World) :
  (Instr.sliceAt t v eR hiv none).run P w=.ok (cutV sz v lo hi) w:=by
 subst hsz;subst hhi;have hbd:∀ c:Nat,n<=c->(Instr.sliceBounds true n c eR (some (.int kd' (hi:Int))) none).run P w=.ok (lo,hi,c) w:=by
  intro c hc;have e1:(hi:Int)<=(c:Int):=by omega
  have e2:(lo:Int)<=(hi:Int):=by omega
  rcases hlo with ⟨rfl,rfl⟩ | rfl
  ·simp[Instr.sliceBounds,run_sliceBound,e1]
  ·simp[Instr.sliceBounds,run_sliceBound,e1,e2]
 have hs':(Instr.sliceAt t v eR (some (.int kd' (hi:Int))) none).run P w=(Instr.slice t v eR (some (.int kd' (hi:Int))) none).run P w:=by
  simp[Instr.sliceAt,run_underlying ht]
 rw[hs'];obtain⟨hl,⟨rfl,a,c,rfl⟩ | ⟨b,off,c,rfl,⟨hb,hc⟩,hx⟩⟩:=hs
 ·obtain rfl:hi=0:=by omega
  obtain rfl:lo=0:=by omega
  cases a with
  | none =>
   simp only[Instr.slice,Sem.run_bind,run_underlying ht,Result.andThen];rw[hbd c (Nat.zero_le _)];simp[sizeOf,typeInfo,jl,cutV]
  | some a =>
   simp only[Instr.slice,Sem.run_bind,run_underlying ht,Result.andThen];rw[hbd c (Nat.zero_le _)]
   by_cases e0:c=0<;>simp[sizeOf,typeInfo,jl,cutV,e0]
 ·simp only[Instr.slice,Sem.run_bind,run_underlying ht,Result.andThen]
  rw[hbd c hc]
  by_cases e0:c=lo<;>simp[sizeOf,typeInfo,jl,cutV,e0]
end cuts
def b_(l:List aC):aC where
 p:=λ_ F w=>bI l F w
 keep:=λ_ F w w' hk h=>⟨(star l).keep _ F w w' hk h.st,λj hj=>by
  have h1:=hk j hj;rw[Array.getElem?_eq_getElem (h.lt j hj)]at h1
  exact(Array.getElem?_eq_some_iff.1 h1).1⟩
 mono:=λ_ _ _ _ _ h=>h
def Me{β:Type}(q:β->Prop)(a:β->aC):aC where
 p:=λι F w=>∃ x,q x/\(a x).p ι F w
 keep:=λι F w w' hk ⟨x,h1,h2⟩=>⟨x,h1,(a x).keep ι F w w' hk h2⟩
 mono:=λι κ F w hle ⟨x,h1,h2⟩=>⟨x,h1,(a x).mono ι κ F w hle h2⟩
theorem IF{l m:List aC}{F:Nat->Prop}{w:World}(h:bI (b_ l::m) F w):bI (l++m) F w:=by
 obtain⟨Fa,Fl,k1,k2,k3,k4⟩:=bD h;exact eA (eh k1 k2 k3) (λj=>(k4 j).symm)
theorem Bf{l m:List aC}{F:Nat->Prop}{w:World}(h:bI (l++m) F w):bI (b_ l::m) F w:=by
 obtain⟨F1,F2,h1,h2,h3,h4⟩:=cy h;exact eA (cb (a:=b_ l) h1 h2 (λj hj=>h1.lt j hj) h3) (λj=>(h4 j).symm)
theorem P6{β:Type}{q:β->Prop}{a:β->aC}{m:List aC}{F:Nat->Prop}{w:World}(h:bI (Me q a::m) F w):∃ x,q x/\bI (a x::m) F w:=by
 obtain⟨Fa,Fl,⟨x,hx,k1⟩,k2,k3,k4⟩:=bD h;exact⟨x,hx,eA (cb k1 k2 (λj hj=>h.lt j ((k4 j).2 (.inl hj))) k3) (λj=>(k4 j).symm)⟩
section
variable{c:fQ}{l m:List aC}{w:World}
theorem ah.open(h:ah c (b_ l::m) w):ah c (l++m) w:=by
 obtain⟨F,h1,h2,h3⟩:=h.ex;exact⟨⟨F,IF h1,h2,h3⟩⟩
theorem ah.shut(h:ah c (l++m) w):ah c (b_ l::m) w:=by
 obtain⟨F,h1,h2,h3⟩:=h.ex;exact⟨⟨F,Bf h1,h2,h3⟩⟩
theorem ah.vt{β:Type}{q:β->Prop}{a:β->aC}(h:ah c (Me q a::m) w):∃ x,q x/\ah c (a x::m) w:=by
 obtain⟨F,h1,h2,h3⟩:=h.ex;obtain⟨x,hx,k⟩:=P6 h1;exact⟨x,hx,⟨⟨F,k,h2,h3⟩⟩⟩
theorem ah.vu{β:Type}{q:β->Prop}{a:β->aC}(x:β)(hx:q x)(h:ah c (a x::m) w):ah c (Me q a::m) w:=h.head (λF hF=>⟨x,hx,hF⟩)
end
theorem ah.step{c:fQ}{l m r:List aC}{w w':World}(h:ah c (l++r) w)(k:∀ F,bI l F w->(∀ j,F j->c.X j\/c.W.heap.size<=j)->ah ⟨w,F⟩ m w'):ah c (m++r) w':=by
 obtain⟨F,h1,h2,h3⟩:=h.ex;obtain⟨F1,F2,k1,k2,k3,k4⟩:=cy h1;have:=(k F1 k1 (λj hj=>h3 j ((k4 j).2 (.inl hj)))).frame k2 k3;exact this.into (l:=l) h2 (λj hj=>h3 j ((k4 j).2 hj))
section
variable{k:Kn}{P:Program}{g g':Nat}{l:List aC}{ci:Nat}{t u e:TypeId}{sL sS sV n sz m:Nat}{v:Value}{xs:List Value}{i:TypeInfo}{z:Value}
theorem aR.Ey{d0 ng:Option Nat}{r x y:Value}(h:letI:aP:=k.sig;∀ ι F w d x' y' ty,Ask k g d0 ng ι F w d->ao ι x x'->ao ι y y'->iE P (Builtin.append_ #[t,u] ty #[x',y']) ι d F w r ng):aR k P ⟨[11,t,u],[x,y],none,g,d0,r,ng⟩:=by
  letI:aP:=k.sig;intro o hk ev ι F w d hv _ h1 h2 h3 h4;obtain⟨a,b,ho⟩:=vV hk;obtain⟨cs,he⟩:=fg (ev:=ev) ho rfl;rw[ho]at hv;obtain⟨x',y',e,hx,hy⟩:=tE hv;simp[Op.operands,Call.operands]at e;obtain⟨rfl,rfl⟩:=e;obtain⟨v',w',r1,r2⟩:=h ι F w d _ _ o.type ⟨h1,h2,h3,h4⟩ hx hy;refine⟨.value v',v',w',?_,.inl rfl,r2⟩;rw[he];have hb:builtin .append #[t,u] o.type cs #[ev a,ev b]=(do pure (Next.value (← Builtin.append_ #[t,u] o.type #[ev a,ev b]))):=rfl;simp only[List.map_toArray,List.map_cons,List.map_nil];rw[hb];rw[Sem.run_bind,r1];rfl
theorem lT.src{e':Nat}{w:World}(h:lT sz v m xs w)(hu:P.underlying u=some (.slice e'))(h1:∀ x ∈ xs,x.oneCell'=true):Src P sz u v m xs w:=by
 obtain⟨hl,⟨rfl,a,c,rfl⟩ | ⟨b,off,c,rfl,⟨hb,hc⟩,hx⟩⟩:=h
 ·have:xs=[]:=List.eq_nil_of_length_eq_zero (by rw[hl];simp)
  subst this;cases a with
  | none=>exact Src.ofNil w hu c
  | some a=>exact Src.ofSlice w hu a 0 c [] (by simp) (λj x h=>by simp at h) (λx h=>by cases h)
 ·refine Src.ofSlice w hu ⟨b,off,none⟩ m c xs hl (λj x hj=>?_) h1
  rw[iF,hx j (by rw[← hl];exact(List.getElem?_eq_some_iff.1 hj).1),hj]
theorem tT{d0 ng:Option Nat}(hg:k.gs[g]? = some (star l))(hi:l[ci]? = some (aD e sz v m xs)):∀ ι F w d,Ask k g d0 ng ι F w d->lT sz v m xs w:=by
 intro ι F w d q;obtain⟨Fs,ff,hS,hf,h1⟩:=dC hg hi q;exact fh.ro h1
theorem m7{d1 e':Nat}{x vx:Value}(hg:k.gs[g]? = some (star l))(hg':k.gs[g']? = some (star (l++[bP d1 (λv'=>aD e sz v' m xs)])))(hx:AX k x vx)(hE:MT vx)(hS:k.val sS=v)(rd:∀ ι F w d,Ask k g (some d1) (some g') ι F w d->lT sz v m xs w)(ht:P.underlying t=some (.slice e))(hu:P.underlying u=some (.slice e'))(jl:P.info? e=some i)(hsz:i.size=sz)(hz:i.zero=some z)(hzs:z.cells.size=i.size)
  (hb:m*i.bytes<=140737488355328) (hm:m<=1000000000) (h1:∀ x ∈ xs,x.oneCell'=true):aR k P ⟨[11,t,u],[x,sy sS],none,g,some d1,.complex .f32 d1 0,some g'⟩:=by
 subst hsz;refine aR.Ey ?_;letI:aP:=k.sig;intro ι F w d x' y' ty q P7 Mv;have hsr:=rd ι F w d q;obtain rfl:=q.name d1 rfl;obtain⟨b,q1,q2⟩:=q.st;rw[hg]at q1;cases q1;rw[hx _ _ P7,fN Mv,hS];have h0:fh e i.size vx 0 [] (λ_=>False) w:=⟨by simp,.inl ⟨hE,rfl,λ_ h=>h⟩⟩;obtain⟨v2,w2,F2,r1,r2,r3,r4⟩:=fh.append (ty:=ty) h0 ht jl hz hzs (hsr.src hu h1) (by rw[Nat.zero_add];exact hb) (by omega);rw[Nat.zero_add,List.nil_append]at r2;obtain⟨cc,hcc⟩:=r2.code;have hup:(ι.upd d1 cc) d1=some cc:=by simp[ag.upd]
 refine⟨v2,w2,r1,grow_end hg' q2 q.lt (gE q) cc ⟨cc,hup,by rw[hcc];exact r2⟩ ⟨r3.os,r3.tape,r3.output,r3.size,λj hj=>r3.block j hj (λh=>h)⟩ (λj hj=>⟨(r4 j hj).1,(r4 j hj).2.elim (λh=>h.elim) id⟩) (.dyn d1 cc v2 hup hcc)⟩
theorem dq{kd:IntKind}{zs:List Int} : ∀ x ∈ zs.map (Value.int kd),x.oneCell'=true:=by
 intro x hx;obtain⟨z,_,rfl⟩:=List.mem_map.1 hx;rfl
theorem tU{k:Kn}{ι:ag}{d:Nat}{x':Value}(h:letI:aP:=k.sig;ao ι (.complex .f32 d 0) x'):∃ c,ι d=some c/\dec c=x':=by
 letI:aP:=k.sig;cases h with
 | dyn id c _ h h'=>exact⟨c,h,h'⟩
theorem r6{d1:Nat}(hg:k.gs[g]? = some (star l))(hi:l[ci]? = some (bP d1 (λv=>aD e sz v n xs)))(ht:P.underlying t=some (.slice e))(hsz:i.size=sz)(hV:k.val sV=.int .i64 (n:Int)):aR k P ⟨[10,t],[.complex .f32 d1 0],none,g,none,sy sV,none⟩:=by
 subst hsz;refine aR.len k ?_;letI:aP:=k.sig;intro ι F w d x' ty q hx;obtain⟨Fs,ff,hS,hf,c,h0,h1⟩:=dC hg hi q;obtain⟨c',e0,e1⟩:=tU hx;rw[h0]at e0;cases e0;rw[← e1];exact⟨_,w,fh.len h1 ht ty,mA hV,Below.refl _ _⟩
theorem oA{d1 d2 e':Nat}{c cs:List Value}(hg:k.gs[g]? = some (star l))(hi:l[ci]? = some (bP d2 (λv=>aD e sz v n xs)))(hg':k.gs[g']? = some (star (l.set ci (bP d1 (λv'=>aD e sz v' (n+m) (xs++cs))))))(ht:P.underlying t=some (.slice e))(hu:P.underlying u=some (.slice e'))(jl:P.info? e=some i)(hsz:i.size=sz)(h0:0<sz)(hz:i.zero=some z)(hzs:z.cells.size=i.size)
  (hb:(n+m)*i.bytes<=140737488355328) (hnm:n+m<=1000000000) (hm:c.length=m*sz) (hc:∀ ι c',(letI:aP:=k.sig;cN ι c c')->c'=cs):aR k P ⟨[11,t,u],[.complex .f32 d2 0],some (sz,1,c),g,some d1,.complex .f32 d1 0,some g'⟩:=by
 subst hsz;refine aR.append k ?_;letI:aP:=k.sig;intro ι F w d x' y' c' m' ty q hx hcr hcm ho hr hl;obtain⟨Fs,ff,hS,hf,cd,h0',h1⟩:=dC hg hi q;obtain⟨c2,e0,e1⟩:=tU hx;rw[h0']at e0;cases e0;rw[← e1];have hmm:m'=m:=Nat.eq_of_mul_eq_mul_right h0 (by rw[← hcm,hm]);subst hmm;obtain rfl:=q.name d1 rfl;have hs:Src P i.size u y' m' c' w:=⟨.inl ⟨_,hu⟩,hl,hr w rfl,hr w.drew rfl,by rw[← hcr.1];exact hm,Ex hcr ho⟩;obtain⟨v2,w2,F2,r1,r2,r3,r4⟩:=fh.append (ty:=ty) h1 ht jl hz hzs hs hb hnm;rw[hc _ _ hcr]at r2;obtain⟨cc,hcc⟩:=r2.code;have hup:(ι.upd d1 cc) d1=some cc:=by simp[ag.upd]
 exact⟨v2,w2,r1,rX hg' hS q.lt hf (gE q) cc ⟨cc,hup,by rw[hcc];exact r2⟩ r3 r4 (.dyn d1 cc v2 hup hcc)⟩
end
end Go.Ev
namespace Go.Proofs.YtbcnbofkgkheeaaGreat
open Go.Ev Go.Proofs.Tryz
open Go.RowKit
open Go.Ev (sy)
def aj(bm:Nat)(m:aG):aC where
 p:=λ_ F w=>jj bm m F w
 keep:=λ_ F w w' hk h=>tK h hk
 mono:=λ_ _ _ _ _ h=>h
theorem jL{a:aC}{F:Nat->Prop}{w:World}(h:bI [a] F w):∃ Fa,a.p (λ_=>none) Fa w/\∀ j,Fa j->F j:=by
 obtain⟨Fa,Fl,k1,k2,k3,k4⟩:=bD h;exact⟨Fa,k1,λj hj=>(k4 j).2 (.inl hj)⟩
theorem px{bm:Nat}{m:aG}{F Fa F':Nat->Prop}{w w':World}(hF:∀ j,Fa j->F j)(h:jj bm m F' w')(g:Grow Fa F' w w'):ah ⟨w,F⟩ [aj bm m] w':=by
 obtain⟨t,g2⟩:=g;refine⟨⟨_,cb (a:=aj bm m) h (iJ w') (Ik h) (λ_ _ h=>h),⟨t.os,t.tape,t.output,t.size,λj hj hn=>t.block j hj (λhf=>hn (hF j hf))⟩,λj hj=>?_⟩⟩;rcases hj with hj | hj
 ·exact(g2 j hj).2.imp (hF j) id
 ·exact hj.elim
def aG.tick(m:aG):aG:=⟨m.cells,IntKind.u64.wrap (m.ops+1)⟩
def aG.put(m:aG)(a:Nat)(v:Int):aG:=⟨m.cells.set a v,IntKind.u64.wrap (m.ops+1)⟩
section
variable{bm:Nat}{m:aG}{F:Nat->Prop}{w:World}
theorem cj(h:bI [aj bm m] F w){a:Nat}{x:Int}(hx:m.cells[a]? = some x)(ha2:(a:Int)<=9223372036854775807) :
  Calls prog 22 #[.pointer (some ⟨bm,0,none⟩),.int .i64 (a:Int)] w λe w'=>e=.returned (.int .u64 x)/\ah ⟨w,F⟩ [aj bm m.tick] w':=by
 obtain⟨Fa,h1,h2⟩:=jL h;obtain⟨ha,rfl⟩:=List.getElem?_eq_some_iff.1 hx;refine(Gm h1 ha ha2).mono ?_;rintro e w' ⟨F',rfl,k1,k2⟩;exact⟨rfl,px h2 k1 k2⟩
theorem dI(h:bI [aj bm m] F w){a:Nat}(ha:a<m.cells.length)(ha2:(a:Int)<=9223372036854775807)(v:Int) :
  Calls prog 30 #[.pointer (some ⟨bm,0,none⟩),.int .i64 (a:Int),.int .u64 v] w λe w'=>e=.returned (.tuple #[])/\ah ⟨w,F⟩ [aj bm (m.put a v)] w':=by
 obtain⟨Fa,h1,h2⟩:=jL h;refine(CM h1 ha ha2 v).mono ?_;rintro e w' ⟨F',rfl,k1,k2⟩;exact⟨rfl,px h2 k1 k2⟩
theorem Ez(h:bI [aj bm m] F w){a:Nat}{x:Int}(hx:m.cells[a]? = some x)(ha2:(a:Int)<=9223372036854775807)(u v:Int)(hy:x≠u) :
  Calls prog 116 #[.pointer (some ⟨bm,0,none⟩),.int .i64 (a:Int),.int .u64 u,.int .u64 v] w λe w'=>e=.returned (.bool false)/\ah ⟨w,F⟩ [aj bm m.tick] w':=by
 obtain⟨Fa,h1,h2⟩:=jL h;obtain⟨ha,rfl⟩:=List.getElem?_eq_some_iff.1 hx;refine(PU h1 ha ha2 u v hy).mono ?_;rintro e w' ⟨F',rfl,k1,k2⟩;exact⟨rfl,px h2 k1 k2⟩
theorem Bg(h:bI [aj bm m] F w){a:Nat}{x:Int}(hx:m.cells[a]? = some x)(ha2:(a:Int)<=9223372036854775807)(u v:Int)(hy:x=u) :
  Calls prog 116 #[.pointer (some ⟨bm,0,none⟩),.int .i64 (a:Int),.int .u64 u,.int .u64 v] w λe w'=>e=.returned (.bool true)/\ah ⟨w,F⟩ [aj bm (m.put a v)] w':=by
 obtain⟨Fa,h1,h2⟩:=jL h;obtain⟨ha,rfl⟩:=List.getElem?_eq_some_iff.1 hx;refine(M3 h1 ha ha2 u v hy).mono ?_;rintro e w' ⟨F',rfl,k1,k2⟩;exact⟨rfl,px h2 k1 k2⟩
end
def P8(bm:Nat)(m:aG):(Int×Int×Int×Int×Int×Value×Value×Nat×List Value)->List aC
 | (c1,c2,c3,c4,c5,lg,cl,n,xl)=>[aH bm [.int .u64 m.ops,.int .u64 c1,.int .u64 c2,.int .u64 c3,.int .u64 c4,.int .u64 c5,lg,cl] 105,aD 28 1 cl m.cells.length (aF m.cells),aD 119 4 lg n xl]
theorem IG{bm:Nat}{m:aG}{l:List aC}{c:fQ}{w:World}(h:ah c (aj bm m::l) w):∃ x,x.2.2.2.2.2.2.2.1<=256/\ai x.2.2.2.2.2.1=true/\ai x.2.2.2.2.2.2.1=true/\ah c (P8 bm m x++l) w:=by
 obtain⟨F,h1,h2,h3⟩:=h.ex;obtain⟨Fa,Fl,⟨c1,c2,c3,c4,c5,lg,cl,n,G,hn,hb,⟨v,xl,F1,F2,e,s1,s2,dj,hG⟩,hnb,Tq⟩,k2,k3,k4⟩:=bD h1;have e':v=lg:=e;subst e';refine⟨(c1,c2,c3,c4,c5,v,cl,n,xl),hn,s1.leaf,s2.leaf,⟨⟨F,eA (cb (a:=aH bm [.int .u64 m.ops,.int .u64 c1,.int .u64 c2,.int .u64 c3,.int .u64 c4,.int .u64 c5,v,cl] 105) (Fa:=λj=>j=bm) ⟨λj=>Iff.rfl,hb⟩ (cb (a:=aD 28 1 cl m.cells.length (aF m.cells)) s2 (cb (a:=aD 119 4 v n xl) s1 k2 (λj hj=>s1.lt j hj) (λj hj hl=>k3 j ((Tq j).2 (.inr ((hG j).2 (.inl hj)))) hl)) (λj hj=>s2.lt j hj) (λj hj hh=>?_)) (λj hj=>by rw[hj];exact(Array.getElem?_eq_some_iff.1 hb).1) (λj hj hh=>?_)) (λj=>?_),h2,h3⟩⟩⟩
 ·rcases hh with hh | hh
  ·exact dj j hh hj
  ·exact k3 j ((Tq j).2 (.inr ((hG j).2 (.inr hj)))) hh
 ·subst hj
  rcases hh with hh | hh | hh
  ·exact hnb ((hG j).2 (.inr hh))
  ·exact hnb ((hG j).2 (.inl hh))
  ·exact k3 j ((Tq j).2 (.inl rfl)) hh
 ·rw[k4 j,Tq j,hG j]
  constructor
  ·rintro(h | h | h | h)
   ·exact .inl (.inl h)
   ·exact .inl (.inr (.inr h))
   ·exact .inl (.inr (.inl h))
   ·exact .inr h
  ·rintro((h | h | h) | h)
   ·exact .inl h
   ·exact .inr (.inr (.inl h))
   ·exact .inr (.inl h)
   ·exact .inr (.inr (.inr h))
theorem Bh{bm:Nat}{m:aG}{l:List aC}{c:fQ}{w:World}(x:Int×Int×Int×Int×Int×Value×Value×Nat×List Value)(hx:x.2.2.2.2.2.2.2.1<=256)(h:ah c (P8 bm m x++l) w):ah c (aj bm m::l) w:=by
 obtain⟨c1,c2,c3,c4,c5,lg,cl,n,xl⟩:=x;obtain⟨F,h1,h2,h3⟩:=h.ex;obtain⟨Fb,Fr,⟨hb1,hb2⟩,k2,k3,k4⟩:=bD h1;obtain⟨Fc,Fs,s2,j2,j3,j4⟩:=bD k2;obtain⟨Fl,Ft,s1,i2,i3,i4⟩:=bD j2;refine⟨⟨F,eA (cb (a:=aj bm m) (Fa:=λj=>j=bm\/(Fl j\/Fc j)) ⟨c1,c2,c3,c4,c5,lg,cl,n,λj=>Fl j\/Fc j,hx,hb2,⟨lg,xl,Fl,Fc,rfl,s1,s2,λj hj hc=>j3 j hc ((i4 j).2 (.inl hj)),λj=>Iff.rfl⟩,λhh=>k3 bm ((hb1 bm).2 rfl) ((j4 bm).2 (hh.elim (λh=>.inr ((i4 bm).2 (.inl h))) .inl)),λj=>Iff.rfl⟩ i2 (λj hj=>?_) (λj hj ht=>?_)) (λj=>?_),h2,h3⟩⟩
 ·refine h1.lt j ((k4 j).2 ?_)
  rcases hj with h | h | h
  ·exact .inl ((hb1 j).2 h)
  ·exact .inr ((j4 j).2 (.inr ((i4 j).2 (.inl h))))
  ·exact .inr ((j4 j).2 (.inl h))
 ·rcases hj with h | h | h
  ·exact k3 j ((hb1 j).2 h) ((j4 j).2 (.inr ((i4 j).2 (.inr ht))))
  ·exact i3 j h ht
  ·exact j3 j h ((i4 j).2 (.inr ht))
 ·rw[k4 j,j4 j,i4 j,hb1 j]
  constructor
  ·rintro((h | h | h) | h)
   ·exact .inl h
   ·exact .inr (.inr (.inl h))
   ·exact .inr (.inl h)
   ·exact .inr (.inr (.inr h))
  ·rintro(h | h | h | h)
   ·exact .inl (.inl h)
   ·exact .inl (.inr (.inr h))
   ·exact .inl (.inr (.inl h))
   ·exact .inr h
end Go.Proofs.YtbcnbofkgkheeaaGreat
namespace Go.Ev
open Go.RowKit
theorem Nf{op:Op}{t:TypeId}(h:d_ op=some [19,t]):∃ x y,op=.makeSlice t x y:=by
 unfold d_ at h
 split at h<;>first | (cases h;done) | skip
 all_goals first | (simp at h;done) | skip
 simp at h;subst h;exact⟨_,_,rfl⟩
section
variable{k:Kn}{P:Program}{g g':Nat}{l:List aC}{t e:TypeId}{n sz:Nat}{i:TypeInfo}{z:Value}
theorem aR.make{d0 ng:Option Nat}{r x y:Value}(h:letI:aP:=k.sig;∀ ι F w d x' y',Ask k g d0 ng ι F w d->ao ι x x'->ao ι y y'->iE P (Instr.makeSlice t x' y') ι d F w r ng):aR k P ⟨[19,t],[x,y],none,g,d0,r,ng⟩:=by
 letI:aP:=k.sig;intro o hk ev ι F w d hv _ h1 h2 h3 h4;obtain⟨a,b,ho⟩:=Nf hk;rw[ho]at hv;obtain⟨x',y',e,hx,hy⟩:=tE hv;simp[Op.operands]at e;obtain⟨rfl,rfl⟩:=e;obtain⟨v',w',r1,r2⟩:=h ι F w d _ _ ⟨h1,h2,h3,h4⟩ hx hy;refine⟨.value v',v',w',?_,.inl rfl,r2⟩;unfold execOp;rw[ho];simp only;rw[Sem.run_bind,r1];rfl
theorem rA{w w':World}(h:w.grownBy w' none):Below w.heap.size w w':=⟨h.os,h.tape,h.output,h.size,λj hj=>h.block j hj (by simp)⟩
theorem py{d1:Nat}{kd kd':IntKind}{x y:Value}(hg:k.gs[g]? = some (star l))(hg':k.gs[g']? = some (star (l++[bP d1 (λv=>aD e 1 v n (List.replicate n z))])))(hx:AX k x (.int kd (n:Int)))(hy:AX k y (.int kd' (n:Int)))(ht:P.underlying t=some (.slice e))(jl:P.info? e=some i)(hsz:i.size=1)(hz:i.zero=some z)(h1:z.cells = #[z])(hb:i.bytes*n<=281474976710656)(hn:n<=maxLen):aR k P ⟨[19,t],[x,y],none,g,some d1,.complex .f32 d1 0,some g'⟩:=by
 refine aR.make ?_;letI:aP:=k.sig;intro ι F w d x' y' q P7 Mv;obtain rfl:=q.name d1 rfl;obtain⟨b,q1,q2⟩:=q.st;rw[hg]at q1;cases q1;rw[hx _ _ P7,hy _ _ Mv];obtain⟨w',r1,r2,r3⟩:=run_make_full (P:=P) w w.heap.size t e i z 1 ht jl hz hsz kd kd' n hb hn (Nat.le_refl _);have hsl:fh e 1 (.slice (some ⟨w.heap.size,0,none⟩) n n) n (List.replicate n z) (λj=>j=w.heap.size) w':=by
  obtain⟨s1,s2⟩:=r2;have hm:(madeCells z.cells (n*1)).toList=List.replicate n z:=by
   rw[Nat.mul_one,h1];refine List.ext_getElem (by simp[madeCells]) (λj a1 a2=>?_);simp[madeCells,Nat.mod_one]
  rw[hm]at s1 s2;rcases s2 with ⟨h,_⟩ | ⟨gb,cap,cur,hv,hb',hh,c1,c2,c3,c4⟩
  ·cases h
  ·cases hv
   refine⟨s1,.inr ⟨w.heap.size,0,n,cur,rfl,λ_=>Iff.rfl,hh,λj hj=>?_,by omega,Nat.le_refl _⟩⟩;rw[← c4,Nat.zero_add,List.getElem?_take_of_lt hj];simp
 obtain⟨cc,hcc⟩:=hsl.code;have hup:(ι.upd d1 cc) d1=some cc:=by simp[ag.upd]
 exact⟨_,w',r1,grow_end hg' q2 q.lt (gE q) cc ⟨cc,hup,by rw[hcc];exact hsl⟩ (rA r3) (λj hj=>⟨hsl.lt j hj,by rw[hj];exact Nat.le_refl _⟩) (.dyn d1 cc _ hup hcc)⟩
end
theorem j8{k:Kn}{P:Program}{c:fQ}{f:FuncId}{abs:List Value}{args:Value->List Value}{g g' d2:Nat}{gl fp lq:List aC}{lp:Value->List aC}{r rv:Value}(idx rest:List Nat)(hg:k.gs[g]? = some (star (dn c.W c.X::gl)))(hg':k.gs[g']? = some (star (dn c.W c.X::(lq++sel gl rest))))(hsel:ku gl.length (idx++rest)=true)(hp:sel gl idx=fp)
  (hf:∀ (ι:ag) c,ι d2=some c->fp.length=(lp (dec c)).length/\∀ (i:Nat) a b ff w,fp[i]? = some a->(lp (dec c))[i]? = some b->a.p ι ff w->b.p (λ_=>none) ff w)
  (ha:∀ ι l',(letI:aP:=k.sig;cN ι abs l')->∃ c,ι d2=some c/\l'=args (dec c)) (hr:∀ ι,(letI:aP:=k.sig;ao ι r rv))
  (con:∀ (v:Value) (w:World) (F:Nat->Prop),jZ c.W c.X w->bI (lp v) F w->(∀ j,F j->c.X j\/c.W.heap.size<=j)->Calls P f (args v).toArray w λe w'=>e=.returned rv/\ah ⟨w,F⟩ lq w'):dQ k P ⟨f,abs,g,none,r,some g'⟩:=by
 letI:aP:=k.sig;intro ι args' F w d hl h1 h2 h3 h4;obtain⟨p8,oB,e⟩:=ha ι _ hl;have ea:args'=(args (dec p8)).toArray:=by rw[← e]
 subst ea;obtain⟨b,q1,q2⟩:=h1;rw[hg]at q1;cases q1;have hd:ι d=none:=h3.elim id (λh=>by cases h);obtain⟨Fo,Fg,⟨o1,o2⟩,n1,n2,n3⟩:=bD (l:=gl.map (ke ι)) (jI q2 h2);obtain⟨F',s1,s2⟩:=jJ n1 (idx++rest) (by rw[List.length_map];exact hsel);have hsp:sel (gl.map (ke ι)) (idx++rest)=fp.map (ke ι)++(sel gl rest).map (ke ι):=by
  rw[ln,← hp,← List.map_append];unfold sel;rw[List.map_append]
 rw[hsp]at s1;obtain⟨F1,F2,p1,p2,p3,p4⟩:=cy s1;obtain⟨tV,tW⟩:=hf ι p8 oB
 have pl:bI (lp (dec p8)) F1 w:=lm p1 (by simp[tV]) (λi a b ff e1 e2 h=>by
  rw[List.getElem?_map]at e1;cases hb:fp[i]? with
  | none=>rw[hb]at e1;cases e1
  | some a' =>
   rw[hb]at e1;cases e1
   exact tW i a' b ff w hb e2 h)
 have hFg:∀ j,Fg j->c.X j\/c.W.heap.size<=j:=λj hj=>by
  rcases Nat.lt_or_ge j c.W.heap.size with h | h
  ·exact .inl (Classical.byContradiction λhx=>n2 j ((o1 j).2 ⟨h,hx⟩) hj)
  ·exact .inr h
 refine(con (dec p8) w F1 o2 pl (λj hj=>hFg j (s2 j ((p4 j).2 (.inl hj))))).mono ?_;rintro e' w' ⟨rfl,hh⟩;obtain⟨G,g1,g2,g3⟩:=hh.ex;have hH:∀ j,Fo j->¬ F1 j:=λj ho hf1=>n2 j ho (s2 j ((p4 j).2 (.inl hf1)))
 have kr:bI ((sel gl rest).map (ke ι)) F2 w':=f6 p2 (λj hj=>g2.block j (p2.lt j hj) (λh=>p3 j h hj)) g2.size;have tR:∀ j,Fo j->j<w.heap.size:=λj hj=>h2 j ((n3 j).2 (.inl hj))
 have tS:∀ j,G j->¬ F2 j:=λj hj hf2=>by
  rcases g3 j hj with h | h
  ·exact p3 j h hf2
  ·have h0:w.heap.size<=j:=h
   have:=p2.lt j hf2;omega
 have all:=cb (a:=dn c.W c.X) (Fa:=Fo) ⟨o1,λj hj hx=>(g2.block j (tR j ((o1 j).2 ⟨hj,hx⟩)) (hH j ((o1 j).2 ⟨hj,hx⟩))).trans (o2 j hj hx)⟩ (eh g1 kr tS) (λj hj=>Nat.lt_of_lt_of_le (tR j hj) g2.size) (λj hj hx=>by
  rcases hx with hx | hx
  ·rcases g3 j hx with h | h
   ·exact hH j hj h
   ·have h0:w.heap.size<=j:=h
    have:=tR j hj;omega
  ·exact n2 j hj (s2 j ((p4 j).2 (.inr hx))))
 refine⟨rv,rfl,0,_,hr _,⟨_,hg',m6 all (by simp) (λi a b ff e1 e2 h=>?_)⟩,⟨g2.os,g2.tape,g2.output,g2.size,λj hj hn=>g2.block j hj (λhf=>hn ((n3 j).2 (.inr (s2 j ((p4 j).2 (.inl hf))))))⟩,λj hj=>⟨all.lt j hj,?_⟩⟩
 ·match i with
  | 0=>cases e1;cases e2;exact h
  | i+1 =>
   rw[List.getElem?_cons_succ]at e1 e2;rcases Nat.lt_or_ge i lq.length with hi | hi
   ·rw[List.getElem?_append_left hi]at e1 e2
    rw[e1]at e2;cases e2;exact a.mono _ _ ff w' (λ_ _ e=>by cases e) h
   ·rw[List.getElem?_append_right hi,List.getElem?_map]at e1
    rw[List.getElem?_append_right hi]at e2;rw[e2]at e1;cases e1;exact b.mono ι _ ff w' (ag.dE (b:=0) hd) h
 ·rcases hj with hj | hj | hj
  ·exact .inl ((n3 j).2 (.inl hj))
  ·rcases g3 j hj with h | h
   ·exact .inl ((n3 j).2 (.inr (s2 j ((p4 j).2 (.inl h)))))
   ·exact .inr h
  ·exact .inl ((n3 j).2 (.inr (s2 j ((p4 j).2 (.inr hj)))))
theorem bw{k:Kn}{d2:Nat}{abs:List Value}{args:List Value}(h:∀ ι l',(letI:aP:=k.sig;cN ι abs l')->l'=args):∀ ι l',(letI:aP:=k.sig;cN ι (.complex .f32 d2 0::abs) l')->∃ c,ι d2=some c/\l'=(λv=>v::args) (dec c):=by
 letI:aP:=k.sig;intro ι l' hl
 match l',hl with
 | [],hl=>exact absurd hl.1 (by simp)
 | x'::m,hl =>
  obtain⟨c,e1,e2⟩:=tU (hl.2 0 _ _ rfl rfl);refine⟨c,e1,?_⟩;show x'::m=dec c::args;rw[e2,h ι m ⟨by have:=hl.1;simpa using this,λi v v' h1 h2=>hl.2 (i+1) v v' (by simpa using h1) (by simpa using h2)⟩]
theorem cp{k:Kn}{d2:Nat}{x v:Value}{abs:List Value}{args:Value->List Value}(hx:AX k x v)(h:∀ ι l',(letI:aP:=k.sig;cN ι abs l')->∃ c,ι d2=some c/\l'=args (dec c)):∀ ι l',(letI:aP:=k.sig;cN ι (x::abs) l')->∃ c,ι d2=some c/\l'=(λu=>v::args u) (dec c):=by
 letI:aP:=k.sig;intro ι l' hl
 match l',hl with
 | [],hl=>exact absurd hl.1 (by simp)
 | x'::m,hl =>
  obtain⟨c,e1,e2⟩:=h ι m ⟨by have:=hl.1;simpa using this,λi v v' h1 h2=>hl.2 (i+1) v v' (by simpa using h1) (by simpa using h2)⟩;refine⟨c,e1,?_⟩;show x'::m=v::args (dec c);rw[e2,hx ι x' (hl.2 0 _ _ rfl rfl)]
def HF(d2:Nat)(fp:List aC)(lp:Value->List aC):Prop:=∀ (ι:ag) c,ι d2=some c->fp.length=(lp (dec c)).length/\∀ (i:Nat) a b ff w,fp[i]? = some a->(lp (dec c))[i]? = some b->a.p ι ff w->b.p (λ_=>none) ff w
theorem bZ{d2:Nat} : HF d2 [] (λ_=>[]):=λι c hc=>⟨rfl,λi a b ff w e1 e2=>by cases e1⟩
theorem cS{d2:Nat}{a:Value->aC}{fp:List aC}{lp:Value->List aC}(ha:∀ v,Flat (a v))(h:HF d2 fp lp):HF d2 (bP d2 a::fp) (λv=>a v::lp v):=by
 intro ι c hc;obtain⟨h1,h2⟩:=h ι c hc;refine⟨by simp[h1],λi x y ff w e1 e2 hx=>?_⟩
 match i with
 | 0 =>
  cases e1;cases e2;obtain⟨c',hc',hx⟩:=hx;rw[hc]at hc';cases hc';exact ha _ _ _ _ _ hx
 | i+1=>exact h2 i x y ff w (by simpa using e1) (by simpa using e2) hx
theorem c9{d2:Nat}{b:aC}{fp:List aC}{lp:Value->List aC}(hb:Flat b)(h:HF d2 fp lp):HF d2 (b::fp) (λv=>b::lp v):=by
 intro ι c hc;obtain⟨h1,h2⟩:=h ι c hc;refine⟨by simp[h1],λi x y ff w e1 e2 hx=>?_⟩
 match i with
 | 0 =>
  cases e1;cases e2;exact hb _ _ _ _ hx
 | i+1=>exact h2 i x y ff w (by simpa using e1) (by simpa using e2) hx
theorem Ng{k:Kn}{P:Program}{c:fQ}{f:FuncId}{abs args:List Value}{g:Nat}{gl lp:List aC}{r rv:Value}(idx:List Nat)(hg:k.gs[g]? = some (star (dn c.W c.X::gl)))(hsel:ku gl.length idx=true)(hp:sel gl idx=lp)(hf:lP lp)
  (ha:∀ ι l',(letI:aP:=k.sig;cN ι abs l')->l'=args) (hr:∀ ι,(letI:aP:=k.sig;ao ι r rv))
  (con:∀ (w:World) (F:Nat->Prop),jZ c.W c.X w->bI lp F w->Calls P f args.toArray w λe w'=>e=.returned rv/\Below w.heap.size w w'):dQ k P ⟨f,abs,g,none,r,none⟩:=by
 letI:aP:=k.sig;intro ι args' F w d hl h1 h2 h3 h4;have e:=ha ι _ hl;have ea:args'=args.toArray:=by rw[← e]
 subst ea;obtain⟨b,q1,q2⟩:=h1;rw[hg]at q1;cases q1;obtain⟨Fo,Fg,⟨o1,o2⟩,n1,n2,n3⟩:=bD (l:=gl.map (ke ι)) (jI q2 h2);obtain⟨F',s1,s2⟩:=jJ n1 idx (by rw[List.length_map];exact hsel);rw[ln,hp]at s1
 have pl:bI lp F' w:=lm s1 (by simp) (λi a b ff e1 e2 h=>by
  rw[List.getElem?_map,e2]at e1;cases e1
  exact qC hf b (List.mem_of_getElem? e2) ι _ ff w h)
 refine(con w F' o2 pl).mono ?_;rintro e' w' ⟨rfl,hb⟩;exact⟨_,rfl,hr ι,hb⟩
theorem P9{op:Op}{t:TypeId}(h:d_ op=some [21,t]):∃ x y z,op=.binOp .neq t x y z:=by
 unfold d_ at h
 split at h<;>first | (cases h;done) | skip
 all_goals first | (simp at h;done) | skip
 simp at h;subst h;exact⟨_,_,_,rfl⟩
section
variable{k:Kn}{P:Program}{g:Nat}{t:TypeId}{a:Addr}{s:Nat}
theorem lu(hv:k.val s=.pointer (some a))(ht:P.underlying t=some (.pointer (P.pointee t))):aR k P ⟨[21,t],[sy s,.pointer none],none,g,none,.bool true,none⟩:=by
 letI:aP:=k.sig;intro o hk ev ι F w d hl _ h1 h2 h3 h4;obtain⟨x,y,z,ho⟩:=P9 hk;rw[ho]at hl;obtain⟨x',y',e,hx,hy⟩:=tE hl;simp[Op.operands]at e;obtain⟨rfl,rfl⟩:=e;refine⟨.value (.bool true),.bool true,w,?_,.inl rfl,.bool _,Below.refl _ _⟩;unfold execOp;rw[ho];simp only;rw[fN hx,hv,P5 _ _ hy];simp[eqGuard,run_neq_pointer_nil w t (some a) ht]
end
theorem r7{k:Kn}{P:Program}{c:fQ}{f:FuncId}{abs:List Value}{args:Value->List Value}{g g' d1 d2:Nat}{gl fp:List aC}{lp:Value->List aC}{r:Value}{ret:Value->Value}(fs:List (Value->aC))(idx rest:List Nat)(hg:k.gs[g]? = some (star (dn c.W c.X::gl)))(hg':k.gs[g']? = some (star (dn c.W c.X::(fs.map (bP d1)++sel gl rest))))(hsel:ku gl.length (idx++rest)=true)(hp:sel gl idx=fp)
  (hf:∀ (ι:ag) c,ι d2=some c->fp.length=(lp (dec c)).length/\∀ (i:Nat) a b ff w,fp[i]? = some a->(lp (dec c))[i]? = some b->a.p ι ff w->b.p (λ_=>none) ff w)
  (ha:∀ ι l',(letI:aP:=k.sig;cN ι abs l')->∃ c,ι d2=some c/\l'=args (dec c)) (hr:∀ (ι:ag) cd,ι d1=some cd->(letI:aP:=k.sig;ao ι r (ret (dec cd))))
  (con:∀ (v:Value) (w:World) (F:Nat->Prop),jZ c.W c.X w->bI (lp v) F w->(∀ j,F j->c.X j\/c.W.heap.size<=j)->Calls P f (args v).toArray w λe w'=>∃ u cd,dec cd=u/\e=.returned (ret u)/\ah ⟨w,F⟩ (fs.map (λf=>f u)) w'):dQ k P ⟨f,abs,g,some d1,r,some g'⟩:=by
 letI:aP:=k.sig;intro ι args' F w d hl h1 h2 h3 h4;obtain⟨p8,oB,e⟩:=ha ι _ hl;have ea:args'=(args (dec p8)).toArray:=by rw[← e]
 subst ea;obtain⟨b,q1,q2⟩:=h1;rw[hg]at q1;cases q1;obtain rfl:=h4 d1 rfl;have hd:ι d1=none:=h3.elim id (λh=>by cases h);obtain⟨Fo,Fg,⟨o1,o2⟩,n1,n2,n3⟩:=bD (l:=gl.map (ke ι)) (jI q2 h2);obtain⟨F',s1,s2⟩:=jJ n1 (idx++rest) (by rw[List.length_map];exact hsel);have hsp:sel (gl.map (ke ι)) (idx++rest)=fp.map (ke ι)++(sel gl rest).map (ke ι):=by
  rw[ln,← hp,← List.map_append];unfold sel;rw[List.map_append]
 rw[hsp]at s1;obtain⟨F1,F2,p1,p2,p3,p4⟩:=cy s1;obtain⟨tV,tW⟩:=hf ι p8 oB
 have pl:bI (lp (dec p8)) F1 w:=lm p1 (by simp[tV]) (λi a b ff e1 e2 h=>by
  rw[List.getElem?_map]at e1;cases hb:fp[i]? with
  | none=>rw[hb]at e1;cases e1
  | some a' =>
   rw[hb]at e1;cases e1
   exact tW i a' b ff w hb e2 h)
 have hFg:∀ j,Fg j->c.X j\/c.W.heap.size<=j:=λj hj=>by
  rcases Nat.lt_or_ge j c.W.heap.size with h | h
  ·exact .inl (Classical.byContradiction λhx=>n2 j ((o1 j).2 ⟨h,hx⟩) hj)
  ·exact .inr h
 refine(con (dec p8) w F1 o2 pl (λj hj=>hFg j (s2 j ((p4 j).2 (.inl hj))))).mono ?_;rintro e' w' ⟨u,cd,rfl,rfl,hh⟩;obtain⟨G,g1,g2,g3⟩:=hh.ex;have hH:∀ j,Fo j->¬ F1 j:=λj ho hf1=>n2 j ho (s2 j ((p4 j).2 (.inl hf1)))
 have kr:bI ((sel gl rest).map (ke ι)) F2 w':=f6 p2 (λj hj=>g2.block j (p2.lt j hj) (λh=>p3 j h hj)) g2.size;have tR:∀ j,Fo j->j<w.heap.size:=λj hj=>h2 j ((n3 j).2 (.inl hj))
 have tS:∀ j,G j->¬ F2 j:=λj hj hf2=>by
  rcases g3 j hj with h | h
  ·exact p3 j h hf2
  ·have h0:w.heap.size<=j:=h
   have:=p2.lt j hf2;omega
 have all:=cb (a:=dn c.W c.X) (Fa:=Fo) ⟨o1,λj hj hx=>(g2.block j (tR j ((o1 j).2 ⟨hj,hx⟩)) (hH j ((o1 j).2 ⟨hj,hx⟩))).trans (o2 j hj hx)⟩ (eh g1 kr tS) (λj hj=>Nat.lt_of_lt_of_le (tR j hj) g2.size) (λj hj hx=>by
  rcases hx with hx | hx
  ·rcases g3 j hx with h | h
   ·exact hH j hj h
   ·have h0:w.heap.size<=j:=h
    have:=tR j hj;omega
  ·exact n2 j hj (s2 j ((p4 j).2 (.inr hx))))
 have hup:(ι.upd d1 cd) d1=some cd:=by simp[ag.upd]
 refine⟨ret (dec cd),rfl,cd,_,hr _ cd hup,⟨_,hg',m6 all (by simp) (λi a b ff e1 e2 h=>?_)⟩,⟨g2.os,g2.tape,g2.output,g2.size,λj hj hn=>g2.block j hj (λhf=>hn ((n3 j).2 (.inr (s2 j ((p4 j).2 (.inl hf))))))⟩,λj hj=>⟨all.lt j hj,?_⟩⟩
 ·match i with
  | 0=>cases e1;cases e2;exact h
  | i+1 =>
   rw[List.getElem?_cons_succ]at e1 e2;rcases Nat.lt_or_ge i fs.length with hi | hi
   ·rw[List.getElem?_append_left (by simpa using hi),List.getElem?_map]at e1 e2
    cases hfi:fs[i]? with
    | none=>rw[hfi]at e1;cases e1
    | some q =>
     rw[hfi]at e1 e2;cases e1;cases e2;exact⟨cd,hup,(q (dec cd)).mono _ _ ff w' (λ_ _ e=>by cases e) h⟩
   ·rw[List.getElem?_append_right (by simpa using hi),List.getElem?_map]at e1
    rw[List.getElem?_append_right (by simpa using hi)]at e2;simp only[List.length_map]at e1 e2;rw[e2]at e1;cases e1;exact b.mono ι _ ff w' (ag.dE (b:=cd) hd) h
 ·rcases hj with hj | hj | hj
  ·exact .inl ((n3 j).2 (.inl hj))
  ·rcases g3 j hj with h | h
   ·exact .inl ((n3 j).2 (.inr (s2 j ((p4 j).2 (.inl h)))))
   ·exact .inr h
  ·exact .inl ((n3 j).2 (.inr (s2 j ((p4 j).2 (.inr hj)))))
theorem xZ{k:Kn}{P:Program}{c:fQ}{f:FuncId}{abs:List Value}{args:Value->List Value}{g g' d2:Nat}{gl fp:List aC}{lp:Value->List aC}{r rv:Value}(fs:List (Value->aC))(idx rest:List Nat)(hg:k.gs[g]? = some (star (dn c.W c.X::gl)))(hg':k.gs[g']? = some (star (dn c.W c.X::(fs.map (bP d2)++sel gl rest))))(hsel:ku gl.length (idx++rest)=true)(hp:sel gl idx=fp)
  (hf:∀ (ι:ag) c,ι d2=some c->fp.length=(lp (dec c)).length/\∀ (i:Nat) a b ff w,fp[i]? = some a->(lp (dec c))[i]? = some b->a.p ι ff w->b.p (λ_=>none) ff w)
  (ha:∀ ι l',(letI:aP:=k.sig;cN ι abs l')->∃ c,ι d2=some c/\l'=args (dec c)) (hr:∀ ι,(letI:aP:=k.sig;ao ι r rv))
  (con:∀ (v:Value) (w:World) (F:Nat->Prop),jZ c.W c.X w->bI (lp v) F w->(∀ j,F j->c.X j\/c.W.heap.size<=j)->Calls P f (args v).toArray w λe w'=>e=.returned rv/\ah ⟨w,F⟩ (fs.map (λf=>f v)) w'):dQ k P ⟨f,abs,g,none,r,some g'⟩:=by
 letI:aP:=k.sig;intro ι args' F w d hl h1 h2 h3 h4;obtain⟨p8,oB,e⟩:=ha ι _ hl;have ea:args'=(args (dec p8)).toArray:=by rw[← e]
 subst ea;obtain⟨b,q1,q2⟩:=h1;rw[hg]at q1;cases q1;have hd:ι d=none:=h3.elim id (λh=>by cases h);obtain⟨Fo,Fg,⟨o1,o2⟩,n1,n2,n3⟩:=bD (l:=gl.map (ke ι)) (jI q2 h2);obtain⟨F',s1,s2⟩:=jJ n1 (idx++rest) (by rw[List.length_map];exact hsel);have hsp:sel (gl.map (ke ι)) (idx++rest)=fp.map (ke ι)++(sel gl rest).map (ke ι):=by
  rw[ln,← hp,← List.map_append];unfold sel;rw[List.map_append]
 rw[hsp]at s1;obtain⟨F1,F2,p1,p2,p3,p4⟩:=cy s1;obtain⟨tV,tW⟩:=hf ι p8 oB
 have pl:bI (lp (dec p8)) F1 w:=lm p1 (by simp[tV]) (λi a b ff e1 e2 h=>by
  rw[List.getElem?_map]at e1;cases hb:fp[i]? with
  | none=>rw[hb]at e1;cases e1
  | some a' =>
   rw[hb]at e1;cases e1
   exact tW i a' b ff w hb e2 h)
 have hFg:∀ j,Fg j->c.X j\/c.W.heap.size<=j:=λj hj=>by
  rcases Nat.lt_or_ge j c.W.heap.size with h | h
  ·exact .inl (Classical.byContradiction λhx=>n2 j ((o1 j).2 ⟨h,hx⟩) hj)
  ·exact .inr h
 refine(con (dec p8) w F1 o2 pl (λj hj=>hFg j (s2 j ((p4 j).2 (.inl hj))))).mono ?_;rintro e' w' ⟨rfl,hh⟩;obtain⟨G,g1,g2,g3⟩:=hh.ex;have hH:∀ j,Fo j->¬ F1 j:=λj ho hf1=>n2 j ho (s2 j ((p4 j).2 (.inl hf1)))
 have kr:bI ((sel gl rest).map (ke ι)) F2 w':=f6 p2 (λj hj=>g2.block j (p2.lt j hj) (λh=>p3 j h hj)) g2.size;have tR:∀ j,Fo j->j<w.heap.size:=λj hj=>h2 j ((n3 j).2 (.inl hj))
 have tS:∀ j,G j->¬ F2 j:=λj hj hf2=>by
  rcases g3 j hj with h | h
  ·exact p3 j h hf2
  ·have h0:w.heap.size<=j:=h
   have:=p2.lt j hf2;omega
 have all:=cb (a:=dn c.W c.X) (Fa:=Fo) ⟨o1,λj hj hx=>(g2.block j (tR j ((o1 j).2 ⟨hj,hx⟩)) (hH j ((o1 j).2 ⟨hj,hx⟩))).trans (o2 j hj hx)⟩ (eh g1 kr tS) (λj hj=>Nat.lt_of_lt_of_le (tR j hj) g2.size) (λj hj hx=>by
  rcases hx with hx | hx
  ·rcases g3 j hx with h | h
   ·exact hH j hj h
   ·have h0:w.heap.size<=j:=h
    have:=tR j hj;omega
  ·exact n2 j hj (s2 j ((p4 j).2 (.inr hx))))
 refine⟨rv,rfl,0,_,hr _,⟨_,hg',m6 all (by simp) (λi a b ff e1 e2 h=>?_)⟩,⟨g2.os,g2.tape,g2.output,g2.size,λj hj hn=>g2.block j hj (λhf=>hn ((n3 j).2 (.inr (s2 j ((p4 j).2 (.inl hf))))))⟩,λj hj=>⟨all.lt j hj,?_⟩⟩
 ·match i with
  | 0=>cases e1;cases e2;exact h
  | i+1 =>
   rw[List.getElem?_cons_succ]at e1 e2;rcases Nat.lt_or_ge i fs.length with hi | hi
   ·rw[List.getElem?_append_left (by simpa using hi),List.getElem?_map]at e1 e2
    cases hfi:fs[i]? with
    | none=>rw[hfi]at e1;cases e1
    | some q =>
     rw[hfi]at e1 e2;cases e1;cases e2;exact⟨p8,ag.dE (b:=0) hd _ _ oB,(q (dec p8)).mono _ _ ff w' (λ_ _ e=>by cases e) h⟩
   ·rw[List.getElem?_append_right (by simpa using hi),List.getElem?_map]at e1
    rw[List.getElem?_append_right (by simpa using hi)]at e2;simp only[List.length_map]at e1 e2;rw[e2]at e1;cases e1;exact b.mono ι _ ff w' (ag.dE (b:=0) hd) h
 ·rcases hj with hj | hj | hj
  ·exact .inl ((n3 j).2 (.inl hj))
  ·rcases g3 j hj with h | h
   ·exact .inl ((n3 j).2 (.inr (s2 j ((p4 j).2 (.inl h)))))
   ·exact .inr h
  ·exact .inl ((n3 j).2 (.inr (s2 j ((p4 j).2 (.inr hj)))))
theorem dw{k:Kn}{P:Program}{c:fQ}{f:FuncId}{abs:List Value}{args:Value->List Value}{g g' d2:Nat}{gl fp:List aC}{lp:Value->List aC}{r rv:Value}(fs:List (Value->aC))(lq:List aC)(idx rest:List Nat)(hg:k.gs[g]? = some (star (dn c.W c.X::gl)))(hg':k.gs[g']? = some (star (dn c.W c.X::((fs.map (bP d2)++lq)++sel gl rest))))(hsel:ku gl.length (idx++rest)=true)(hp:sel gl idx=fp)
  (hf:∀ (ι:ag) c,ι d2=some c->fp.length=(lp (dec c)).length/\∀ (i:Nat) a b ff w,fp[i]? = some a->(lp (dec c))[i]? = some b->a.p ι ff w->b.p (λ_=>none) ff w)
  (ha:∀ ι l',(letI:aP:=k.sig;cN ι abs l')->∃ c,ι d2=some c/\l'=args (dec c)) (hr:∀ ι,(letI:aP:=k.sig;ao ι r rv))
  (con:∀ (v:Value) (w:World) (F:Nat->Prop),jZ c.W c.X w->bI (lp v) F w->(∀ j,F j->c.X j\/c.W.heap.size<=j)->Calls P f (args v).toArray w λe w'=>e=.returned rv/\ah ⟨w,F⟩ (fs.map (λf=>f v)++lq) w'):dQ k P ⟨f,abs,g,none,r,some g'⟩:=by
 letI:aP:=k.sig;intro ι args' F w d hl h1 h2 h3 h4;obtain⟨p8,oB,e⟩:=ha ι _ hl;have ea:args'=(args (dec p8)).toArray:=by rw[← e]
 subst ea;obtain⟨b,q1,q2⟩:=h1;rw[hg]at q1;cases q1;have hd:ι d=none:=h3.elim id (λh=>by cases h);obtain⟨Fo,Fg,⟨o1,o2⟩,n1,n2,n3⟩:=bD (l:=gl.map (ke ι)) (jI q2 h2);obtain⟨F',s1,s2⟩:=jJ n1 (idx++rest) (by rw[List.length_map];exact hsel);have hsp:sel (gl.map (ke ι)) (idx++rest)=fp.map (ke ι)++(sel gl rest).map (ke ι):=by
  rw[ln,← hp,← List.map_append];unfold sel;rw[List.map_append]
 rw[hsp]at s1;obtain⟨F1,F2,p1,p2,p3,p4⟩:=cy s1;obtain⟨tV,tW⟩:=hf ι p8 oB
 have pl:bI (lp (dec p8)) F1 w:=lm p1 (by simp[tV]) (λi a b ff e1 e2 h=>by
  rw[List.getElem?_map]at e1;cases hb:fp[i]? with
  | none=>rw[hb]at e1;cases e1
  | some a' =>
   rw[hb]at e1;cases e1
   exact tW i a' b ff w hb e2 h)
 have hFg:∀ j,Fg j->c.X j\/c.W.heap.size<=j:=λj hj=>by
  rcases Nat.lt_or_ge j c.W.heap.size with h | h
  ·exact .inl (Classical.byContradiction λhx=>n2 j ((o1 j).2 ⟨h,hx⟩) hj)
  ·exact .inr h
 refine(con (dec p8) w F1 o2 pl (λj hj=>hFg j (s2 j ((p4 j).2 (.inl hj))))).mono ?_;rintro e' w' ⟨rfl,hh⟩;obtain⟨G,g1,g2,g3⟩:=hh.ex;have hH:∀ j,Fo j->¬ F1 j:=λj ho hf1=>n2 j ho (s2 j ((p4 j).2 (.inl hf1)))
 have kr:bI ((sel gl rest).map (ke ι)) F2 w':=f6 p2 (λj hj=>g2.block j (p2.lt j hj) (λh=>p3 j h hj)) g2.size;have tR:∀ j,Fo j->j<w.heap.size:=λj hj=>h2 j ((n3 j).2 (.inl hj))
 have tS:∀ j,G j->¬ F2 j:=λj hj hf2=>by
  rcases g3 j hj with h | h
  ·exact p3 j h hf2
  ·have h0:w.heap.size<=j:=h
   have:=p2.lt j hf2;omega
 have all:=cb (a:=dn c.W c.X) (Fa:=Fo) ⟨o1,λj hj hx=>(g2.block j (tR j ((o1 j).2 ⟨hj,hx⟩)) (hH j ((o1 j).2 ⟨hj,hx⟩))).trans (o2 j hj hx)⟩ (eh g1 kr tS) (λj hj=>Nat.lt_of_lt_of_le (tR j hj) g2.size) (λj hj hx=>by
  rcases hx with hx | hx
  ·rcases g3 j hx with h | h
   ·exact hH j hj h
   ·have h0:w.heap.size<=j:=h
    have:=tR j hj;omega
  ·exact n2 j hj (s2 j ((p4 j).2 (.inr hx))))
 refine⟨rv,rfl,0,_,hr _,⟨_,hg',m6 all (by simp) (λi a b ff e1 e2 h=>?_)⟩,⟨g2.os,g2.tape,g2.output,g2.size,λj hj hn=>g2.block j hj (λhf=>hn ((n3 j).2 (.inr (s2 j ((p4 j).2 (.inl hf))))))⟩,λj hj=>⟨all.lt j hj,?_⟩⟩
 ·match i with
  | 0=>cases e1;cases e2;exact h
  | i+1 =>
   rw[List.getElem?_cons_succ]at e1 e2;rcases Nat.lt_or_ge i (fs.length+lq.length) with hi | hi
   ·rw[List.getElem?_append_left (by simpa using hi)]at e1 e2
    rcases Nat.lt_or_ge i fs.length with hi2 | hi2
    ·rw[List.getElem?_append_left (by simpa using hi2),List.getElem?_map]at e1 e2
     cases hfi:fs[i]? with
     | none=>rw[hfi]at e1;cases e1
     | some q =>
      rw[hfi]at e1 e2;cases e1;cases e2;exact⟨p8,ag.dE (b:=0) hd _ _ oB,(q (dec p8)).mono _ _ ff w' (λ_ _ e=>by cases e) h⟩
    ·rw[List.getElem?_append_right (by simpa using hi2)]at e1 e2
     simp only[List.length_map]at e1 e2;rw[e1]at e2;cases e2;exact a.mono _ _ ff w' (λ_ _ e=>by cases e) h
   ·rw[List.getElem?_append_right (by simpa using hi),List.getElem?_map]at e1
    rw[List.getElem?_append_right (by simpa using hi)]at e2;simp only[List.length_append,List.length_map]at e1 e2;rw[e2]at e1;cases e1;exact b.mono ι _ ff w' (ag.dE (b:=0) hd) h
 ·rcases hj with hj | hj | hj
  ·exact .inl ((n3 j).2 (.inl hj))
  ·rcases g3 j hj with h | h
   ·exact .inl ((n3 j).2 (.inr (s2 j ((p4 j).2 (.inl h)))))
   ·exact .inr h
  ·exact .inl ((n3 j).2 (.inr (s2 j ((p4 j).2 (.inr hj)))))
theorem Nh{k:Kn}{P:Program}{c:fQ}{f:FuncId}{abs args:List Value}{g g' d1:Nat}{gl lp:List aC}{r:Value}{ret:Value->Value}(fs:List (Value->aC))(lq:List aC)(idx rest:List Nat)(hg:k.gs[g]? = some (star (dn c.W c.X::gl)))(hg':k.gs[g']? = some (star (dn c.W c.X::((fs.map (bP d1)++lq)++sel gl rest))))(hsel:ku gl.length (idx++rest)=true)(hp:sel gl idx=lp)(hf:lP lp)
  (ha:∀ ι l',(letI:aP:=k.sig;cN ι abs l')->l'=args) (hr:∀ (ι:ag) cd,ι d1=some cd->(letI:aP:=k.sig;ao ι r (ret (dec cd))))
  (con:∀ (w:World) (F:Nat->Prop),jZ c.W c.X w->bI lp F w->(∀ j,F j->c.X j\/c.W.heap.size<=j)->Calls P f args.toArray w λe w'=>∃ v cd,dec cd=v/\e=.returned (ret v)/\ah ⟨w,F⟩ (fs.map (λf=>f v)++lq) w'):dQ k P ⟨f,abs,g,some d1,r,some g'⟩:=by
 refine IB (lq:=λv=>fs.map (λf=>f v)++lq) idx rest hg hg' hsel hp hf ha hr (λι cd w' hi=>⟨by simp,λi a b ff h1 h2 h=>?_⟩) con;rcases Nat.lt_or_ge i fs.length with h0 | h0
 ·rw[List.getElem?_append_left (by simpa using h0),List.getElem?_map]at h1 h2
  cases hfi:fs[i]? with
  | none=>rw[hfi]at h1;cases h1
  | some q =>
   rw[hfi]at h1 h2;cases h1;cases h2;exact⟨cd,hi,(q (dec cd)).mono _ _ ff w' (λ_ _ e=>by cases e) h⟩
 ·rw[List.getElem?_append_right (by simpa using h0)]at h1 h2
  simp only[List.length_map]at h1 h2;rw[h1]at h2;cases h2;exact a.mono _ _ ff w' (λ_ _ e=>by cases e) h
theorem IH{k:Kn}{P:Program}{c:fQ}{f:FuncId}{g g' d2 d3:Nat}{gl:List aC}{qa qb:Value->aC}{r rv:Value}(idx rest:List Nat)(hg:k.gs[g]? = some (star (dn c.W c.X::gl)))(hg':k.gs[g']? = some (star (dn c.W c.X::([bP d2 qa,bP d3 qb]++sel gl rest))))(hsel:ku gl.length (idx++rest)=true)(hp:sel gl idx=[bP d2 qa,bP d3 qb])(fa:∀ v,Flat (qa v))(fb:∀ v,Flat (qb v))(hr:∀ ι,(letI:aP:=k.sig;ao ι r rv))
  (con:∀ (v u:Value) (w:World) (F:Nat->Prop),jZ c.W c.X w->bI [qa v,qb u] F w->(∀ j,F j->c.X j\/c.W.heap.size<=j)->Calls P f #[v,u] w λe w'=>e=.returned rv/\ah ⟨w,F⟩ [qa v,qb u] w'):dQ k P ⟨f,[.complex .f32 d2 0,.complex .f32 d3 0],g,none,r,some g'⟩:=by
 letI:aP:=k.sig;intro ι args' F w d hl h1 h2 h3 h4;obtain⟨p8,Ts,oB,R2,ea⟩:∃ c2 c3,ι d2=some c2/\ι d3=some c3/\args' = #[dec c2,dec c3]:=by
  obtain⟨l'⟩:=args'
  match l',hl with
  | [],hl=>exact absurd hl.1 (by simp)
  | [x],hl=>exact absurd hl.1 (by simp)
  | x::y::z::m,hl=>exact absurd hl.1 (by simp)
  | [x,y],hl =>
   obtain⟨c2,e1,e2⟩:=tU (hl.2 0 _ x rfl rfl);obtain⟨c3,e3,e4⟩:=tU (hl.2 1 _ y rfl rfl);exact⟨c2,c3,e1,e3,by rw[e2,e4]⟩
 subst ea;obtain⟨b,q1,q2⟩:=h1;rw[hg]at q1;cases q1;have hd:ι d=none:=h3.elim id (λh=>by cases h);obtain⟨Fo,Fg,⟨o1,o2⟩,n1,n2,n3⟩:=bD (l:=gl.map (ke ι)) (jI q2 h2);obtain⟨F',s1,s2⟩:=jJ n1 (idx++rest) (by rw[List.length_map];exact hsel);have hsp:sel (gl.map (ke ι)) (idx++rest)=[bP d2 qa,bP d3 qb].map (ke ι)++(sel gl rest).map (ke ι):=by
  rw[ln,← hp,← List.map_append];unfold sel;rw[List.map_append]
 rw[hsp]at s1;obtain⟨F1,F2,p1,p2,p3,p4⟩:=cy s1
 have pl:bI [qa (dec p8),qb (dec Ts)] F1 w:=lm p1 (by simp) (λi x y ff e1 e2 h=>by
  match i with
  | 0 =>
   cases e1;cases e2;obtain⟨c',hc',hx⟩:=h;have hc2:ι d2=some c':=hc';rw[oB]at hc2;cases hc2;exact fa _ _ _ _ _ hx
  | 1 =>
   cases e1;cases e2;obtain⟨c',hc',hx⟩:=h;have hc2:ι d3=some c':=hc';rw[R2]at hc2;cases hc2;exact fb _ _ _ _ _ hx
  | i+2=>cases e1)
 have hFg:∀ j,Fg j->c.X j\/c.W.heap.size<=j:=λj hj=>by
  rcases Nat.lt_or_ge j c.W.heap.size with h | h
  ·exact .inl (Classical.byContradiction λhx=>n2 j ((o1 j).2 ⟨h,hx⟩) hj)
  ·exact .inr h
 refine(con (dec p8) (dec Ts) w F1 o2 pl (λj hj=>hFg j (s2 j ((p4 j).2 (.inl hj))))).mono ?_;rintro e' w' ⟨rfl,hh⟩;obtain⟨G,g1,g2,g3⟩:=hh.ex;have hH:∀ j,Fo j->¬ F1 j:=λj ho hf1=>n2 j ho (s2 j ((p4 j).2 (.inl hf1)))
 have kr:bI ((sel gl rest).map (ke ι)) F2 w':=f6 p2 (λj hj=>g2.block j (p2.lt j hj) (λh=>p3 j h hj)) g2.size;have tR:∀ j,Fo j->j<w.heap.size:=λj hj=>h2 j ((n3 j).2 (.inl hj))
 have tS:∀ j,G j->¬ F2 j:=λj hj hf2=>by
  rcases g3 j hj with h | h
  ·exact p3 j h hf2
  ·have h0:w.heap.size<=j:=h
   have:=p2.lt j hf2;omega
 have all:=cb (a:=dn c.W c.X) (Fa:=Fo) ⟨o1,λj hj hx=>(g2.block j (tR j ((o1 j).2 ⟨hj,hx⟩)) (hH j ((o1 j).2 ⟨hj,hx⟩))).trans (o2 j hj hx)⟩ (eh g1 kr tS) (λj hj=>Nat.lt_of_lt_of_le (tR j hj) g2.size) (λj hj hx=>by
  rcases hx with hx | hx
  ·rcases g3 j hx with h | h
   ·exact hH j hj h
   ·have h0:w.heap.size<=j:=h
    have:=tR j hj;omega
  ·exact n2 j hj (s2 j ((p4 j).2 (.inr hx))))
 refine⟨rv,rfl,0,_,hr _,⟨_,hg',m6 all (by simp) (λi a b ff e1 e2 h=>?_)⟩,⟨g2.os,g2.tape,g2.output,g2.size,λj hj hn=>g2.block j hj (λhf=>hn ((n3 j).2 (.inr (s2 j ((p4 j).2 (.inl hf))))))⟩,λj hj=>⟨all.lt j hj,?_⟩⟩
 ·match i with
  | 0=>cases e1;cases e2;exact h
  | i+1 =>
   rw[List.getElem?_cons_succ]at e1 e2
   match i with
   | 0 =>
    cases e1;cases e2;exact⟨p8,ag.dE (b:=0) hd _ _ oB,(qa (dec p8)).mono _ _ ff w' (λ_ _ e=>by cases e) h⟩
   | 1 =>
    cases e1;cases e2;exact⟨Ts,ag.dE (b:=0) hd _ _ R2,(qb (dec Ts)).mono _ _ ff w' (λ_ _ e=>by cases e) h⟩
   | i+2 =>
    simp only[List.cons_append,List.nil_append,List.getElem?_cons_succ,List.getElem?_map]at e1 e2;rw[e2]at e1;cases e1;exact b.mono ι _ ff w' (ag.dE (b:=0) hd) h
 ·rcases hj with hj | hj | hj
  ·exact .inl ((n3 j).2 (.inl hj))
  ·rcases g3 j hj with h | h
   ·exact .inl ((n3 j).2 (.inr (s2 j ((p4 j).2 (.inl h)))))
   ·exact .inr h
  ·exact .inl ((n3 j).2 (.inr (s2 j ((p4 j).2 (.inr hj)))))
theorem tX{k:Kn}{P:Program}{t:TypeId}{l:List aC}{g ci m n sz sP:Nat}{v:Value}{xs:List Value}{w0:World}{X:Nat->Prop}{b:Bool}(hg:k.gs[g]? = some (star l))(hi:l[ci]? = some (dn w0 X))(hs:lT sz v n xs w0)(hL:lj P t)(hm:xs[m]? = some (.bool b))(hP:k.val sP=dx v m)(hX:qA X v):aR k P ⟨[1,t],[sy sP],none,g,none,.bool b,none⟩:=by
 refine aR.load k ?_;letI:aP:=k.sig;intro ι F w d x' q hx;obtain⟨Fs,ff,hS,hf,h1,h3⟩:=dC hg hi q;rw[fN hx,hP];have hlt:=(List.getElem?_eq_some_iff.1 hm).1;obtain⟨e1,⟨rfl,_⟩ | ⟨b',off,c,rfl,⟨hb,_⟩,hc⟩⟩:=hs
 ·omega
 ·exact⟨.bool b,w,hL b' (off+m) _ w (by rw[tM hb (hX (Nat.pos_of_ne_zero (λh0=>by rw[h0,Nat.zero_mul]at e1;omega))) h3,hc m (by omega),hm]),.bool b,Below.refl _ _⟩
theorem em{k:Kn}{d2:Nat}{t:TypeId}{abs:List Value}{args:List Value}(h:∀ ι l',(letI:aP:=k.sig;cN ι abs l')->l'=args):∀ ι l',(letI:aP:=k.sig;cN ι (.iface t (.complex .f32 d2 0)::abs) l')->∃ c,ι d2=some c/\l'=(λv=>.iface t v::args) (dec c):=by
 letI:aP:=k.sig;intro ι l' hl
 match l',hl with
 | [],hl=>exact absurd hl.1 (by simp)
 | x'::m,hl =>
  have h0:=hl.2 0 _ _ rfl rfl;generalize hg:Value.iface t (Value.complex .f32 d2 0)=y at h0;cases h0 with
  | iface t' v v' hv =>
   simp only[Value.iface.injEq]at hg;obtain⟨rfl,rfl⟩:=hg;obtain⟨c,e1,e2⟩:=tU hv;refine⟨c,e1,?_⟩;show Value.iface t v'::m=.iface t (dec c)::args;rw[e2,h ι m ⟨by have:=hl.1;simpa using this,λi v v' h1 h2=>hl.2 (i+1) v v' (by simpa using h1) (by simpa using h2)⟩]
  | _=>cases hg
theorem bV.as{P:Program}{f:FuncId}{p:List Nat}{i k N:Nat}{c:fQ}{tm VQ:List (Nat×Value)}{l l2:List aC}{ex:Exit}{α:Type}{tm' R3:α->List (Nat×Value)}{l':α->List aC}(h:bV P f p i k N c tm l ex tm' l')(e1:tm=VQ)(e2:l=l2)(e3:tm'=R3):bV P f p i k N c VQ l2 ex R3 l':=by
 subst e1 e2 e3;exact h
end Go.Ev
