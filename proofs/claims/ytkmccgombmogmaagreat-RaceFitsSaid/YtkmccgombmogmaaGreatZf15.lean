/- Part of a proof: see the last text. -/
import Derived.Test.YtkmccgombmogmaaGreatZf14
import Derived.Test.YtkmccgombmogmaaGreatZf12
import Derived.OwnWalk
import Derived.KernelRfl
import Derived.Test.YtkmccgombmogmaaGreatRows
import Derived.WalkKit
import Derived.WalkSpells
import Derived.WalkLawsBesides
import Derived.Lib.Hide
set_option linter.unusedSectionVars false
set_option linter.unusedSimpArgs false
set_option linter.unusedVariables false
namespace Go.Ev
open Go.RowKit
section
variable{k:Kn}{P:Program}{g g':Nat}{l:List aF}{ci:Nat}{t u e:TypeId}{sL sP sQ sV n sz m:Nat}{v:Value}{xs:List Value}{i:TypeInfo}{z:Value}
theorem wD{ι:am}{c c':List Value}(h:letI:bB:=k.sig;dW ι c c')(ho:c.all oneCell=true):∀ u ∈ c',u.oneCell'=true:=by
 letI:bB:=k.sig;intro u hu;rw[List.all_eq_true]at ho;obtain⟨i,hi⟩:=List.getElem?_of_mem hu;have hlt:i<c.length:=by
  rw[h.1];exact(List.getElem?_eq_some_iff.1 hi).1
 exact one_one ((h.2 i _ _ (List.getElem?_eq_getElem hlt) hi).one (ho _ (List.getElem_mem hlt)))
theorem kf{d1 e':Nat}{c cs:List Value}(hg:k.gs[g]? = some (star l))(hi:l[ci]? = some (bT e sz v n xs))(hg':k.gs[g']? = some (star (l.set ci (jS d1 (λv'=>bT e sz v' (n+m) (xs++cs))))))(ht:P.underlying t=some (.slice e))(hu:P.underlying u=some (.slice e'))(gI:P.info? e=some i)(hsz:i.size=sz)(h0:0<sz)(hz:i.zero=some z)(hzs:z.cells.size=i.size)
  (hb:(n+m)*i.bytes<=140737488355328) (hnm:n+m<=1000000000) (hL:k.val sL=v) (hm:c.length=m*sz) (hc:∀ ι c',(letI:bB:=k.sig;dW ι c c')->c'=cs):bw k P ⟨[11,t,u],[sy sL],some (sz,1,c),g,some d1,.complex .f32 d1 0,some g'⟩:=by
 subst hsz;refine bw.append k ?_;letI:bB:=k.sig;intro ι F w d x' y' c' m' ty q hx hcr hcm ho hr hl;obtain⟨Fs,ff,hS,hf,h1⟩:=fb hg hi q;have hmm:m'=m:=Nat.eq_of_mul_eq_mul_right h0 (by rw[← hcm,hm]);subst hmm;obtain rfl:=q.name d1 rfl;rw[jJ hx,hL];have hs:Src P i.size u y' m' c' w:=⟨.inl ⟨_,hu⟩,hl,hr w rfl,hr w.drew rfl,by rw[← hcr.1];exact hm,wD hcr ho⟩;obtain⟨v2,w2,F2,r1,r2,r3,r4⟩:=dT.append (ty:=ty) h1 ht gI hz hzs hs hb hnm;rw[hc _ _ hcr]at r2;obtain⟨cc,hcc⟩:=r2.code;have hup:(ι.upd d1 cc) d1=some cc:=by simp[am.upd]
 exact⟨v2,w2,r1,wq hg' hS q.lt hf (i7 q) cc ⟨cc,hup,by rw[hcc];exact r2⟩ r3 r4 (.dyn d1 cc v2 hup hcc)⟩
theorem Gd{w0:World}{X:Nat->Prop}{f:FuncId}{abs args:List Value}{r rv:Value}(hg:k.gs[g]? = some (star l))(hi:l[ci]? = some (gp w0 X))(hc:∀ w,oK w0 X w->Calls P f args.toArray w λe w'=>e=.returned rv/\Below w.heap.size w w')(hr:∀ ι,(letI:bB:=k.sig;aq ι r rv))
  (ha:∀ ι l',(letI:bB:=k.sig;dW ι abs l')->l'=args):fI k P ⟨f,abs,g,none,r,none⟩:=by
 letI:bB:=k.sig;intro ι args' F w d hl h1 h2 h3 h4;have e:=ha ι _ hl;obtain⟨b,q1,q2⟩:=h1;rw[hg]at q1;cases q1;obtain⟨Fs,q2⟩:=q2;have hlt:ci<Fs.length:=by rw[q2.len];exact(List.getElem?_eq_some_iff.1 hi).1
 obtain⟨_,o3⟩:=q2.holds ci _ _ hi (List.getElem?_eq_getElem hlt);have ea:args'=args.toArray:=by rw[← e]
 rw[ea];refine(hc w o3).mono ?_;rintro e w' ⟨rfl,hb⟩;exact⟨_,rfl,hr ι,hb⟩
theorem isAgg{k:Kn}{abs cs:List Value}(h:∀ ι l',(letI:bB:=k.sig;dW ι abs l')->l'=cs):Ee k (.agg abs.toArray) (.agg cs.toArray):=λι x' hx=>by
 letI:bB:=k.sig;cases hx with
 | agg f f' hf hh =>
  have:=h ι f'.toList ⟨by simpa using hf,λi v v' e1 e2=>hh i v v' (by simpa using e1) (by simpa using e2)⟩;rw[← this]
theorem M5{k:Kn} : Ee k (.slice none 0 0) (.slice none 0 0):=λι x' hx=>by
 letI:bB:=k.sig;cases hx with
 | dF=>rfl
variable{b:Nat}{cs:List Value}{T:TypeId}
end
theorem dT.ro{e:TypeId}{sz n:Nat}{v:Value}{xs:List Value}{F:Nat->Prop}{w:World}(h:dT e sz v n xs F w):iM sz v n xs w:=by
 obtain⟨h1,⟨he,h2,_⟩ | ⟨b,off,c,arr,rfl,hF,hb0,hx,hsz,hnc⟩⟩:=h
 ·obtain⟨a,rfl⟩:=he.base
  exact⟨h1,.inl ⟨h2,_,_,rfl⟩⟩
 ·refine⟨h1,.inr ⟨b,off,c,rfl,⟨(Array.getElem?_eq_some_iff.1 hb0).1,hnc⟩,λj hj=>?_⟩⟩
  rw[← hx j hj];simp[World.cell?,hb0]
theorem dT.off{e:TypeId}{sz n:Nat}{v:Value}{xs:List Value}{F X:Nat->Prop}{w:World}(h:dT e sz v n xs F w)(hd:∀ j,F j->¬ X j):JZ X v:=by
 obtain⟨h1,⟨he,h2,_⟩ | ⟨b,off,c,arr,rfl,hF,hb0,hx,hsz,hnc⟩⟩:=h
 ·rcases he with rfl | ⟨b,off,rfl⟩
  ·trivial
  ·exact λh0=>absurd h0 (Nat.lt_irrefl 0)
 ·exact λ_=>hd b ((hF b).2 rfl)
theorem af.d8{e:TypeId}{sz:Nat}{c:dt}{l:List aF}{w:World}(h:af c l w):af c (bT e sz (.slice none 0 0) 0 []::l) w:=by
 obtain⟨F,h1,h2,h3⟩:=h.ex;refine⟨⟨_,bW (a:=bT e sz (.slice none 0 0) 0 []) (dT.nil e sz w) h1 (λj hj=>hj.elim) (λj hj=>hj.elim),h2,λj hj=>hj.elim (λh=>h.elim) (h3 j)⟩⟩
section
variable{k:Kn}{P:Program}{g g':Nat}{l:List aF}{t kT e:TypeId}
theorem grow_end{r:Value}{ι:am}{F f':Nat->Prop}{w w':World}{d:Nat}{a':aF}(hg':k.gs[g']? = some (star (l++[a'])))(hS:(star l).p ι F w)(lt:∀ x,F x->x<w.heap.size)(hd:ι d=none)(c:Nat){v':Value}(ha:a'.p (ι.upd d c) f' w')(hb:Below w.heap.size w w')(hs:∀ x,f' x->x<w'.heap.size/\w.heap.size<=x)(hv:letI:bB:=k.sig;aq (ι.upd d c) r v'):letI:bB:=k.sig;vN ι d F w r (some g') v' w':=by
 letI:bB:=k.sig;obtain⟨Fs,q⟩:=hS;refine⟨c,λj=>F j\/f' j,hv,⟨_,hg',Fs++[f'],by simp[q.len],λi a f h1 h2=>?_,λi j f f2 hij h1 h2 x hx hx'=>?_,λx=>⟨λh=>?_,λ⟨i,f,h1,h2⟩=>?_⟩⟩,Turn.below hb,λj hj=>?_⟩
 ·rcases Nat.lt_or_ge i l.length with hi | hi
  ·rw[List.getElem?_append_left hi]at h1
   rw[List.getElem?_append_left (by rw[q.len];exact hi)]at h2;refine a.mono ι _ f w' (am.ie (b:=c) hd) (a.keep ι f w w' (λx hx=>hb.block x (lt x ((q.all x).2 ⟨i,f,h2,hx⟩))) (q.holds i a f h1 h2))
  ·rw[List.getElem?_append_right hi]at h1
   rw[List.getElem?_append_right (by rw[q.len];exact hi),q.len]at h2;cases hk:i-l.length with
   | zero=>rw[hk]at h1 h2;cases h1;cases h2;exact ha
   | succ m=>rw[hk]at h1;cases h1
 ·rcases Nat.lt_or_ge i Fs.length with hi | hi
  ·rw[List.getElem?_append_left hi]at h1
   rcases Nat.lt_or_ge j Fs.length with hj | hj
   ·rw[List.getElem?_append_left hj]at h2
    exact q.apart i j f f2 hij h1 h2 x hx hx'
   ·rw[List.getElem?_append_right hj]at h2
    cases hk:j-Fs.length with
    | zero =>
     rw[hk]at h2;cases h2;have h3:=lt x ((q.all x).2 ⟨i,f,h1,hx⟩);have h4:=(hs x hx').2;omega
    | succ m=>rw[hk]at h2;cases h2
  ·rw[List.getElem?_append_right hi]at h1
   cases hk:i-Fs.length with
   | succ m=>rw[hk]at h1;cases h1
   | zero =>
    rw[hk]at h1;cases h1;rcases Nat.lt_or_ge j Fs.length with hj | hj
    ·rw[List.getElem?_append_left hj]at h2
     have h3:=lt x ((q.all x).2 ⟨j,f2,h2,hx'⟩);have h4:=(hs x hx).2;omega
    ·rw[List.getElem?_append_right hj]at h2
     cases hk':j-Fs.length with
     | zero=>omega
     | succ m=>rw[hk']at h2;cases h2
 ·rcases h with h | h
  ·obtain⟨i,f,h1,h2⟩:=(q.all x).1 h
   exact⟨i,f,by rw[List.getElem?_append_left (List.getElem?_eq_some_iff.1 h1).1];exact h1,h2⟩
  ·exact⟨Fs.length,f',by simp,h⟩
 ·rcases Nat.lt_or_ge i Fs.length with hi | hi
  ·rw[List.getElem?_append_left hi]at h1
   exact .inl ((q.all x).2 ⟨i,f,h1,h2⟩)
  ·rw[List.getElem?_append_right hi]at h1
   cases hk:i-Fs.length with
   | zero=>rw[hk]at h1;cases h1;exact .inr h2
   | succ m=>rw[hk]at h1;cases h1
 ·rcases hj with hj | hj
  ·exact⟨Nat.lt_of_lt_of_le (lt j hj) hb.size,.inl hj⟩
  ·exact⟨(hs j hj).1,.inr (hs j hj).2⟩
end
theorem J8{k:Kn}{P:Program}{c:dt}{f:FuncId}{abs args:List Value}{g g' d1:Nat}{gl lp:List aF}{r:Value}{ret:Value->Value}(fs:List (Value->aF))(idx rest:List Nat)(hg:k.gs[g]? = some (star (gp c.W c.X::gl)))(hg':k.gs[g']? = some (star (gp c.W c.X::(fs.map (jS d1)++sel gl rest))))(hsel:nM gl.length (idx++rest)=true)(hp:sel gl idx=lp)(hf:lF lp)
  (ha:∀ ι l',(letI:bB:=k.sig;dW ι abs l')->l'=args) (hr:∀ (ι:am) cd,ι d1=some cd->(letI:bB:=k.sig;aq ι r (ret (dec cd))))
  (con:∀ (w:World) (F:Nat->Prop),oK c.W c.X w->cL lp F w->(∀ j,F j->c.X j\/c.W.heap.size<=j)->Calls P f args.toArray w λe w'=>∃ v cd,dec cd=v/\e=.returned (ret v)/\af ⟨w,F⟩ (fs.map (λf=>f v)) w'):fI k P ⟨f,abs,g,some d1,r,some g'⟩:=by
 refine Gc (lq:=λv=>fs.map (λf=>f v)) idx rest hg hg' hsel hp hf ha hr (λι cd w' hi=>⟨by simp,λi a b ff h1 h2 h=>?_⟩) con;rw[List.getElem?_map]at h1 h2;cases hfi:fs[i]? with
 | none=>rw[hfi]at h1;cases h1
 | some q =>
  rw[hfi]at h1 h2;cases h1;cases h2;exact⟨cd,hi,(q (dec cd)).mono _ _ ff w' (λ_ _ e=>by cases e) h⟩
def cutV(sz:Nat)(v:Value)(lo hi:Nat):Value :=
 match v with
 | .slice none _ c=>.slice none (hi-lo) (c-lo)
 | .slice (some a) _ c=>.slice (some (if c=lo then a else a.add (lo*sz))) (hi-lo) (c-lo)
 | v=>v
theorem gJ{sz lo hi:Nat}{v:Value}(h:aT v=true):aT (cutV sz v lo hi)=true:=by
 unfold cutV
 split
 ·rfl
 ·rfl
 ·exact h
theorem iM.cut{sz n lo hi:Nat}{v:Value}{xs:List Value}{w0:World}(h:iM sz v n xs w0)(h1:lo<=hi)(h2:hi<=n):iM sz (cutV sz v lo hi) (hi-lo) ((xs.drop (lo*sz)).take ((hi-lo)*sz)) w0:=by
 obtain⟨hl,hv⟩:=h;have e1:=Nat.mul_le_mul_right sz h1;have e2:=Nat.mul_le_mul_right sz h2;have e3:(hi-lo)*sz=hi*sz-lo*sz:=Nat.sub_mul ..;have hlen:((xs.drop (lo*sz)).take ((hi-lo)*sz)).length=(hi-lo)*sz:=by
  rw[List.length_take,List.length_drop,hl];omega
 refine⟨hlen,?_⟩;rcases hv with ⟨rfl,a,c,rfl⟩ | ⟨b,off,c,rfl,⟨hb,hc⟩,hx⟩
 ·obtain rfl:hi=0:=by omega
  obtain rfl:lo=0:=by omega
  refine .inl ⟨rfl,?_⟩;cases a with
  | none=>exact⟨_,_,rfl⟩
  | some a=>exact⟨_,_,rfl⟩
 ·by_cases e0:hi-lo=0
  ·refine .inl ⟨e0,?_⟩
   unfold cutV;simp only[e0];exact⟨_,_,rfl⟩
  ·have hne:¬ c=lo:=by omega
   refine .inr ⟨b,off+lo*sz,c-lo,?_,⟨hb,by omega⟩,λj hj=>?_⟩
   ·unfold cutV
    simp only[if_neg hne,fC]
   ·rw[Nat.add_assoc,hx _ (by omega),List.getElem?_take,if_pos hj,List.getElem?_drop]
section cuts
variable{k:Kn}{P:Program}{g:Nat}{t e:TypeId}{sL sA sB sV n sz lo hi:Nat}{v:Value}{xs:List Value}{w0:World}{i:TypeInfo}{kd kd':IntKind}
theorem wE{NJ hiv:Option Value}(hlo:NJ=none/\lo=0\/NJ=some (.int kd (lo:Int)))(hhi:hiv=some (.int kd' (hi:Int)))(hs:iM sz v n xs w0)(ht:P.underlying t=some (.slice e))(gI:P.info? e=some i)(hsz:i.size=sz)(h1:lo<=hi)(h2:hi<=n)(w:World) :
  (Instr.sliceAt t v NJ hiv none).run P w=.ok (cutV sz v lo hi) w:=by
 subst hsz;subst hhi;have hbd:∀ c:Nat,n<=c->(Instr.sliceBounds true n c NJ (some (.int kd' (hi:Int))) none).run P w=.ok (lo,hi,c) w:=by
  intro c hc;have e1:(hi:Int)<=(c:Int):=by omega
  have e2:(lo:Int)<=(hi:Int):=by omega
  rcases hlo with ⟨rfl,rfl⟩ | rfl
  ·simp[Instr.sliceBounds,run_sliceBound,e1]
  ·simp[Instr.sliceBounds,run_sliceBound,e1,e2]
 have hs':(Instr.sliceAt t v NJ (some (.int kd' (hi:Int))) none).run P w=(Instr.slice t v NJ (some (.int kd' (hi:Int))) none).run P w:=by
  simp[Instr.sliceAt,run_underlying ht]
 rw[hs'];obtain⟨hl,⟨rfl,a,c,rfl⟩ | ⟨b,off,c,rfl,⟨hb,hc⟩,hx⟩⟩:=hs
 ·obtain rfl:hi=0:=by omega
  obtain rfl:lo=0:=by omega
  cases a with
  | none =>
   simp only[Instr.slice,Sem.run_bind,run_underlying ht,Result.andThen];rw[hbd c (Nat.zero_le _)];simp[sizeOf,typeInfo,gI,cutV]
  | some a =>
   simp only[Instr.slice,Sem.run_bind,run_underlying ht,Result.andThen];rw[hbd c (Nat.zero_le _)]
   by_cases e0:c=0<;>simp[sizeOf,typeInfo,gI,cutV,e0]
 ·simp only[Instr.slice,Sem.run_bind,run_underlying ht,Result.andThen]
  rw[hbd c hc]
  by_cases e0:c=lo<;>simp[sizeOf,typeInfo,gI,cutV,e0]
end cuts
def Ge(l:List aF):aF where
 p:=λ_ F w=>cL l F w
 keep:=λ_ F w w' hk h=>⟨(star l).keep _ F w w' hk h.st,λj hj=>by
  have h1:=hk j hj;rw[Array.getElem?_eq_getElem (h.lt j hj)]at h1
  exact(Array.getElem?_eq_some_iff.1 h1).1⟩
 mono:=λ_ _ _ _ _ h=>h
def Dw{β:Type}(q:β->Prop)(a:β->aF):aF where
 p:=λι F w=>∃ x,q x/\(a x).p ι F w
 keep:=λι F w w' hk ⟨x,h1,h2⟩=>⟨x,h1,(a x).keep ι F w w' hk h2⟩
 mono:=λι κ F w hle ⟨x,h1,h2⟩=>⟨x,h1,(a x).mono ι κ F w hle h2⟩
theorem Gf{l m:List aF}{F:Nat->Prop}{w:World}(h:cL (Ge l::m) F w):cL (l++m) F w:=by
 obtain⟨Fa,Fl,k1,k2,k3,k4⟩:=bI h;exact cP (fe k1 k2 k3) (λj=>(k4 j).symm)
theorem Gg{l m:List aF}{F:Nat->Prop}{w:World}(h:cL (l++m) F w):cL (Ge l::m) F w:=by
 obtain⟨F1,F2,h1,h2,h3,h4⟩:=cV h;exact cP (bW (a:=Ge l) h1 h2 (λj hj=>h1.lt j hj) h3) (λj=>(h4 j).symm)
theorem M6{β:Type}{q:β->Prop}{a:β->aF}{m:List aF}{F:Nat->Prop}{w:World}(h:cL (Dw q a::m) F w):∃ x,q x/\cL (a x::m) F w:=by
 obtain⟨Fa,Fl,⟨x,hx,k1⟩,k2,k3,k4⟩:=bI h;exact⟨x,hx,cP (bW k1 k2 (λj hj=>h.lt j ((k4 j).2 (.inl hj))) k3) (λj=>(k4 j).symm)⟩
section
variable{c:dt}{l m:List aF}{w:World}
theorem af.open(h:af c (Ge l::m) w):af c (l++m) w:=by
 obtain⟨F,h1,h2,h3⟩:=h.ex;exact⟨⟨F,Gf h1,h2,h3⟩⟩
theorem af.shut(h:af c (l++m) w):af c (Ge l::m) w:=by
 obtain⟨F,h1,h2,h3⟩:=h.ex;exact⟨⟨F,Gg h1,h2,h3⟩⟩
theorem af.qD{β:Type}{q:β->Prop}{a:β->aF}(h:af c (Dw q a::m) w):∃ x,q x/\af c (a x::m) w:=by
 obtain⟨F,h1,h2,h3⟩:=h.ex;obtain⟨x,hx,k⟩:=M6 h1;exact⟨x,hx,⟨⟨F,k,h2,h3⟩⟩⟩
theorem af.r8{β:Type}{q:β->Prop}{a:β->aF}(x:β)(hx:q x)(h:af c (a x::m) w):af c (Dw q a::m) w:=h.head (λF hF=>⟨x,hx,hF⟩)
end
theorem af.step{c:dt}{l m r:List aF}{w w':World}(h:af c (l++r) w)(k:∀ F,cL l F w->(∀ j,F j->c.X j\/c.W.heap.size<=j)->af ⟨w,F⟩ m w'):af c (m++r) w':=by
 obtain⟨F,h1,h2,h3⟩:=h.ex;obtain⟨F1,F2,k1,k2,k3,k4⟩:=cV h1;have:=(k F1 k1 (λj hj=>h3 j ((k4 j).2 (.inl hj)))).frame k2 k3;exact this.into (l:=l) h2 (λj hj=>h3 j ((k4 j).2 hj))
section
variable{k:Kn}{P:Program}{g g':Nat}{l:List aF}{ci:Nat}{t u e:TypeId}{sL sS sV n sz m:Nat}{v:Value}{xs:List Value}{i:TypeInfo}{z:Value}
theorem iM.src{e':Nat}{w:World}(h:iM sz v m xs w)(hu:P.underlying u=some (.slice e'))(h1:∀ x ∈ xs,x.oneCell'=true):Src P sz u v m xs w:=by
 obtain⟨hl,⟨rfl,a,c,rfl⟩ | ⟨b,off,c,rfl,⟨hb,hc⟩,hx⟩⟩:=h
 ·have:xs=[]:=List.eq_nil_of_length_eq_zero (by rw[hl];simp)
  subst this;cases a with
  | none=>exact Src.ofNil w hu c
  | some a=>exact Src.ofSlice w hu a 0 c [] (by simp) (λj x h=>by simp at h) (λx h=>by cases h)
 ·refine Src.ofSlice w hu ⟨b,off,none⟩ m c xs hl (λj x hj=>?_) h1
  rw[fC,hx j (by rw[← hl];exact(List.getElem?_eq_some_iff.1 hj).1),hj]
theorem Dx{op:Op}{t:TypeId}(h:ef op=some [4,t,0,1,1]):∃ x hi mx,op=.slice t x none (some hi) (some mx):=by
 unfold ef at h
 split at h<;>first | (cases h;done) | skip
 all_goals first | (simp at h;done) | skip
 rename_i t' x lo hi mx;cases lo<;>cases hi<;>cases mx<;>simp at h
 subst h;exact⟨_,_,_,rfl⟩
theorem bw.slice3{d0 ng:Option Nat}{r x y z:Value}(h:letI:bB:=k.sig;∀ ι F w d x' y' z',Ask k g d0 ng ι F w d->aq ι x x'->aq ι y y'->aq ι z z'->iB P (Instr.sliceAt t x' none (some y') (some z')) ι d F w r ng):bw k P ⟨[4,t,0,1,1],[x,y,z],none,g,d0,r,ng⟩:=by
 letI:bB:=k.sig;intro o hk ev ι F w d hv _ h1 h2 h3 h4;obtain⟨a,b,c,ho⟩:=Dx hk;rw[ho]at hv;obtain⟨x',y',z',e,hx,hy,hz⟩:=MX hv;simp[Op.operands]at e;obtain⟨rfl,rfl,rfl⟩:=e;obtain⟨v',w',r1,r2⟩:=h ι F w d _ _ _ ⟨h1,h2,h3,h4⟩ hx hy hz;refine⟨.value v',v',w',?_,.inl rfl,r2⟩;unfold execOp;rw[ho];simp only[Option.map_some,Option.map_none];rw[Sem.run_bind,r1];rfl
theorem hJ{kd:IntKind}{zs:List Int} : ∀ x ∈ zs.map (Value.int kd),x.oneCell'=true:=by
 intro x hx;obtain⟨z,_,rfl⟩:=List.mem_map.1 hx;rfl
theorem Lx{k:Kn}{ι:am}{d:Nat}{x':Value}(h:letI:bB:=k.sig;aq ι (.complex .f32 d 0) x'):∃ c,ι d=some c/\dec c=x':=by
 letI:bB:=k.sig;cases h with
 | dyn id c _ h h'=>exact⟨c,h,h'⟩
theorem qR{d1:Nat}(hg:k.gs[g]? = some (star l))(hi:l[ci]? = some (jS d1 (λv=>bT e sz v n xs)))(ht:P.underlying t=some (.slice e))(hsz:i.size=sz)(hV:k.val sV=.int .i64 (n:Int)):bw k P ⟨[10,t],[.complex .f32 d1 0],none,g,none,sy sV,none⟩:=by
 subst hsz;refine bw.len k ?_;letI:bB:=k.sig;intro ι F w d x' ty q hx;obtain⟨Fs,ff,hS,hf,c,h0,h1⟩:=fb hg hi q;obtain⟨c',e0,e1⟩:=Lx hx;rw[h0]at e0;cases e0;rw[← e1];exact⟨_,w,dT.len h1 ht ty,oJ hV,Below.refl _ _⟩
theorem bg{d1 d2 e':Nat}{c cs:List Value}(hg:k.gs[g]? = some (star l))(hi:l[ci]? = some (jS d2 (λv=>bT e sz v n xs)))(hg':k.gs[g']? = some (star (l.set ci (jS d1 (λv'=>bT e sz v' (n+m) (xs++cs))))))(ht:P.underlying t=some (.slice e))(hu:P.underlying u=some (.slice e'))(gI:P.info? e=some i)(hsz:i.size=sz)(h0:0<sz)(hz:i.zero=some z)(hzs:z.cells.size=i.size)
  (hb:(n+m)*i.bytes<=140737488355328) (hnm:n+m<=1000000000) (hm:c.length=m*sz) (hc:∀ ι c',(letI:bB:=k.sig;dW ι c c')->c'=cs):bw k P ⟨[11,t,u],[.complex .f32 d2 0],some (sz,1,c),g,some d1,.complex .f32 d1 0,some g'⟩:=by
 subst hsz;refine bw.append k ?_;letI:bB:=k.sig;intro ι F w d x' y' c' m' ty q hx hcr hcm ho hr hl;obtain⟨Fs,ff,hS,hf,cd,h0',h1⟩:=fb hg hi q;obtain⟨c2,e0,e1⟩:=Lx hx;rw[h0']at e0;cases e0;rw[← e1];have hmm:m'=m:=Nat.eq_of_mul_eq_mul_right h0 (by rw[← hcm,hm]);subst hmm;obtain rfl:=q.name d1 rfl;have hs:Src P i.size u y' m' c' w:=⟨.inl ⟨_,hu⟩,hl,hr w rfl,hr w.drew rfl,by rw[← hcr.1];exact hm,wD hcr ho⟩;obtain⟨v2,w2,F2,r1,r2,r3,r4⟩:=dT.append (ty:=ty) h1 ht gI hz hzs hs hb hnm;rw[hc _ _ hcr]at r2;obtain⟨cc,hcc⟩:=r2.code;have hup:(ι.upd d1 cc) d1=some cc:=by simp[am.upd]
 exact⟨v2,w2,r1,wq hg' hS q.lt hf (i7 q) cc ⟨cc,hup,by rw[hcc];exact r2⟩ r3 r4 (.dyn d1 cc v2 hup hcc)⟩
end
end Go.Ev
namespace Go.Proofs.YtkmccgombmogmaaGreat
open Go.Ev Go.Proofs.Tryz
open Go.RowKit
open Go.Ev (sy)
def aN(bm:Nat)(m:bO):aF where
 p:=λ_ F w=>jn bm m F w
 keep:=λ_ F w w' hk h=>rW h hk
 mono:=λ_ _ _ _ _ h=>h
theorem k_{a:aF}{F:Nat->Prop}{w:World}(h:cL [a] F w):∃ Fa,a.p (λ_=>none) Fa w/\∀ j,Fa j->F j:=by
 obtain⟨Fa,Fl,k1,k2,k3,k4⟩:=bI h;exact⟨Fa,k1,λj hj=>(k4 j).2 (.inl hj)⟩
theorem oN{bm:Nat}{m:bO}{F Fa F':Nat->Prop}{w w':World}(hF:∀ j,Fa j->F j)(h:jn bm m F' w')(g:Grow Fa F' w w'):af ⟨w,F⟩ [aN bm m] w':=by
 obtain⟨t,g2⟩:=g;refine⟨⟨_,bW (a:=aN bm m) h (kZ w') (FP h) (λ_ _ h=>h),⟨t.os,t.tape,t.output,t.size,λj hj hn=>t.block j hj (λhf=>hn (hF j hf))⟩,λj hj=>?_⟩⟩;rcases hj with hj | hj
 ·exact(g2 j hj).2.imp (hF j) id
 ·exact hj.elim
def bO.tick(m:bO):bO:=⟨m.cells,IntKind.u64.wrap (m.ops+1)⟩
def bO.put(m:bO)(a:Nat)(v:Int):bO:=⟨m.cells.set a v,IntKind.u64.wrap (m.ops+1)⟩
section
variable{bm:Nat}{m:bO}{F:Nat->Prop}{w:World}
theorem dk(h:cL [aN bm m] F w){a:Nat}{x:Int}(hx:m.cells[a]? = some x)(ha2:(a:Int)<=9223372036854775807) :
  Calls prog 150 #[.pointer (some ⟨bm,0,none⟩),.int .i64 (a:Int)] w λe w'=>e=.returned (.int .u64 x)/\af ⟨w,F⟩ [aN bm m.tick] w':=by
 obtain⟨Fa,h1,h2⟩:=k_ h;obtain⟨ha,rfl⟩:=List.getElem?_eq_some_iff.1 hx;refine(Ds h1 ha ha2).mono ?_;rintro e w' ⟨F',rfl,k1,k2⟩;exact⟨rfl,oN h2 k1 k2⟩
theorem nO(h:cL [aN bm m] F w){a:Nat}(ha:a<m.cells.length)(ha2:(a:Int)<=9223372036854775807)(v:Int) :
  Calls prog 147 #[.pointer (some ⟨bm,0,none⟩),.int .i64 (a:Int),.int .u64 v] w λe w'=>e=.returned (.tuple #[])/\af ⟨w,F⟩ [aN bm (m.put a v)] w':=by
 obtain⟨Fa,h1,h2⟩:=k_ h;refine(AC h1 ha ha2 v).mono ?_;rintro e w' ⟨F',rfl,k1,k2⟩;exact⟨rfl,oN h2 k1 k2⟩
theorem oO(h:cL [aN bm m] F w){a:Nat}{x:Int}(hx:m.cells[a]? = some x)(ha2:(a:Int)<=9223372036854775807)(u v:Int)(hy:x≠u) :
  Calls prog 154 #[.pointer (some ⟨bm,0,none⟩),.int .i64 (a:Int),.int .u64 u,.int .u64 v] w λe w'=>e=.returned (.bool false)/\af ⟨w,F⟩ [aN bm m.tick] w':=by
 obtain⟨Fa,h1,h2⟩:=k_ h;obtain⟨ha,rfl⟩:=List.getElem?_eq_some_iff.1 hx;refine(MR h1 ha ha2 u v hy).mono ?_;rintro e w' ⟨F',rfl,k1,k2⟩;exact⟨rfl,oN h2 k1 k2⟩
theorem kg(h:cL [aN bm m] F w){a:Nat}{x:Int}(hx:m.cells[a]? = some x)(ha2:(a:Int)<=9223372036854775807)(u v:Int)(hy:x=u) :
  Calls prog 154 #[.pointer (some ⟨bm,0,none⟩),.int .i64 (a:Int),.int .u64 u,.int .u64 v] w λe w'=>e=.returned (.bool true)/\af ⟨w,F⟩ [aN bm (m.put a v)] w':=by
 obtain⟨Fa,h1,h2⟩:=k_ h;obtain⟨ha,rfl⟩:=List.getElem?_eq_some_iff.1 hx;refine(JP h1 ha ha2 u v hy).mono ?_;rintro e w' ⟨F',rfl,k1,k2⟩;exact⟨rfl,oN h2 k1 k2⟩
end
def M7(bm:Nat)(m:bO):(Int×Int×Int×Int×Int×Value×Value×Nat×List Value)->List aF
 | (c1,c2,c3,c4,c5,lg,cl,n,xl)=>[aE bm [.int .u64 m.ops,.int .u64 c1,.int .u64 c2,.int .u64 c3,.int .u64 c4,.int .u64 c5,lg,cl] 137,bT 51 1 cl m.cells.length (iL m.cells),bT 234 4 lg n xl]
theorem Gh{bm:Nat}{m:bO}{l:List aF}{c:dt}{w:World}(h:af c (aN bm m::l) w):∃ x,x.2.2.2.2.2.2.2.1<=256/\aT x.2.2.2.2.2.1=true/\aT x.2.2.2.2.2.2.1=true/\af c (M7 bm m x++l) w:=by
 obtain⟨F,h1,h2,h3⟩:=h.ex;obtain⟨Fa,Fl,⟨c1,c2,c3,c4,c5,lg,cl,n,G,hn,hb,⟨v,xl,F1,F2,e,s1,s2,dj,hG⟩,hnb,PY⟩,k2,k3,k4⟩:=bI h1;have e':v=lg:=e;subst e';refine⟨(c1,c2,c3,c4,c5,v,cl,n,xl),hn,s1.leaf,s2.leaf,⟨⟨F,cP (bW (a:=aE bm [.int .u64 m.ops,.int .u64 c1,.int .u64 c2,.int .u64 c3,.int .u64 c4,.int .u64 c5,v,cl] 137) (Fa:=λj=>j=bm) ⟨λj=>Iff.rfl,hb⟩ (bW (a:=bT 51 1 cl m.cells.length (iL m.cells)) s2 (bW (a:=bT 234 4 v n xl) s1 k2 (λj hj=>s1.lt j hj) (λj hj hl=>k3 j ((PY j).2 (.inr ((hG j).2 (.inl hj)))) hl)) (λj hj=>s2.lt j hj) (λj hj hh=>?_)) (λj hj=>by rw[hj];exact(Array.getElem?_eq_some_iff.1 hb).1) (λj hj hh=>?_)) (λj=>?_),h2,h3⟩⟩⟩
 ·rcases hh with hh | hh
  ·exact dj j hh hj
  ·exact k3 j ((PY j).2 (.inr ((hG j).2 (.inr hj)))) hh
 ·subst hj
  rcases hh with hh | hh | hh
  ·exact hnb ((hG j).2 (.inr hh))
  ·exact hnb ((hG j).2 (.inl hh))
  ·exact k3 j ((PY j).2 (.inl rfl)) hh
 ·rw[k4 j,PY j,hG j]
  constructor
  ·rintro(h | h | h | h)
   ·exact .inl (.inl h)
   ·exact .inl (.inr (.inr h))
   ·exact .inl (.inr (.inl h))
   ·exact .inr h
  ·rintro((h | h | h) | h)
   ·exact .inl h
   ·exact .inr (.inr (.inl h))
   ·exact .inr (.inl h)
   ·exact .inr (.inr (.inr h))
theorem yW{bm:Nat}{m:bO}{l:List aF}{c:dt}{w:World}(x:Int×Int×Int×Int×Int×Value×Value×Nat×List Value)(hx:x.2.2.2.2.2.2.2.1<=256)(h:af c (M7 bm m x++l) w):af c (aN bm m::l) w:=by
 obtain⟨c1,c2,c3,c4,c5,lg,cl,n,xl⟩:=x;obtain⟨F,h1,h2,h3⟩:=h.ex;obtain⟨Fb,Fr,⟨hb1,hb2⟩,k2,k3,k4⟩:=bI h1;obtain⟨Fc,Fs,s2,j2,j3,j4⟩:=bI k2;obtain⟨Fl,Ft,s1,i2,i3,i4⟩:=bI j2;refine⟨⟨F,cP (bW (a:=aN bm m) (Fa:=λj=>j=bm\/(Fl j\/Fc j)) ⟨c1,c2,c3,c4,c5,lg,cl,n,λj=>Fl j\/Fc j,hx,hb2,⟨lg,xl,Fl,Fc,rfl,s1,s2,λj hj hc=>j3 j hc ((i4 j).2 (.inl hj)),λj=>Iff.rfl⟩,λhh=>k3 bm ((hb1 bm).2 rfl) ((j4 bm).2 (hh.elim (λh=>.inr ((i4 bm).2 (.inl h))) .inl)),λj=>Iff.rfl⟩ i2 (λj hj=>?_) (λj hj ht=>?_)) (λj=>?_),h2,h3⟩⟩
 ·refine h1.lt j ((k4 j).2 ?_)
  rcases hj with h | h | h
  ·exact .inl ((hb1 j).2 h)
  ·exact .inr ((j4 j).2 (.inr ((i4 j).2 (.inl h))))
  ·exact .inr ((j4 j).2 (.inl h))
 ·rcases hj with h | h | h
  ·exact k3 j ((hb1 j).2 h) ((j4 j).2 (.inr ((i4 j).2 (.inr ht))))
  ·exact i3 j h ht
  ·exact j3 j h ((i4 j).2 (.inr ht))
 ·rw[k4 j,j4 j,i4 j,hb1 j]
  constructor
  ·rintro((h | h | h) | h)
   ·exact .inl h
   ·exact .inr (.inr (.inl h))
   ·exact .inr (.inl h)
   ·exact .inr (.inr (.inr h))
  ·rintro(h | h | h | h)
   ·exact .inl (.inl h)
   ·exact .inl (.inr (.inr h))
   ·exact .inl (.inr (.inl h))
   ·exact .inr h
end Go.Proofs.YtkmccgombmogmaaGreat
namespace Go.Ev
open Go.RowKit
theorem J9{op:Op}{t:TypeId}(h:ef op=some [19,t]):∃ x y,op=.makeSlice t x y:=by
 unfold ef at h
 split at h<;>first | (cases h;done) | skip
 all_goals first | (simp at h;done) | skip
 simp at h;subst h;exact⟨_,_,rfl⟩
section
variable{k:Kn}{P:Program}{g g':Nat}{l:List aF}{t e:TypeId}{n sz:Nat}{i:TypeInfo}{z:Value}
theorem bw.make{d0 ng:Option Nat}{r x y:Value}(h:letI:bB:=k.sig;∀ ι F w d x' y',Ask k g d0 ng ι F w d->aq ι x x'->aq ι y y'->iB P (Instr.makeSlice t x' y') ι d F w r ng):bw k P ⟨[19,t],[x,y],none,g,d0,r,ng⟩:=by
 letI:bB:=k.sig;intro o hk ev ι F w d hv _ h1 h2 h3 h4;obtain⟨a,b,ho⟩:=J9 hk;rw[ho]at hv;obtain⟨x',y',e,hx,hy⟩:=vY hv;simp[Op.operands]at e;obtain⟨rfl,rfl⟩:=e;obtain⟨v',w',r1,r2⟩:=h ι F w d _ _ ⟨h1,h2,h3,h4⟩ hx hy;refine⟨.value v',v',w',?_,.inl rfl,r2⟩;unfold execOp;rw[ho];simp only;rw[Sem.run_bind,r1];rfl
theorem jL{w w':World}(h:w.grownBy w' none):Below w.heap.size w w':=⟨h.os,h.tape,h.output,h.size,λj hj=>h.block j hj (by simp)⟩
theorem Gi{d1:Nat}{kd kd':IntKind}{x y:Value}(hg:k.gs[g]? = some (star l))(hg':k.gs[g']? = some (star (l++[jS d1 (λv=>bT e 1 v n (List.replicate n z))])))(hx:Ee k x (.int kd (n:Int)))(hy:Ee k y (.int kd' (n:Int)))(ht:P.underlying t=some (.slice e))(gI:P.info? e=some i)(hsz:i.size=1)(hz:i.zero=some z)(h1:z.cells = #[z])(hb:i.bytes*n<=281474976710656)(hn:n<=maxLen):bw k P ⟨[19,t],[x,y],none,g,some d1,.complex .f32 d1 0,some g'⟩:=by
 refine bw.make ?_;letI:bB:=k.sig;intro ι F w d x' y' q QQ Oa;obtain rfl:=q.name d1 rfl;obtain⟨b,q1,q2⟩:=q.st;rw[hg]at q1;cases q1;rw[hx _ _ QQ,hy _ _ Oa];obtain⟨w',r1,r2,r3⟩:=run_make_full (P:=P) w w.heap.size t e i z 1 ht gI hz hsz kd kd' n hb hn (Nat.le_refl _);have hsl:dT e 1 (.slice (some ⟨w.heap.size,0,none⟩) n n) n (List.replicate n z) (λj=>j=w.heap.size) w':=by
  obtain⟨s1,s2⟩:=r2;have hm:(madeCells z.cells (n*1)).toList=List.replicate n z:=by
   rw[Nat.mul_one,h1];refine List.ext_getElem (by simp[madeCells]) (λj a1 a2=>?_);simp[madeCells,Nat.mod_one]
  rw[hm]at s1 s2;rcases s2 with ⟨h,_⟩ | ⟨gb,cap,cur,hv,hb',hh,c1,c2,c3,c4⟩
  ·cases h
  ·cases hv
   refine⟨s1,.inr ⟨w.heap.size,0,n,cur,rfl,λ_=>Iff.rfl,hh,λj hj=>?_,by omega,Nat.le_refl _⟩⟩;rw[← c4,Nat.zero_add,List.getElem?_take_of_lt hj];simp
 obtain⟨cc,hcc⟩:=hsl.code;have hup:(ι.upd d1 cc) d1=some cc:=by simp[am.upd]
 exact⟨_,w',r1,grow_end hg' q2 q.lt (i7 q) cc ⟨cc,hup,by rw[hcc];exact hsl⟩ (jL r3) (λj hj=>⟨hsl.lt j hj,by rw[hj];exact Nat.le_refl _⟩) (.dyn d1 cc _ hup hcc)⟩
end
theorem J_{k:Kn}{P:Program}{c:dt}{f:FuncId}{abs args:List Value}{g:Nat}{gl lp:List aF}{r rv:Value}(idx:List Nat)(hg:k.gs[g]? = some (star (gp c.W c.X::gl)))(hsel:nM gl.length idx=true)(hp:sel gl idx=lp)(hf:lF lp)
  (ha:∀ ι l',(letI:bB:=k.sig;dW ι abs l')->l'=args) (hr:∀ ι,(letI:bB:=k.sig;aq ι r rv))
  (con:∀ (w:World) (F:Nat->Prop),oK c.W c.X w->cL lp F w->Calls P f args.toArray w λe w'=>e=.returned rv/\Below w.heap.size w w'):fI k P ⟨f,abs,g,none,r,none⟩:=by
 letI:bB:=k.sig;intro ι args' F w d hl h1 h2 h3 h4;have e:=ha ι _ hl;have ea:args'=args.toArray:=by rw[← e]
 subst ea;obtain⟨b,q1,q2⟩:=h1;rw[hg]at q1;cases q1;obtain⟨Fo,Fg,⟨o1,o2⟩,n1,n2,n3⟩:=bI (l:=gl.map (yK ι)) (wu q2 h2);obtain⟨F',s1,s2⟩:=wy n1 idx (by rw[List.length_map];exact hsel);rw[Cd,hp]at s1
 have pl:cL lp F' w:=B_ s1 (by simp) (λi a b ff e1 e2 h=>by
  rw[List.getElem?_map,e2]at e1;cases e1
  exact pT hf b (List.mem_of_getElem? e2) ι _ ff w h)
 refine(con w F' o2 pl).mono ?_;rintro e' w' ⟨rfl,hb⟩;exact⟨_,rfl,hr ι,hb⟩
theorem J'{k:Kn}{P:Program}{c:dt}{f:FuncId}{abs args:List Value}{g g' d1:Nat}{gl lp:List aF}{r:Value}{ret:Value->Value}(fs:List (Value->aF))(lq:List aF)(idx rest:List Nat)(hg:k.gs[g]? = some (star (gp c.W c.X::gl)))(hg':k.gs[g']? = some (star (gp c.W c.X::((fs.map (jS d1)++lq)++sel gl rest))))(hsel:nM gl.length (idx++rest)=true)(hp:sel gl idx=lp)(hf:lF lp)
  (ha:∀ ι l',(letI:bB:=k.sig;dW ι abs l')->l'=args) (hr:∀ (ι:am) cd,ι d1=some cd->(letI:bB:=k.sig;aq ι r (ret (dec cd))))
  (con:∀ (w:World) (F:Nat->Prop),oK c.W c.X w->cL lp F w->(∀ j,F j->c.X j\/c.W.heap.size<=j)->Calls P f args.toArray w λe w'=>∃ v cd,dec cd=v/\e=.returned (ret v)/\af ⟨w,F⟩ (fs.map (λf=>f v)++lq) w'):fI k P ⟨f,abs,g,some d1,r,some g'⟩:=by
 refine Gc (lq:=λv=>fs.map (λf=>f v)++lq) idx rest hg hg' hsel hp hf ha hr (λι cd w' hi=>⟨by simp,λi a b ff h1 h2 h=>?_⟩) con;rcases Nat.lt_or_ge i fs.length with h0 | h0
 ·rw[List.getElem?_append_left (by simpa using h0),List.getElem?_map]at h1 h2
  cases hfi:fs[i]? with
  | none=>rw[hfi]at h1;cases h1
  | some q =>
   rw[hfi]at h1 h2;cases h1;cases h2;exact⟨cd,hi,(q (dec cd)).mono _ _ ff w' (λ_ _ e=>by cases e) h⟩
 ·rw[List.getElem?_append_right (by simpa using h0)]at h1 h2
  simp only[List.length_map]at h1 h2;rw[h1]at h2;cases h2;exact a.mono _ _ ff w' (λ_ _ e=>by cases e) h
abbrev iz(n:Int):Value:=.int .i64 n
abbrev uz(n:Int):Value:=.int .u64 n
abbrev wz(n:Int):Value:=.int .u32 n
abbrev iN(n:Nat):Value:=.int .i64 (n:Int)
abbrev uN(n:Nat):Value:=.int .u64 (n:Int)
abbrev wN(n:Nat):Value:=.int .u32 (n:Int)
abbrev pz(b:Nat):Value:=.pointer (some ⟨b,0,none⟩)
abbrev dv(κ:am)(n:Nat):Value:=dec ((κ n).getD 0)
theorem fc{α:Type}{p:α->Prop}{a:α}{l:List α}(h:p a)(t:∀ x ∈ l,p x):∀ x ∈ a::l,p x:=List.forall_mem_cons.2 ⟨h,t⟩
theorem fn{α:Type}{p:α->Prop} : ∀ x ∈ ([]:List α),p x:=List.forall_mem_nil p
def vg:List Value->Nat->Value
 | [],_=>.int .i64 0
 | a::_,0=>a
 | _::l,n+1=>vg l n
theorem Cg:∀ {l:List Value},(∀ x ∈ l,aT x=true)->∀ n,aT (vg l n)=true
 | [],_,n=>rfl
 | a::l,h,0=>h a (List.mem_cons_self ..)
 | a::l,h,n+1=>Cg (λx hx=>h x (List.mem_cons_of_mem _ hx)) n
abbrev kn(vs:List Value)(lf:∀ x ∈ vs,aT x=true)(bs:List jC)(us:List jD)(cs:List jE)(hb:∀ q ∈ bs,lY (vg vs) q)(hu:∀ q ∈ us,lZ (vg vs) q)(hc:∀ q ∈ cs,lE (vg vs) q)(W:World)(X:Nat->Prop)(gs:List (List aF))(ops:List qC)(cls:List m_):Kn :=
 ⟨vg vs,Cg lf,bs,us,cs,[],hb,hu,hc,gs.map (λl=>star (gp W X::l)),ops,cls⟩
noncomputable def tp(d:Option Nat):Nat->Value->Bool
 | 0,_=>false
 | n+1,v=>match v with
  | .agg f=>f.toList.all (tp d n)
  | .tuple f=>f.toList.all (tp d n)
  | .iface _ v=>tp d n v
  | .complex .f64 _ _=>true
  | .complex .f32 e 0=>(match d with | some d=>Nat.beq d e | none=>false)
  | .complex .f32 e (_+2)=>(match d with | some d=>Nat.beq d e | none=>false)
  | .bool _ | .int _ _ | .string _=>true
  | .pointer none | .slice none 0 0 | .map none=>true
  | _=>false
def qS[bB](cd:Nat):Nat->Value->Value
 | 0,v=>v
 | n+1,v=>match v with
  | .agg f=>.agg (f.toList.map (qS cd n)).toArray
  | .tuple f=>.tuple (f.toList.map (qS cd n)).toArray
  | .iface t v=>.iface t (qS cd n v)
  | .complex .f64 s _=>bB.val s
  | .complex .f32 _ 0=>dec cd
  | .complex .f32 _ (j+2)=>Eh j (dec cd)
  | v=>v
theorem qT[bB]{ι:am}{d:Option Nat}{cd n:Nat}{f:Array Value}(hk:f.toList.all (tp d n)=true)(ih:∀ v,tp d n v=true->aq ι v (qS cd n v)):f.size=(f.toList.map (qS cd n)).toArray.size/\∀ (i:Nat) (v v':Value),f[i]? = some v->(f.toList.map (qS cd n)).toArray[i]? = some v'->aq ι v v':=by
 rw[List.all_eq_true]at hk;refine⟨by simp,λi v v' h1 h2=>?_⟩;have h3:v'=qS cd n v:=by
  have h1':f.toList[i]? = some v:=by simpa using h1
  simp only[List.getElem?_toArray,List.getElem?_map,h1',Option.map_some,Option.some.injEq]at h2;exact h2.symm
 rw[h3];exact ih v (hk v (by rw[Array.mem_toList_iff];exact Array.mem_of_getElem? h1))
theorem Gj[bB]{ι:am}{d:Option Nat}{cd:Nat}(hd:∀ e,d=some e->ι e=some cd):∀ (n:Nat) (v:Value),tp d n v=true->aq ι v (qS cd n v):=by
 intro n
 induction n with
 | zero=>exact λv h=>by cases h
 | succ n ih =>
  intro v h
  match v,h with
  | .agg f,h=>exact .agg _ _ (qT h ih).1 (qT h ih).2
  | .tuple f,h=>exact .tuple _ _ (qT h ih).1 (qT h ih).2
  | .iface t v,h=>exact .iface t _ _ (ih v h)
  | .complex .f64 s j,h=>exact .sym s j _ rfl
  | .complex .f32 e 0,h =>
   cases hdd:d with
   | none=>rw[hdd]at h;cases h
   | some x =>
    rw[hdd]at h;have he:x=e:=Nat.eq_of_beq_eq_true h;exact .dyn e cd _ (hd e (by rw[hdd,he])) rfl
  | .complex .f32 e 1,h=>cases h
  | .complex .f32 e (j+2),h =>
   cases hdd:d with
   | none=>rw[hdd]at h;cases h
   | some x =>
    rw[hdd]at h;have he:x=e:=Nat.eq_of_beq_eq_true h;exact .qW e cd j _ (hd e (by rw[hdd,he])) rfl
  | .bool b,h=>exact .bool b
  | .int k m,h=>exact .int k m
  | .string s,h=>exact .string s
  | .pointer none,h=>exact .pu
  | .slice none 0 0,h=>exact .dF
  | .map none,h=>exact .nt
theorem Gk[bB]{ι:am}{n:Nat}{f f':Array Value}(hf:f.size=f'.size)(h:∀ (i:Nat) (v v':Value),f[i]? = some v->f'[i]? = some v'->aq ι v v')(hk:f.toList.all (tp none n)=true)(ih:∀ v v',tp none n v=true->aq ι v v'->v'=qS 0 n v):f'=(f.toList.map (qS 0 n)).toArray:=by
 rw[List.all_eq_true]at hk;apply Array.ext (by simp[hf]);intro i h1 h2;have h3:i<f.size:=by rw[hf];exact h1
 rw[ih f[i] f'[i] (hk _ (by simp)) (h i _ _ (Array.getElem?_eq_getElem h3) (Array.getElem?_eq_getElem h1))];simp
theorem OG[bB]{ι:am} : ∀ (n:Nat) (v v':Value),tp none n v=true->aq ι v v'->v'=qS 0 n v:=by
 intro n
 induction n with
 | zero=>exact λv v' h=>by cases h
 | succ n ih =>
  intro v v' hk h;cases h with
  | agg f f' hf hr=>exact congrArg Value.agg (Gk hf hr hk ih)
  | tuple f f' hf hr=>exact congrArg Value.tuple (Gk hf hr hk ih)
  | iface t v v' hr=>exact congrArg (Value.iface t) (ih _ _ hk hr)
  | sym m j _ h=>exact h.symm
  | dyn id c _ h h'=>cases hk
  | qW id c j _ h h'=>cases hk
  | junk m _ h=>cases hk
  | bool=>rfl
  | int=>rfl
  | string=>rfl
  | pu=>rfl
  | dF=>rfl
  | nt=>rfl
  | _=>cases hk
theorem ak{k:Kn}{abs args:List Value}(h:abs.all (tp none 5)=true)(e:abs.map (@qS k.sig 0 5)=args):∀ ι l',(letI:bB:=k.sig;dW ι abs l')->l'=args:=by
 letI:bB:=k.sig;intro ι l' hl;rw[← e];rw[List.all_eq_true]at h;apply List.ext_getElem (by rw[List.length_map];exact hl.1.symm);intro i h1 h2;have h3:i<abs.length:=by simpa using h2
 rw[List.getElem_map];exact OG 5 _ _ (h _ (List.getElem_mem h3)) (hl.2 i _ _ (List.getElem?_eq_getElem h3) (List.getElem?_eq_getElem h1))
theorem vk{k:Kn}{ι:am}{r rv:Value}(h:tp none 5 r=true)(e:@qS k.sig 0 5 r=rv):letI:bB:=k.sig;aq ι r rv:=by
 letI:bB:=k.sig;rw[← e];exact Gj (d:=none) (λ_ h=>by cases h) 5 r h
theorem vd{k:Kn}{ι:am}{d cd:Nat}{r rv:Value}(hd:ι d=some cd)(h:tp (some d) 5 r=true)(e:@qS k.sig cd 5 r=rv):letI:bB:=k.sig;aq ι r rv:=by
 letI:bB:=k.sig;rw[← e];exact Gj (d:=some d) (λ_ h=>by cases h;exact hd) 5 r h
theorem fr{l:List Value}(h:l.all aT=true:=by kernel_rfl):∀ x ∈ l,aT x=true:=λx hx=>List.all_eq_true.1 h x hx
section
variable{vs:List Value}{lf:∀ x ∈ vs,aT x=true}{bs:List jC}{us:List jD}{cs:List jE}{hb:∀ q ∈ bs,lY (vg vs) q}{hu:∀ q ∈ us,lZ (vg vs) q}{hc:∀ q ∈ cs,lE (vg vs) q}{W:World}{X:Nat->Prop}{gs:List (List aF)}{ops:List qC}{cls:List m_}{P:Program}{f:FuncId}{abs args:List Value}{g g' d1:Nat}{gl:List aF}{r rv:Value}{ret:Value->Value}
theorem qn{gl:List aF}{g:Nat}(h:gs[g]? = some gl):(kn vs lf bs us cs hb hu hc W X gs ops cls).gs[g]? = some (star (gp W X::gl)):=by
 show(gs.map (λl=>star (gp W X::l)))[g]? = _;rw[List.getElem?_map,h];rfl
theorem pc(hg:gs[g]? = some gl)(con:∀ w,oK W X w->Calls P f args.toArray w λe w'=>e=.returned rv/\Below w.heap.size w w')(h:(abs.all (tp none 5)&&tp none 5 r)=true:=by kernel_rfl)(e1:abs.map (@qS (kn vs lf bs us cs hb hu hc W X gs ops cls).sig 0 5)=args:=by kernel_rfl)(e2:@qS (kn vs lf bs us cs hb hu hc W X gs ops cls).sig 0 5 r=rv:=by kernel_rfl):fI (kn vs lf bs us cs hb hu hc W X gs ops cls) P ⟨f,abs,g,none,r,none⟩:=by
 rw[Bool.and_eq_true]at h;exact Gd (ci:=0) (qn hg) rfl con (λι=>vk h.2 e2) (ak h.1 e1)
theorem cc(hg:gs[g]? = some gl)(lq:List aF)(idx rest:List Nat)(con:∀ (w:World) (F:Nat->Prop),oK W X w->cL (sel gl idx) F w->(∀ j,F j->X j\/W.heap.size<=j)->Calls P f args.toArray w λe w'=>e=.returned rv/\af ⟨w,F⟩ lq w')(hg':gs[g']? = some (lq++sel gl rest):=by rfl)(hsel:nM gl.length (idx++rest)=true:=by kernel_rfl)(hf:lF (sel gl idx):=by first | exact trivial | exact⟨λ_ _ _ _ h=>h,trivial⟩ | exact⟨λ_ _ _ _ h=>h,λ_ _ _ _ h=>h,trivial⟩ | exact⟨λ_ _ _ _ h=>h,λ_ _ _ _ h=>h,λ_ _ _ _ h=>h,trivial⟩)
  (h:(abs.all (tp none 5)&&tp none 5 r)=true:=by kernel_rfl) (e1:abs.map (@qS (kn vs lf bs us cs hb hu hc W X gs ops cls).sig 0 5)=args:=by kernel_rfl) (e2:@qS (kn vs lf bs us cs hb hu hc W X gs ops cls).sig 0 5 r=rv:=by kernel_rfl):fI (kn vs lf bs us cs hb hu hc W X gs ops cls) P ⟨f,abs,g,none,r,some g'⟩:=by
 rw[Bool.and_eq_true]at h;exact M4 (c:=⟨W,X⟩) idx rest (qn hg) (qn hg') hsel rfl hf (ak h.1 e1) (λι=>vk h.2 e2) con
theorem cr(hg:gs[g]? = some gl)(idx:List Nat)(con:∀ (w:World) (F:Nat->Prop),oK W X w->cL (sel gl idx) F w->Calls P f args.toArray w λe w'=>e=.returned rv/\Below w.heap.size w w')(hsel:nM gl.length idx=true:=by kernel_rfl)(hf:lF (sel gl idx):=by first | exact trivial | exact⟨λ_ _ _ _ h=>h,trivial⟩ | exact⟨λ_ _ _ _ h=>h,λ_ _ _ _ h=>h,trivial⟩ | exact⟨λ_ _ _ _ h=>h,λ_ _ _ _ h=>h,λ_ _ _ _ h=>h,trivial⟩)
  (h:(abs.all (tp none 5)&&tp none 5 r)=true:=by kernel_rfl) (e1:abs.map (@qS (kn vs lf bs us cs hb hu hc W X gs ops cls).sig 0 5)=args:=by kernel_rfl) (e2:@qS (kn vs lf bs us cs hb hu hc W X gs ops cls).sig 0 5 r=rv:=by kernel_rfl):fI (kn vs lf bs us cs hb hu hc W X gs ops cls) P ⟨f,abs,g,none,r,none⟩:=by
 rw[Bool.and_eq_true]at h;exact J_ (c:=⟨W,X⟩) idx (qn hg) hsel rfl hf (ak h.1 e1) (λι=>vk h.2 e2) con
theorem cm(hg:gs[g]? = some gl)(fs:List (Value->aF))(lq:List aF)(idx rest:List Nat)(con:∀ (w:World) (F:Nat->Prop),oK W X w->cL (sel gl idx) F w->(∀ j,F j->X j\/W.heap.size<=j)->Calls P f args.toArray w λe w'=>∃ v cd,dec cd=v/\e=.returned (ret v)/\af ⟨w,F⟩ (fs.map (λf=>f v)++lq) w')(hg':gs[g']? = some ((fs.map (jS d1)++lq)++sel gl rest):=by rfl)(hsel:nM gl.length (idx++rest)=true:=by kernel_rfl)(hf:lF (sel gl idx):=by first | exact trivial | exact⟨λ_ _ _ _ h=>h,trivial⟩ | exact⟨λ_ _ _ _ h=>h,λ_ _ _ _ h=>h,trivial⟩ | exact⟨λ_ _ _ _ h=>h,λ_ _ _ _ h=>h,λ_ _ _ _ h=>h,trivial⟩)
  (h:(abs.all (tp none 5)&&tp (some d1) 5 r)=true:=by kernel_rfl) (e1:abs.map (@qS (kn vs lf bs us cs hb hu hc W X gs ops cls).sig 0 5)=args:=by kernel_rfl) (e2:(λcd=>@qS (kn vs lf bs us cs hb hu hc W X gs ops cls).sig cd 5 r)=(λcd=>ret (dec cd)):=by kernel_rfl):fI (kn vs lf bs us cs hb hu hc W X gs ops cls) P ⟨f,abs,g,some d1,r,some g'⟩:=by
 rw[Bool.and_eq_true]at h;exact J' (c:=⟨W,X⟩) fs lq idx rest (qn hg) (qn hg') hsel rfl hf (ak h.1 e1) (λι cd hcd=>vd hcd h.2 (congrFun e2 cd)) con
theorem cd(hg:gs[g]? = some gl)(fs:List (Value->aF))(idx rest:List Nat)(con:∀ (w:World) (F:Nat->Prop),oK W X w->cL (sel gl idx) F w->(∀ j,F j->X j\/W.heap.size<=j)->Calls P f args.toArray w λe w'=>∃ v cd,dec cd=v/\e=.returned (ret v)/\af ⟨w,F⟩ (fs.map (λf=>f v)) w')(hg':gs[g']? = some (fs.map (jS d1)++sel gl rest):=by rfl)(hsel:nM gl.length (idx++rest)=true:=by kernel_rfl)(hf:lF (sel gl idx):=by first | exact trivial | exact⟨λ_ _ _ _ h=>h,trivial⟩ | exact⟨λ_ _ _ _ h=>h,λ_ _ _ _ h=>h,trivial⟩ | exact⟨λ_ _ _ _ h=>h,λ_ _ _ _ h=>h,λ_ _ _ _ h=>h,trivial⟩)
  (h:(abs.all (tp none 5)&&tp (some d1) 5 r)=true:=by kernel_rfl) (e1:abs.map (@qS (kn vs lf bs us cs hb hu hc W X gs ops cls).sig 0 5)=args:=by kernel_rfl) (e2:(λcd=>@qS (kn vs lf bs us cs hb hu hc W X gs ops cls).sig cd 5 r)=(λcd=>ret (dec cd)):=by kernel_rfl):fI (kn vs lf bs us cs hb hu hc W X gs ops cls) P ⟨f,abs,g,some d1,r,some g'⟩:=by
 rw[Bool.and_eq_true]at h;exact J8 (c:=⟨W,X⟩) fs idx rest (qn hg) (qn hg') hsel rfl hf (ak h.1 e1) (λι cd hcd=>vd hcd h.2 (congrFun e2 cd)) con
theorem st{key:List Nat}{vals:List Value}(h:∀ g gl,gs[g]? = some gl->bw (kn vs lf bs us cs hb hu hc W X gs ops cls) P ⟨key,vals,none,g,none,r,none⟩):bw (kn vs lf bs us cs hb hu hc W X gs ops cls) P ⟨key,vals,some (0,7,[]),0,none,r,none⟩:=by
 show ∀ g,QH (kn vs lf bs us cs hb hu hc W X gs ops cls) P ⟨key,vals,none,g,none,r,none⟩;intro g;cases hg:gs[g]? with
 | some gl=>exact h g gl hg
 | none =>
  intro o hk ev ι F w d h1 h2 h3;obtain⟨a,h4,_⟩:=h3;have h5:(gs.map (λl=>star (gp W X::l)))[g]? = some a:=h4;rw[List.getElem?_map,hg]at h5;cases h5
end
end Go.Ev
namespace Go.Proofs.YtkmccgombmogmaaGreat
open Go.Ev Go.Proofs.Tryz
open Go.RowKit
open Go.Ev (sy)
set_option maxRecDepth 8000
theorem wF{P:Program}{t:TypeId}{z:Value}{n b:Nat}(h:(P.info? t).map (λi=>(i.zero,i.size,i.bytes))=some (some z,n,b)):∃ i,P.info? t=some i/\i.size=n/\i.zero=some z/\i.bytes=b:=by
 cases hi:P.info? t with
 | none=>rw[hi]at h;cases h
 | some i =>
  rw[hi]at h;simp only[Option.map_some,Option.some.injEq,Prod.mk.injEq]at h;exact⟨i,rfl,h.2.1,h.1,h.2.2⟩
theorem b_:∃ i,prog.info? 3 = some i/\i.size=1/\i.zero=some (.int .i64 0)/\i.bytes=8:=wF (by kernel_rfl)
theorem Gl:∃ i,prog.info? 51 = some i/\i.size=1/\i.zero=some (.int .u64 0)/\i.bytes=8:=wF (by kernel_rfl)
theorem bG:B1 prog 3:=by
 intro b o x w h;simp[Instr.loadAt,Instr.sureAddr,loadVar,isAgg,run_underlying underlying3,h]
theorem cells_one{x:Value}(h:x.oneCell'=true):x.cells = #[x]:=by cases x<;>first | rfl | cases h
theorem yX:yT prog 3:=by
 intro b o x x0 w h hf hc;simp[Instr.storeAt,Instr.sureAddr,storeVar,isAgg,run_underlying underlying3,h,cells_one hc,storeCells,run_store _ _ _ _ _ hc,hf,fC]
theorem bx{n:Int}(h1:-9223372036854775808<=n)(h2:n<=9223372036854775807):IntKind.i64.wrap n=n:=by
 unfold IntKind.wrap;simp[IntKind.signed,IntKind.bits];omega
def aX(xs:List Int):List Value:=xs.map (Value.int .i64)
theorem bh{w:World}{F:Nat->Prop}{l:List aF}{N:Nat}{f:FuncId}{args:Array Value}{tm:List (Nat×Value)}{α:Type}{r:α->Value}{l':α->List aF}{R:Ending->World->Prop}(hp:cw prog f [] 0 N ⟨w,F⟩ tm l r l')(hN:dS prog (λB=>kW B f [] (λfn _=>Nat.beq fn.ntmps N))=true)(h:cL l F w)(ha:args.size<=N)(ht:∀ p ∈ tm,args[p.1]? = some p.2)(hR:∀ x w1,af ⟨w,F⟩ (l' x) w1->R (.returned (r x)) w1):Calls prog f args w R :=
 mL hN h ha ht (λA hA=>hp A w _ hA hR)
theorem dm{c:dt}{e:TypeId}{sz n:Nat}{v:Value}{xs:List Value}{l:List aF}{w:World}(h:af c (bT e sz v n xs::l) w):aT v=true:=by
 obtain⟨f,hf⟩:=h.first
 exact dT.leaf hf
theorem tr{N i kk:Nat}{f:FuncId}{p:List Nat}{c:dt}(k:Ev.Kn)(ho:∀ q ∈ k.ops,bw k prog q)(hl:∀ q ∈ k.cls,fI k prog q)(hs:k.ks=[])(rn:List (Nat×Nat))(bl fX:List iA)(g':Nat){gl xg:List aF}(hg:k.gs[0]? = some (Ev.star (gp c.W c.X::gl)))(hg':k.gs[g']? = some (Ev.star (gp c.W c.X::xg)))(dP jK:List (Nat×Value))(ex:Exit)(hk:ut rn dP bl jK fX=true:=by kernel_rfl)
  (run:∀ gb:Nat->Value,letI:bB:=k.sig;dS prog (λB=>kW B f p (λ_ c=>Nat.beq (tn gb N 0 dP).length N&&(Nat.ble N 4094&&(tQ 100 rn bl&&yF ex jK fX g' (lC (tn gb N 0 dP) 0 .leaf (λt=>iq B 400 N kk ((Ev.flat c).drop i) t (fB (eG bl 0) 100)))))))=true:=by intro gb;kernel_rfl) :
  letI:bB:=k.sig;J3 prog f p i kk N c (dP.map (I4 (bL rn))) (bl.map (hE (bL rn))++gl) ex (λκ:am=>jK.map (I4 (wC rn κ))) (λκ:am=>fX.map (hE (wC rn κ))++xg.map (yK (wC rn κ))) :=
 SH Tryz.codeOk dO k (Ev.Kn.ok k (λq hq=>by rw[hs]at hq;cases hq) ho hl) (n:=400) (m:=100) rn bl fX 0 g' gl xg hg hg' dP jK ex hk run
theorem eP{N i:Nat}{f:FuncId}{p:List Nat}{c:dt}(kk:Nat)(k:Ev.Kn)(ho:∀ q ∈ k.ops,bw k prog q)(hl:∀ q ∈ k.cls,fI k prog q)(hs:k.ks=[])(rn:List (Nat×Nat))(bl fX:List iA)(g':Nat){gl xg:List aF}(hg:k.gs[0]? = some (Ev.star (gp c.W c.X::gl)))(hg':k.gs[g']? = some (Ev.star (gp c.W c.X::xg)))(dP:List (Nat×Value))(r:Value)(hk:ut rn dP bl [(0,r)] fX=true:=by kernel_rfl)
  (run:∀ gb:Nat->Value,letI:bB:=k.sig;dS prog (λB=>kW B f p (λfn c=>Nat.beq (tn gb N 0 dP).length N&&(Nat.beq fn.ntmps N&&(Nat.ble N 4094&&(tQ 100 rn bl&&((fX.all (λq=>Nat.beq (q.1%4) 0)&&Ev.isNil ((Ev.flat c).drop (i+kk)))&&jm r fX (some g') (lC (tn gb N 0 dP) 0 .leaf (λt=>vS B.P fn (iq B 400 N kk ((Ev.flat c).drop i) t (fB (eG bl 0) 100))))))))))=true:=by intro gb;kernel_rfl) :
  letI:bB:=k.sig;cw prog f p i N c (dP.map (I4 (bL rn))) (bl.map (hE (bL rn))++gl) (λκ:am=>fS 3 (wC rn κ) r) (λκ:am=>fX.map (hE (wC rn κ))++xg.map (yK (wC rn κ))) :=
 QN Tryz.codeOk dO k (Ev.Kn.ok k (λq hq=>by rw[hs]at hq;cases hq) ho hl) (n:=400) (m:=100) (kk:=kk) rn bl fX 0 g' gl xg hg hg' dP r hk run
end Go.Proofs.YtkmccgombmogmaaGreat
namespace Go.Ev
end Go.Ev
namespace Go.Proofs.YtkmccgombmogmaaGreat
open Go.Ev Go.Proofs.Tryz
open Go.RowKit
def wi(n a b:Int):Bool:=decide (a<=n)&&decide (n<=b)
set_option maxHeartbeats 400000 in
theorem AL(n a b:Int)(w:World) :
  Calls prog 45 #[.int .i64 n,.int .i64 a,.int .i64 b] w λe w'=>e=.returned (.bool (wi n a b))/\w=w':=by
 by_cases h1:a<=n<;>by_cases h2:n<=b
 all_goals
  go_enter func45,ntmps45
  go_wp2
  go_ret
  exact⟨by simp[wi, *],rfl⟩
def l8(N Q G M T S:Int):Bool :=
 wi N 1 8&&(Q==2||Q==4||Q==8||Q==16||Q==32||Q==64)&&wi G 1 256&&wi M (N+1) 16&&wi T 2 200&&wi S 0 1000
def wG(N Q G M T S:Int):Bool :=
 wi N 1 8&&wi Q 2 64&&(bits .and .i64 Q (wrap64 (Q-1))==0)&&wi G 1 256&&wi M (wrap64 (N+1)) 16&&wi T 2 200&&wi S 0 1000
theorem AN(q:Nat)(h:q<65):(2<=q/\bits .and .i64 (q:Int) (wrap64 ((q:Int)-1))=0)↔(q=2\/q=4\/q=8\/q=16\/q=32\/q=64):=by
 have:∀ q:Fin 65,(2<=q.val/\bits .and .i64 (q.val:Int) (wrap64 ((q.val:Int)-1))=0)↔(q.val=2\/q.val=4\/q.val=8\/q.val=16\/q.val=32\/q.val=64):=by decide +kernel
 exact this ⟨q,h⟩
theorem Dy(N Q G M T S:Int):wG N Q G M T S=l8 N Q G M T S:=by
 unfold wG l8
 by_cases hN:wi N 1 8=true
 ·have e1:wrap64 (N+1)=N+1:=by
   have h:=hN;simp[wi]at h;unfold wrap64;omega
  have e2:(wi Q 2 64&&(bits .and .i64 Q (wrap64 (Q-1))==0))=(Q==2||Q==4||Q==8||Q==16||Q==32||Q==64):=by
   by_cases hQ:wi Q 2 64=true
   ·have h:=hQ
    simp[wi]at h;obtain⟨q,rfl⟩:=Int.eq_ofNat_of_zero_le (show 0<=Q by omega);have hp:=AN q (by omega);rw[Bool.eq_iff_iff];simp[hQ];rw[show(bits BinOp.and IntKind.i64 (↑q) (wrap64 (↑q-1))=0↔(q=2\/q=4\/q=8\/q=16\/q=32\/q=64)) from⟨λx=>hp.1 ⟨by omega,x⟩,λx=>(hp.2 x).2⟩];omega
   ·have h:=hQ
    simp[wi]at h;rw[Bool.eq_iff_iff];simp[hQ];omega
  rw[e1,← e2];simp[Bool.and_assoc]
 ·simp[hN]
set_option maxHeartbeats 800000 in
theorem AO(N Q G M T S:Int)(w:World) :
  Calls prog 21 #[.agg #[.int .i64 N,.int .i64 Q,.int .i64 G,.int .i64 M,.int .i64 T,.int .i64 S]] w λe w'=>e=.returned (.bool (wG N Q G M T S))/\Below w.heap.size w w':=by
 go_enter func21,ntmps21
 go_wp2_with (go_at_call 45;refine(AL _ _ _ _).mono ?_;rintro e w' ⟨rfl,rfl⟩)
 all_goals
  go_ret
  refine⟨?_,(Below.refl _ _).alloc (Nat.le_refl _) _⟩;simp[wG, *]
theorem uu(N Q G M T S:Int)(w:World) :
  Calls prog 21 #[.agg #[.int .i64 N,.int .i64 Q,.int .i64 G,.int .i64 M,.int .i64 T,.int .i64 S]] w λe w'=>e=.returned (.bool (l8 N Q G M T S))/\Below w.heap.size w w':=by
 rw[← Dy];exact AO N Q G M T S w
end Go.Proofs.YtkmccgombmogmaaGreat
namespace Go.Proofs.YtkmccgombmogmaaGreat
open Go.Ev Go.Proofs.Tryz
open Go.RowKit
open Go.Ev (sy)
def aj(x:Int):Int:=x / 4294967296
def cI(x:Int):Int:=x%4294967296
def aW(x:Int):Int:=(cI x-aj x)%4294967296
def na(h t:Int):Int:=h*4294967296+t
def dQ(x d:Int):Int:=na (aj x) ((cI x+d)%4294967296)
def fv(x:Int):Prop:=0<=x/\x<18446744073709551616
theorem bR{x:Int}(h:fv x):0<=aj x/\aj x<4294967296:=by obtain⟨h1,h2⟩:=h;unfold aj;omega
theorem bM(x:Int):0<=cI x/\cI x<4294967296:=by unfold cI;omega
theorem cy(n:Int):IntKind.u32.wrap n=n%4294967296:=by simp[IntKind.wrap,IntKind.bits,IntKind.signed]
theorem l9(x:Int)(h:fv x)(w:World):Calls prog 74 #[.int .u64 x] w λe w'=>e=.returned (.int .u32 (cI x))/\w=w':=by
 go_enter func74,ntmps74
 go_wp2
 go_ret
 exact⟨by simp[cI,cy],rfl⟩
theorem cC(x:Int)(h:fv x)(w:World):Calls prog 73 #[.int .u64 x] w λe w'=>e=.returned (.int .u32 (aj x))/\w=w':=by
 obtain⟨h1,h2⟩:=h
 go_enter func73,ntmps73
 go_wp2
 go_ret
 exact⟨by simp[aj,cy],rfl⟩
theorem Ka(a b:Int)(ha:0<=a/\a<4294967296)(hb:0<=b/\b<4294967296):bits .or .u64 (a*4294967296) b=a*4294967296+b:=by
 obtain⟨a,rfl⟩:=Int.eq_ofNat_of_zero_le ha.1;obtain⟨b,rfl⟩:=Int.eq_ofNat_of_zero_le hb.1;have h1:a<4294967296:=by omega
 have h2:b<4294967296:=by omega
 have e1:((a:Int)*4294967296%18446744073709551616).toNat=2 ^ 32*a:=by omega
 have e2:((b:Int)%18446744073709551616).toNat=b:=by omega
 have e3:(2 ^ 32*a ||| b)=2 ^ 32*a+b:=(Nat.two_pow_add_eq_or_of_lt (i:=32) (by omega) a).symm;have e4:(BitVec.ofInt 64 ((a:Int)*4294967296) ||| BitVec.ofInt 64 (b:Int)).toNat=2 ^ 32*a+b:=by
  simp only[BitVec.toNat_or,BitVec.toNat_ofInt];rw[show((2 ^ 64:Nat):Int)=18446744073709551616 by rfl,e1,e2,e3]
 show IntKind.u64.wrap ((BitVec.ofInt 64 ((a:Int)*4294967296) ||| BitVec.ofInt 64 (b:Int)).toNat:Int)=_;rw[e4];simp[IntKind.wrap,IntKind.bits,IntKind.signed];omega
theorem Gm(a b:Int)(ha:0<=a/\a<4294967296)(hb:0<=b/\b<4294967296)(w:World):Calls prog 114 #[.int .u32 a,.int .u32 b] w λe w'=>e=.returned (.int .u64 (na a b))/\w=w':=by
 go_enter func114,ntmps114
 go_wp2
 go_ret
 exact⟨by simp[na,Ka a b ha hb],rfl⟩
theorem cG(x:Int)(h:fv x)(w:World):Calls prog 42 #[.int .u64 x] w λe w'=>e=.returned (.int .u32 (aW x))/\w=w':=by
 go_enter func42,ntmps42
 go_wp2_with (first | (go_at_call 74;refine(l9 x h _).mono ?_;rintro e w' ⟨rfl,rfl⟩) | (go_at_call 73;refine(cC x h _).mono ?_;rintro e w' ⟨rfl,rfl⟩))
 go_ret
 exact⟨by simp[aW,cy],rfl⟩
theorem uv(x n:Int)(h:fv x)(w:World):Calls prog 113 #[.int .u64 x,.int .u32 n] w λe w'=>e=.returned (.int .u64 (dQ x n))/\w=w':=by
 go_enter func113,ntmps113
 go_wp2_with (first | (go_at_call 74;refine(l9 x h _).mono ?_;rintro e w' ⟨rfl,rfl⟩) | (go_at_call 73;refine(cC x h _).mono ?_;rintro e w' ⟨rfl,rfl⟩) | (go_at_call 114;refine(Gm (aj x) ((cI x+n)%4294967296) (bR h) (by omega) _).mono ?_;rintro e w' ⟨rfl,rfl⟩))
 go_ret
 exact⟨rfl,rfl⟩
theorem yY(x n:Int)(h:fv x)(w:World):Calls prog 96 #[.int .u64 x,.int .u32 n] w λe w'=>e=.returned (.int .u64 (dQ x (-n)))/\w=w':=by
 go_enter func96,ntmps96
 go_wp2_with (first | (go_at_call 74;refine(l9 x h _).mono ?_;rintro e w' ⟨rfl,rfl⟩) | (go_at_call 73;refine(cC x h _).mono ?_;rintro e w' ⟨rfl,rfl⟩) | (go_at_call 114;refine(Gm (aj x) ((cI x-n)%4294967296) (bR h) (by omega) _).mono ?_;rintro e w' ⟨rfl,rfl⟩))
 go_ret
 exact⟨rfl,rfl⟩
structure Cf where
 n:Int
 q:Int
 g:Int
 m:Int
 t:Int
 s:Int
abbrev Cf.v(c:Cf):Value:=.agg #[.int .i64 c.n,.int .i64 c.q,.int .i64 c.g,.int .i64 c.m,.int .i64 c.t,.int .i64 c.s]
def Cf.ok(c:Cf):Bool:=l8 c.n c.q c.g c.m c.t c.s
structure aU where
 n:Nat
 q:Nat
 g:Int
 m:Int
 t:Int
 s:Int
 h:l8 n q g m t s=true
abbrev aU.v(c:aU):Value:=.agg #[.int .i64 (c.n:Int),.int .i64 (c.q:Int),.int .i64 c.g,.int .i64 c.m,.int .i64 c.t,.int .i64 c.s]
theorem hY{n q g m t s:Int}(h:l8 n q g m t s=true):(1<=n/\n<=8)/\(q=2\/q=4\/q=8\/q=16\/q=32\/q=64)/\(1<=g/\g<=256)/\(n+1<=m/\m<=16)/\(2<=t/\t<=200)/\(0<=s/\s<=1000):=by
 simp[l8,wi]at h;omega
theorem aU.nb(c:aU):1<=c.n/\c.n<=8:=by have:=(hY c.h).1;omega
theorem aU.qb(c:aU):2<=c.q/\c.q<=64:=by have:=(hY c.h).2.1;omega
def aU.off(c:aU)(p:Nat):Nat:=p*(6+c.q)
theorem aU.nP(c:aU){p:Nat}(h:p<c.n):c.off p+(6+c.q)<=c.off c.n:=by
 unfold aU.off;have:=Nat.mul_le_mul_right (6+c.q) (show p+1<=c.n from h);rw[Nat.succ_mul]at this;exact this
theorem aU.mM(c:aU):c.off c.n<=560:=by
 unfold aU.off;have h1:=c.nb.2;have h2:=c.qb.2;exact Nat.le_trans (Nat.mul_le_mul h1 (show 6+c.q<=70 by omega)) (by decide)
def aU.word(c:aU)(p:Nat):Nat:=4+c.off p
def aU.ae(c:aU)(i:Int):Nat:=(i%(c.q:Int)).toNat
theorem aU.aC(c:aU)(i:Int):c.ae i<c.q:=by
 have:=c.qb.1;have h1:=Int.emod_lt_of_pos i (show(0:Int)<(c.q:Int) by omega);unfold aU.ae;have h2:=Int.emod_nonneg i (show(c.q:Int)≠0 by omega);omega
def aU.slot(c:aU)(p:Nat)(i:Int):Nat:=4+c.off p+(6+c.ae i)
def aU.cells(c:aU):Nat:=4+c.off c.n
theorem aU.z0(c:aU):(1<=c.n/\c.n<=8)/\(2<=c.q/\c.q<=64)/\c.off c.n<=560:=⟨c.nb,c.qb,c.mM⟩
theorem aU.z(c:aU){p:Nat}(hp:p<c.n):(1<=c.n/\c.n<=8)/\(2<=c.q/\c.q<=64)/\c.off c.n<=560/\c.off p+(6+c.q)<=c.off c.n/\c.word p=4+c.off p:=⟨c.nb,c.qb,c.mM,c.nP hp,rfl⟩
theorem Kb(c:aU){p:Nat}(h:p<c.n):IntKind.i64.wrap ((p:Int)*((6+c.q:Nat):Int))=((c.off p:Nat):Int):=by
 have h1:=c.nP h;have h2:=c.mM;have e:(p:Int)*((6+c.q:Nat):Int)=((c.off p:Nat):Int):=by unfold aU.off;omega
 rw[e,bx (by omega) (by omega)]
theorem Kc(c:aU):IntKind.i64.wrap ((c.n:Int)*((6+c.q:Nat):Int))=((c.off c.n:Nat):Int):=by
 have h2:=c.mM;have e:(c.n:Int)*((6+c.q:Nat):Int)=((c.off c.n:Nat):Int):=by unfold aU.off;omega
 rw[e,bx (by omega) (by omega)]
theorem Gp(c:aU){i:Int}(h:0<=i):i.tmod (c.q:Int)=((c.ae i:Nat):Int):=by
 have h2:=Int.emod_nonneg i (show(c.q:Int)≠0 by have:=c.qb;omega);rw[Int.tmod_eq_emod_of_nonneg h];unfold aU.ae;omega
theorem aU.right(c:aU)(w:World):Calls prog 21 #[c.v] w λe w'=>e=.returned (.bool true)/\Below w.heap.size w w':=by
 have:=uu (c.n:Int) c.q c.g c.m c.t c.s w;rw[c.h]at this;exact this
theorem Cf.wrong{c:Cf}(h:c.ok=false)(w:World):Calls prog 21 #[c.v] w λe w'=>e=.returned (.bool false)/\Below w.heap.size w w':=by
 have:=uu c.n c.q c.g c.m c.t c.s w;unfold Cf.ok at h;rw[h]at this;exact this
end Go.Proofs.YtkmccgombmogmaaGreat
