/- Part of a proof: see the last text. -/
import Derived.Test.YtkmccgombmogmaaGreatZe14
import Derived.Test.YtkmccgombmogmaaGreatZe12
import Derived.OwnWalk
import Derived.KernelRfl
import Derived.Test.YtkmccgombmogmaaGreatRows
import Derived.WalkKit
import Derived.WalkSpells
import Derived.WalkLawsBesides
import Derived.Lib.Hide
set_option linter.unusedSectionVars false
set_option linter.unusedSimpArgs false
set_option linter.unusedVariables false
namespace Go.Ev
open Go.RowKit
def FF(l:List aG):aG where
 p:=λ_ F w=>cG l F w
 keep:=λ_ F w w' hk h=>⟨(star l).keep _ F w w' hk h.st,λj hj=>by
  have h1:=hk j hj;rw[Array.getElem?_eq_getElem (h.lt j hj)]at h1
  exact(Array.getElem?_eq_some_iff.1 h1).1⟩
 mono:=λ_ _ _ _ _ h=>h
def C2{β:Type}(q:β->Prop)(a:β->aG):aG where
 p:=λι F w=>∃ x,q x/\(a x).p ι F w
 keep:=λι F w w' hk ⟨x,h1,h2⟩=>⟨x,h1,(a x).keep ι F w w' hk h2⟩
 mono:=λι κ F w hle ⟨x,h1,h2⟩=>⟨x,h1,(a x).mono ι κ F w hle h2⟩
theorem FG{l m:List aG}{F:Nat->Prop}{w:World}(h:cG (FF l::m) F w):cG (l++m) F w:=by
 obtain⟨Fa,Fl,k1,k2,k3,k4⟩:=bI h;exact cF (eQ k1 k2 k3) (λj=>(k4 j).symm)
theorem FH{l m:List aG}{F:Nat->Prop}{w:World}(h:cG (l++m) F w):cG (FF l::m) F w:=by
 obtain⟨F1,F2,h1,h2,h3,h4⟩:=cL h;exact cF (bP (a:=FF l) h1 h2 (λj hj=>h1.lt j hj) h3) (λj=>(h4 j).symm)
theorem LU{β:Type}{q:β->Prop}{a:β->aG}{m:List aG}{F:Nat->Prop}{w:World}(h:cG (C2 q a::m) F w):∃ x,q x/\cG (a x::m) F w:=by
 obtain⟨Fa,Fl,⟨x,hx,k1⟩,k2,k3,k4⟩:=bI h;exact⟨x,hx,cF (bP k1 k2 (λj hj=>h.lt j ((k4 j).2 (.inl hj))) k3) (λj=>(k4 j).symm)⟩
section
variable{c:dc}{l m:List aG}{w:World}
theorem af.open(h:af c (FF l::m) w):af c (l++m) w:=by
 obtain⟨F,h1,h2,h3⟩:=h.ex;exact⟨⟨F,FG h1,h2,h3⟩⟩
theorem af.shut(h:af c (l++m) w):af c (FF l::m) w:=by
 obtain⟨F,h1,h2,h3⟩:=h.ex;exact⟨⟨F,FH h1,h2,h3⟩⟩
theorem af.qh{β:Type}{q:β->Prop}{a:β->aG}(h:af c (C2 q a::m) w):∃ x,q x/\af c (a x::m) w:=by
 obtain⟨F,h1,h2,h3⟩:=h.ex;obtain⟨x,hx,k⟩:=LU h1;exact⟨x,hx,⟨⟨F,k,h2,h3⟩⟩⟩
theorem af.rJ{β:Type}{q:β->Prop}{a:β->aG}(x:β)(hx:q x)(h:af c (a x::m) w):af c (C2 q a::m) w:=h.head (λF hF=>⟨x,hx,hF⟩)
end
theorem af.step{c:dc}{l m r:List aG}{w w':World}(h:af c (l++r) w)(k:∀ F,cG l F w->(∀ j,F j->c.X j\/c.W.heap.size<=j)->af ⟨w,F⟩ m w'):af c (m++r) w':=by
 obtain⟨F,h1,h2,h3⟩:=h.ex;obtain⟨F1,F2,k1,k2,k3,k4⟩:=cL h1;have:=(k F1 k1 (λj hj=>h3 j ((k4 j).2 (.inl hj)))).frame k2 k3;exact this.into (l:=l) h2 (λj hj=>h3 j ((k4 j).2 hj))
section
variable{k:Kn}{P:Program}{g g':Nat}{l:List aG}{ci:Nat}{t u e:TypeId}{sL sS sV n sz m:Nat}{v:Value}{xs:List Value}{i:TypeInfo}{z:Value}
theorem jd.src{e':Nat}{w:World}(h:jd sz v m xs w)(hu:P.underlying u=some (.slice e'))(h1:∀ x ∈ xs,x.oneCell'=true):Src P sz u v m xs w:=by
 obtain⟨hl,⟨rfl,a,c,rfl⟩ | ⟨b,off,c,rfl,⟨hb,hc⟩,hx⟩⟩:=h
 ·have:xs=[]:=List.eq_nil_of_length_eq_zero (by rw[hl];simp)
  subst this;cases a with
  | none=>exact Src.ofNil w hu c
  | some a=>exact Src.ofSlice w hu a 0 c [] (by simp) (λj x h=>by simp at h) (λx h=>by cases h)
 ·refine Src.ofSlice w hu ⟨b,off,none⟩ m c xs hl (λj x hj=>?_) h1
  rw[fB,hx j (by rw[← hl];exact(List.getElem?_eq_some_iff.1 hj).1),hj]
theorem C4{op:Op}{t:TypeId}(h:dV op=some [4,t,0,1,1]):∃ x hi mx,op=.slice t x none (some hi) (some mx):=by
 unfold dV at h
 split at h<;>first | (cases h;done) | skip
 all_goals first | (simp at h;done) | skip
 rename_i t' x lo hi mx;cases lo<;>cases hi<;>cases mx<;>simp at h
 subst h;exact⟨_,_,_,rfl⟩
theorem aZ.slice3{d0 ng:Option Nat}{r x y z:Value}(h:letI:bg:=k.sig;∀ ι F w d x' y' z',Ask k g d0 ng ι F w d->ao ι x x'->ao ι y y'->ao ι z z'->ie P (Instr.sliceAt t x' none (some y') (some z')) ι d F w r ng):aZ k P ⟨[4,t,0,1,1],[x,y,z],none,g,d0,r,ng⟩:=by
 letI:bg:=k.sig;intro o hk ev ι F w d hv _ h1 h2 h3 h4;obtain⟨a,b,c,ho⟩:=C4 hk;rw[ho]at hv;obtain⟨x',y',z',e,hx,hy,hz⟩:=LL hv;simp[Op.operands]at e;obtain⟨rfl,rfl,rfl⟩:=e;obtain⟨v',w',r1,r2⟩:=h ι F w d _ _ _ ⟨h1,h2,h3,h4⟩ hx hy hz;refine⟨.value v',v',w',?_,.inl rfl,r2⟩;unfold execOp;rw[ho];simp only[Option.map_some,Option.map_none];rw[Sem.run_bind,r1];rfl
theorem jQ{kd:IntKind}{zs:List Int} : ∀ x ∈ zs.map (Value.int kd),x.oneCell'=true:=by
 intro x hx;obtain⟨z,_,rfl⟩:=List.mem_map.1 hx;rfl
theorem Kj{k:Kn}{ι:am}{d:Nat}{x':Value}(h:letI:bg:=k.sig;ao ι (.complex .f32 d 0) x'):∃ c,ι d=some c/\dec c=x':=by
 letI:bg:=k.sig;cases h with
 | dyn id c _ h h'=>exact⟨c,h,h'⟩
theorem qx{d1:Nat}(hg:k.gs[g]? = some (star l))(hi:l[ci]? = some (jE d1 (λv=>bQ e sz v n xs)))(ht:P.underlying t=some (.slice e))(hsz:i.size=sz)(hV:k.val sV=.int .i64 (n:Int)):aZ k P ⟨[10,t],[.complex .f32 d1 0],none,g,none,sy sV,none⟩:=by
 subst hsz;refine aZ.len k ?_;letI:bg:=k.sig;intro ι F w d x' ty q hx;obtain⟨Fs,ff,hS,hf,c,h0,h1⟩:=eP hg hi q;obtain⟨c',e0,e1⟩:=Kj hx;rw[h0]at e0;cases e0;rw[← e1];exact⟨_,w,dQ.len h1 ht ty,oi hV,Below.refl _ _⟩
theorem aT{d1 d2 e':Nat}{c cs:List Value}(hg:k.gs[g]? = some (star l))(hi:l[ci]? = some (jE d2 (λv=>bQ e sz v n xs)))(hg':k.gs[g']? = some (star (l.set ci (jE d1 (λv'=>bQ e sz v' (n+m) (xs++cs))))))(ht:P.underlying t=some (.slice e))(hu:P.underlying u=some (.slice e'))(gw:P.info? e=some i)(hsz:i.size=sz)(h0:0<sz)(hz:i.zero=some z)(hzs:z.cells.size=i.size)
  (hb:(n+m)*i.bytes<=140737488355328) (hnm:n+m<=1000000000) (hm:c.length=m*sz) (hc:∀ ι c',(letI:bg:=k.sig;dL ι c c')->c'=cs):aZ k P ⟨[11,t,u],[.complex .f32 d2 0],some (sz,1,c),g,some d1,.complex .f32 d1 0,some g'⟩:=by
 subst hsz;refine aZ.append k ?_;letI:bg:=k.sig;intro ι F w d x' y' c' m' ty q hx hcr hcm ho hr hl;obtain⟨Fs,ff,hS,hf,cd,h0',h1⟩:=eP hg hi q;obtain⟨c2,e0,e1⟩:=Kj hx;rw[h0']at e0;cases e0;rw[← e1];have hmm:m'=m:=Nat.eq_of_mul_eq_mul_right h0 (by rw[← hcm,hm]);subst hmm;obtain rfl:=q.name d1 rfl;have hs:Src P i.size u y' m' c' w:=⟨.inl ⟨_,hu⟩,hl,hr w rfl,hr w.drew rfl,by rw[← hcr.1];exact hm,vU hcr ho⟩;obtain⟨v2,w2,F2,r1,r2,r3,r4⟩:=dQ.append (ty:=ty) h1 ht gw hz hzs hs hb hnm;rw[hc _ _ hcr]at r2;obtain⟨cc,hcc⟩:=r2.code;have hup:(ι.upd d1 cc) d1=some cc:=by simp[am.upd]
 exact⟨v2,w2,r1,vO hg' hS q.lt hf (iL q) cc ⟨cc,hup,by rw[hcc];exact r2⟩ r3 r4 (.dyn d1 cc v2 hup hcc)⟩
end
end Go.Ev
namespace Go.Proofs.YtkmccgombmogmaaGreat
open Go.Ev Go.Proofs.Tryz
open Go.RowKit
open Go.Ev (sy)
def aK(bm:Nat)(m:bw):aG where
 p:=λ_ F w=>i9 bm m F w
 keep:=λ_ F w w' hk h=>rD h hk
 mono:=λ_ _ _ _ _ h=>h
theorem kM{a:aG}{F:Nat->Prop}{w:World}(h:cG [a] F w):∃ Fa,a.p (λ_=>none) Fa w/\∀ j,Fa j->F j:=by
 obtain⟨Fa,Fl,k1,k2,k3,k4⟩:=bI h;exact⟨Fa,k1,λj hj=>(k4 j).2 (.inl hj)⟩
theorem ot{bm:Nat}{m:bw}{F Fa F':Nat->Prop}{w w':World}(hF:∀ j,Fa j->F j)(h:i9 bm m F' w')(g:Grow Fa F' w w'):af ⟨w,F⟩ [aK bm m] w':=by
 obtain⟨t,g2⟩:=g;refine⟨⟨_,bP (a:=aK bm m) h (kL w') (Fi h) (λ_ _ h=>h),⟨t.os,t.tape,t.output,t.size,λj hj hn=>t.block j hj (λhf=>hn (hF j hf))⟩,λj hj=>?_⟩⟩;rcases hj with hj | hj
 ·exact(g2 j hj).2.imp (hF j) id
 ·exact hj.elim
def bw.tick(m:bw):bw:=⟨m.cells,IntKind.u64.wrap (m.ops+1)⟩
def bw.put(m:bw)(a:Nat)(v:Int):bw:=⟨m.cells.set a v,IntKind.u64.wrap (m.ops+1)⟩
section
variable{bm:Nat}{m:bw}{F:Nat->Prop}{w:World}
theorem cZ(h:cG [aK bm m] F w){a:Nat}{x:Int}(hx:m.cells[a]? = some x)(ha2:(a:Int)<=9223372036854775807) :
  Calls prog 150 #[.pointer (some ⟨bm,0,none⟩),.int .i64 (a:Int)] w λe w'=>e=.returned (.int .u64 x)/\af ⟨w,F⟩ [aK bm m.tick] w':=by
 obtain⟨Fa,h1,h2⟩:=kM h;obtain⟨ha,rfl⟩:=List.getElem?_eq_some_iff.1 hx;refine(CY h1 ha ha2).mono ?_;rintro e w' ⟨F',rfl,k1,k2⟩;exact⟨rfl,ot h2 k1 k2⟩
theorem nu(h:cG [aK bm m] F w){a:Nat}(ha:a<m.cells.length)(ha2:(a:Int)<=9223372036854775807)(v:Int) :
  Calls prog 147 #[.pointer (some ⟨bm,0,none⟩),.int .i64 (a:Int),.int .u64 v] w λe w'=>e=.returned (.tuple #[])/\af ⟨w,F⟩ [aK bm (m.put a v)] w':=by
 obtain⟨Fa,h1,h2⟩:=kM h;refine(Ab h1 ha ha2 v).mono ?_;rintro e w' ⟨F',rfl,k1,k2⟩;exact⟨rfl,ot h2 k1 k2⟩
theorem ou(h:cG [aK bm m] F w){a:Nat}{x:Int}(hx:m.cells[a]? = some x)(ha2:(a:Int)<=9223372036854775807)(u v:Int)(hy:x≠u) :
  Calls prog 154 #[.pointer (some ⟨bm,0,none⟩),.int .i64 (a:Int),.int .u64 u,.int .u64 v] w λe w'=>e=.returned (.bool false)/\af ⟨w,F⟩ [aK bm m.tick] w':=by
 obtain⟨Fa,h1,h2⟩:=kM h;obtain⟨ha,rfl⟩:=List.getElem?_eq_some_iff.1 hx;refine(LG h1 ha ha2 u v hy).mono ?_;rintro e w' ⟨F',rfl,k1,k2⟩;exact⟨rfl,ot h2 k1 k2⟩
theorem jR(h:cG [aK bm m] F w){a:Nat}{x:Int}(hx:m.cells[a]? = some x)(ha2:(a:Int)<=9223372036854775807)(u v:Int)(hy:x=u) :
  Calls prog 154 #[.pointer (some ⟨bm,0,none⟩),.int .i64 (a:Int),.int .u64 u,.int .u64 v] w λe w'=>e=.returned (.bool true)/\af ⟨w,F⟩ [aK bm (m.put a v)] w':=by
 obtain⟨Fa,h1,h2⟩:=kM h;obtain⟨ha,rfl⟩:=List.getElem?_eq_some_iff.1 hx;refine(IV h1 ha ha2 u v hy).mono ?_;rintro e w' ⟨F',rfl,k1,k2⟩;exact⟨rfl,ot h2 k1 k2⟩
end
def LW(bm:Nat)(m:bw):(Int×Int×Int×Int×Int×Value×Value×Nat×List Value)->List aG
 | (c1,c2,c3,c4,c5,lg,cl,n,xl)=>[aH bm [.int .u64 m.ops,.int .u64 c1,.int .u64 c2,.int .u64 c3,.int .u64 c4,.int .u64 c5,lg,cl] 137,bQ 51 1 cl m.cells.length (iy m.cells),bQ 234 4 lg n xl]
theorem FI{bm:Nat}{m:bw}{l:List aG}{c:dc}{w:World}(h:af c (aK bm m::l) w):∃ x,x.2.2.2.2.2.2.2.1<=256/\aV x.2.2.2.2.2.1=true/\aV x.2.2.2.2.2.2.1=true/\af c (LW bm m x++l) w:=by
 obtain⟨F,h1,h2,h3⟩:=h.ex;obtain⟨Fa,Fl,⟨c1,c2,c3,c4,c5,lg,cl,n,G,hn,hb,⟨v,xl,F1,F2,e,s1,s2,dj,hG⟩,hnb,OB⟩,k2,k3,k4⟩:=bI h1;have e':v=lg:=e;subst e';refine⟨(c1,c2,c3,c4,c5,v,cl,n,xl),hn,s1.leaf,s2.leaf,⟨⟨F,cF (bP (a:=aH bm [.int .u64 m.ops,.int .u64 c1,.int .u64 c2,.int .u64 c3,.int .u64 c4,.int .u64 c5,v,cl] 137) (Fa:=λj=>j=bm) ⟨λj=>Iff.rfl,hb⟩ (bP (a:=bQ 51 1 cl m.cells.length (iy m.cells)) s2 (bP (a:=bQ 234 4 v n xl) s1 k2 (λj hj=>s1.lt j hj) (λj hj hl=>k3 j ((OB j).2 (.inr ((hG j).2 (.inl hj)))) hl)) (λj hj=>s2.lt j hj) (λj hj hh=>?_)) (λj hj=>by rw[hj];exact(Array.getElem?_eq_some_iff.1 hb).1) (λj hj hh=>?_)) (λj=>?_),h2,h3⟩⟩⟩
 ·rcases hh with hh | hh
  ·exact dj j hh hj
  ·exact k3 j ((OB j).2 (.inr ((hG j).2 (.inr hj)))) hh
 ·subst hj
  rcases hh with hh | hh | hh
  ·exact hnb ((hG j).2 (.inr hh))
  ·exact hnb ((hG j).2 (.inl hh))
  ·exact k3 j ((OB j).2 (.inl rfl)) hh
 ·rw[k4 j,OB j,hG j]
  constructor
  ·rintro(h | h | h | h)
   ·exact .inl (.inl h)
   ·exact .inl (.inr (.inr h))
   ·exact .inl (.inr (.inl h))
   ·exact .inr h
  ·rintro((h | h | h) | h)
   ·exact .inl h
   ·exact .inr (.inr (.inl h))
   ·exact .inr (.inl h)
   ·exact .inr (.inr (.inr h))
theorem yv{bm:Nat}{m:bw}{l:List aG}{c:dc}{w:World}(x:Int×Int×Int×Int×Int×Value×Value×Nat×List Value)(hx:x.2.2.2.2.2.2.2.1<=256)(h:af c (LW bm m x++l) w):af c (aK bm m::l) w:=by
 obtain⟨c1,c2,c3,c4,c5,lg,cl,n,xl⟩:=x;obtain⟨F,h1,h2,h3⟩:=h.ex;obtain⟨Fb,Fr,⟨hb1,hb2⟩,k2,k3,k4⟩:=bI h1;obtain⟨Fc,Fs,s2,j2,j3,j4⟩:=bI k2;obtain⟨Fl,Ft,s1,i2,i3,i4⟩:=bI j2;refine⟨⟨F,cF (bP (a:=aK bm m) (Fa:=λj=>j=bm\/(Fl j\/Fc j)) ⟨c1,c2,c3,c4,c5,lg,cl,n,λj=>Fl j\/Fc j,hx,hb2,⟨lg,xl,Fl,Fc,rfl,s1,s2,λj hj hc=>j3 j hc ((i4 j).2 (.inl hj)),λj=>Iff.rfl⟩,λhh=>k3 bm ((hb1 bm).2 rfl) ((j4 bm).2 (hh.elim (λh=>.inr ((i4 bm).2 (.inl h))) .inl)),λj=>Iff.rfl⟩ i2 (λj hj=>?_) (λj hj ht=>?_)) (λj=>?_),h2,h3⟩⟩
 ·refine h1.lt j ((k4 j).2 ?_)
  rcases hj with h | h | h
  ·exact .inl ((hb1 j).2 h)
  ·exact .inr ((j4 j).2 (.inr ((i4 j).2 (.inl h))))
  ·exact .inr ((j4 j).2 (.inl h))
 ·rcases hj with h | h | h
  ·exact k3 j ((hb1 j).2 h) ((j4 j).2 (.inr ((i4 j).2 (.inr ht))))
  ·exact i3 j h ht
  ·exact j3 j h ((i4 j).2 (.inr ht))
 ·rw[k4 j,j4 j,i4 j,hb1 j]
  constructor
  ·rintro((h | h | h) | h)
   ·exact .inl h
   ·exact .inr (.inr (.inl h))
   ·exact .inr (.inl h)
   ·exact .inr (.inr (.inr h))
  ·rintro(h | h | h | h)
   ·exact .inl (.inl h)
   ·exact .inl (.inr (.inr h))
   ·exact .inl (.inr (.inl h))
   ·exact .inr h
end Go.Proofs.YtkmccgombmogmaaGreat
namespace Go.Ev
open Go.RowKit
theorem I_{op:Op}{t:TypeId}(h:dV op=some [19,t]):∃ x y,op=.makeSlice t x y:=by
 unfold dV at h
 split at h<;>first | (cases h;done) | skip
 all_goals first | (simp at h;done) | skip
 simp at h;subst h;exact⟨_,_,rfl⟩
section
variable{k:Kn}{P:Program}{g g':Nat}{l:List aG}{t e:TypeId}{n sz:Nat}{i:TypeInfo}{z:Value}
theorem aZ.make{d0 ng:Option Nat}{r x y:Value}(h:letI:bg:=k.sig;∀ ι F w d x' y',Ask k g d0 ng ι F w d->ao ι x x'->ao ι y y'->ie P (Instr.makeSlice t x' y') ι d F w r ng):aZ k P ⟨[19,t],[x,y],none,g,d0,r,ng⟩:=by
 letI:bg:=k.sig;intro o hk ev ι F w d hv _ h1 h2 h3 h4;obtain⟨a,b,ho⟩:=I_ hk;rw[ho]at hv;obtain⟨x',y',e,hx,hy⟩:=vz hv;simp[Op.operands]at e;obtain⟨rfl,rfl⟩:=e;obtain⟨v',w',r1,r2⟩:=h ι F w d _ _ ⟨h1,h2,h3,h4⟩ hx hy;refine⟨.value v',v',w',?_,.inl rfl,r2⟩;unfold execOp;rw[ho];simp only;rw[Sem.run_bind,r1];rfl
theorem lP{w w':World}(h:w.grownBy w' none):Below w.heap.size w w':=⟨h.os,h.tape,h.output,h.size,λj hj=>h.block j hj (by simp)⟩
theorem FJ{d1:Nat}{kd kd':IntKind}{x y:Value}(hg:k.gs[g]? = some (star l))(hg':k.gs[g']? = some (star (l++[jE d1 (λv=>bQ e 1 v n (List.replicate n z))])))(hx:DN k x (.int kd (n:Int)))(hy:DN k y (.int kd' (n:Int)))(ht:P.underlying t=some (.slice e))(gw:P.info? e=some i)(hsz:i.size=1)(hz:i.zero=some z)(h1:z.cells = #[z])(hb:i.bytes*n<=281474976710656)(hn:n<=maxLen):aZ k P ⟨[19,t],[x,y],none,g,some d1,.complex .f32 d1 0,some g'⟩:=by
 refine aZ.make ?_;letI:bg:=k.sig;intro ι F w d x' y' q PB M9;obtain rfl:=q.name d1 rfl;obtain⟨b,q1,q2⟩:=q.st;rw[hg]at q1;cases q1;rw[hx _ _ PB,hy _ _ M9];obtain⟨w',r1,r2,r3⟩:=run_make_full (P:=P) w w.heap.size t e i z 1 ht gw hz hsz kd kd' n hb hn (Nat.le_refl _);have hsl:dQ e 1 (.slice (some ⟨w.heap.size,0,none⟩) n n) n (List.replicate n z) (λj=>j=w.heap.size) w':=by
  obtain⟨s1,s2⟩:=r2;have hm:(madeCells z.cells (n*1)).toList=List.replicate n z:=by
   rw[Nat.mul_one,h1];refine List.ext_getElem (by simp[madeCells]) (λj a1 a2=>?_);simp[madeCells,Nat.mod_one]
  rw[hm]at s1 s2;rcases s2 with ⟨h,_⟩ | ⟨gb,cap,cur,hv,hb',hh,c1,c2,c3,c4⟩
  ·cases h
  ·cases hv
   refine⟨s1,.inr ⟨w.heap.size,0,n,cur,rfl,λ_=>Iff.rfl,hh,λj hj=>?_,by omega,Nat.le_refl _⟩⟩;rw[← c4,Nat.zero_add,List.getElem?_take_of_lt hj];simp
 obtain⟨cc,hcc⟩:=hsl.code;have hup:(ι.upd d1 cc) d1=some cc:=by simp[am.upd]
 exact⟨_,w',r1,grow_end hg' q2 q.lt (iL q) cc ⟨cc,hup,by rw[hcc];exact hsl⟩ (lP r3) (λj hj=>⟨hsl.lt j hj,by rw[hj];exact Nat.le_refl _⟩) (.dyn d1 cc _ hup hcc)⟩
end
theorem I'{k:Kn}{P:Program}{c:dc}{f:FuncId}{abs args:List Value}{g:Nat}{gl lp:List aG}{r rv:Value}(idx:List Nat)(hg:k.gs[g]? = some (star (fU c.W c.X::gl)))(hsel:nt gl.length idx=true)(hp:sel gl idx=lp)(hf:la lp)
  (ha:∀ ι l',(letI:bg:=k.sig;dL ι abs l')->l'=args) (hr:∀ ι,(letI:bg:=k.sig;ao ι r rv))
  (con:∀ (w:World) (F:Nat->Prop),oj c.W c.X w->cG lp F w->Calls P f args.toArray w λe w'=>e=.returned rv/\Below w.heap.size w w'):fm k P ⟨f,abs,g,none,r,none⟩:=by
 letI:bg:=k.sig;intro ι args' F w d hl h1 h2 h3 h4;have e:=ha ι _ hl;have ea:args'=args.toArray:=by rw[← e]
 subst ea;obtain⟨b,q1,q2⟩:=h1;rw[hg]at q1;cases q1;obtain⟨Fo,Fg,⟨o1,o2⟩,n1,n2,n3⟩:=bI (l:=gl.map (yh ι)) (vP q2 h2);obtain⟨F',s1,s2⟩:=vQ n1 idx (by rw[List.length_map];exact hsel);rw[BF,hp]at s1
 have pl:cG lp F' w:=BA s1 (by simp) (λi a b ff e1 e2 h=>by
  rw[List.getElem?_map,e2]at e1;cases e1
  exact pC hf b (List.mem_of_getElem? e2) ι _ ff w h)
 refine(con w F' o2 pl).mono ?_;rintro e' w' ⟨rfl,hb⟩;exact⟨_,rfl,hr ι,hb⟩
theorem Ja{k:Kn}{P:Program}{c:dc}{f:FuncId}{abs args:List Value}{g g' d1:Nat}{gl lp:List aG}{r:Value}{ret:Value->Value}(fs:List (Value->aG))(lq:List aG)(idx rest:List Nat)(hg:k.gs[g]? = some (star (fU c.W c.X::gl)))(hg':k.gs[g']? = some (star (fU c.W c.X::((fs.map (jE d1)++lq)++sel gl rest))))(hsel:nt gl.length (idx++rest)=true)(hp:sel gl idx=lp)(hf:la lp)
  (ha:∀ ι l',(letI:bg:=k.sig;dL ι abs l')->l'=args) (hr:∀ (ι:am) cd,ι d1=some cd->(letI:bg:=k.sig;ao ι r (ret (dec cd))))
  (con:∀ (w:World) (F:Nat->Prop),oj c.W c.X w->cG lp F w->(∀ j,F j->c.X j\/c.W.heap.size<=j)->Calls P f args.toArray w λe w'=>∃ v cd,dec cd=v/\e=.returned (ret v)/\af ⟨w,F⟩ (fs.map (λf=>f v)++lq) w'):fm k P ⟨f,abs,g,some d1,r,some g'⟩:=by
 refine FD (lq:=λv=>fs.map (λf=>f v)++lq) idx rest hg hg' hsel hp hf ha hr (λι cd w' hi=>⟨by simp,λi a b ff h1 h2 h=>?_⟩) con;rcases Nat.lt_or_ge i fs.length with h0 | h0
 ·rw[List.getElem?_append_left (by simpa using h0),List.getElem?_map]at h1 h2
  cases hfi:fs[i]? with
  | none=>rw[hfi]at h1;cases h1
  | some q =>
   rw[hfi]at h1 h2;cases h1;cases h2;exact⟨cd,hi,(q (dec cd)).mono _ _ ff w' (λ_ _ e=>by cases e) h⟩
 ·rw[List.getElem?_append_right (by simpa using h0)]at h1 h2
  simp only[List.length_map]at h1 h2;rw[h1]at h2;cases h2;exact a.mono _ _ ff w' (λ_ _ e=>by cases e) h
abbrev iz(n:Int):Value:=.int .i64 n
abbrev uz(n:Int):Value:=.int .u64 n
abbrev wz(n:Int):Value:=.int .u32 n
abbrev iN(n:Nat):Value:=.int .i64 (n:Int)
abbrev uN(n:Nat):Value:=.int .u64 (n:Int)
abbrev wN(n:Nat):Value:=.int .u32 (n:Int)
abbrev pz(b:Nat):Value:=.pointer (some ⟨b,0,none⟩)
abbrev dv(κ:am)(n:Nat):Value:=dec ((κ n).getD 0)
theorem fc{α:Type}{p:α->Prop}{a:α}{l:List α}(h:p a)(t:∀ x ∈ l,p x):∀ x ∈ a::l,p x:=List.forall_mem_cons.2 ⟨h,t⟩
theorem fn{α:Type}{p:α->Prop} : ∀ x ∈ ([]:List α),p x:=List.forall_mem_nil p
def vg:List Value->Nat->Value
 | [],_=>.int .i64 0
 | a::_,0=>a
 | _::l,n+1=>vg l n
theorem BH:∀ {l:List Value},(∀ x ∈ l,aV x=true)->∀ n,aV (vg l n)=true
 | [],_,n=>rfl
 | a::l,h,0=>h a (List.mem_cons_self ..)
 | a::l,h,n+1=>BH (λx hx=>h x (List.mem_cons_of_mem _ hx)) n
abbrev kn(vs:List Value)(lf:∀ x ∈ vs,aV x=true)(bs:List jn)(us:List jo)(cs:List jq)(hb:∀ q ∈ bs,lK (vg vs) q)(hu:∀ q ∈ us,lL (vg vs) q)(hc:∀ q ∈ cs,k_ (vg vs) q)(W:World)(X:Nat->Prop)(gs:List (List aG))(ops:List qg)(cls:List mP):Kn :=
 ⟨vg vs,BH lf,bs,us,cs,[],hb,hu,hc,gs.map (λl=>star (fU W X::l)),ops,cls⟩
noncomputable def sw(d:Option Nat):Nat->Value->Bool
 | 0,_=>false
 | n+1,v=>match v with
  | .agg f=>f.toList.all (sw d n)
  | .tuple f=>f.toList.all (sw d n)
  | .iface _ v=>sw d n v
  | .complex .f64 _ _=>true
  | .complex .f32 e 0=>(match d with | some d=>Nat.beq d e | none=>false)
  | .complex .f32 e (_+2)=>(match d with | some d=>Nat.beq d e | none=>false)
  | .bool _ | .int _ _ | .string _=>true
  | .pointer none | .slice none 0 0 | .map none=>true
  | _=>false
def qy[bg](cd:Nat):Nat->Value->Value
 | 0,v=>v
 | n+1,v=>match v with
  | .agg f=>.agg (f.toList.map (qy cd n)).toArray
  | .tuple f=>.tuple (f.toList.map (qy cd n)).toArray
  | .iface t v=>.iface t (qy cd n v)
  | .complex .f64 s _=>bg.val s
  | .complex .f32 _ 0=>dec cd
  | .complex .f32 _ (j+2)=>DR j (dec cd)
  | v=>v
theorem qz[bg]{ι:am}{d:Option Nat}{cd n:Nat}{f:Array Value}(hk:f.toList.all (sw d n)=true)(ih:∀ v,sw d n v=true->ao ι v (qy cd n v)):f.size=(f.toList.map (qy cd n)).toArray.size/\∀ (i:Nat) (v v':Value),f[i]? = some v->(f.toList.map (qy cd n)).toArray[i]? = some v'->ao ι v v':=by
 rw[List.all_eq_true]at hk;refine⟨by simp,λi v v' h1 h2=>?_⟩;have h3:v'=qy cd n v:=by
  have h1':f.toList[i]? = some v:=by simpa using h1
  simp only[List.getElem?_toArray,List.getElem?_map,h1',Option.map_some,Option.some.injEq]at h2;exact h2.symm
 rw[h3];exact ih v (hk v (by rw[Array.mem_toList_iff];exact Array.mem_of_getElem? h1))
theorem FK[bg]{ι:am}{d:Option Nat}{cd:Nat}(hd:∀ e,d=some e->ι e=some cd):∀ (n:Nat) (v:Value),sw d n v=true->ao ι v (qy cd n v):=by
 intro n
 induction n with
 | zero=>exact λv h=>by cases h
 | succ n ih =>
  intro v h
  match v,h with
  | .agg f,h=>exact .agg _ _ (qz h ih).1 (qz h ih).2
  | .tuple f,h=>exact .tuple _ _ (qz h ih).1 (qz h ih).2
  | .iface t v,h=>exact .iface t _ _ (ih v h)
  | .complex .f64 s j,h=>exact .sym s j _ rfl
  | .complex .f32 e 0,h =>
   cases hdd:d with
   | none=>rw[hdd]at h;cases h
   | some x =>
    rw[hdd]at h;have he:x=e:=Nat.eq_of_beq_eq_true h;exact .dyn e cd _ (hd e (by rw[hdd,he])) rfl
  | .complex .f32 e 1,h=>cases h
  | .complex .f32 e (j+2),h =>
   cases hdd:d with
   | none=>rw[hdd]at h;cases h
   | some x =>
    rw[hdd]at h;have he:x=e:=Nat.eq_of_beq_eq_true h;exact .qD e cd j _ (hd e (by rw[hdd,he])) rfl
  | .bool b,h=>exact .bool b
  | .int k m,h=>exact .int k m
  | .string s,h=>exact .string s
  | .pointer none,h=>exact .oX
  | .slice none 0 0,h=>exact .dn
  | .map none,h=>exact .mX
theorem FL[bg]{ι:am}{n:Nat}{f f':Array Value}(hf:f.size=f'.size)(h:∀ (i:Nat) (v v':Value),f[i]? = some v->f'[i]? = some v'->ao ι v v')(hk:f.toList.all (sw none n)=true)(ih:∀ v v',sw none n v=true->ao ι v v'->v'=qy 0 n v):f'=(f.toList.map (qy 0 n)).toArray:=by
 rw[List.all_eq_true]at hk;apply Array.ext (by simp[hf]);intro i h1 h2;have h3:i<f.size:=by rw[hf];exact h1
 rw[ih f[i] f'[i] (hk _ (by simp)) (h i _ _ (Array.getElem?_eq_getElem h3) (Array.getElem?_eq_getElem h1))];simp
theorem NC[bg]{ι:am} : ∀ (n:Nat) (v v':Value),sw none n v=true->ao ι v v'->v'=qy 0 n v:=by
 intro n
 induction n with
 | zero=>exact λv v' h=>by cases h
 | succ n ih =>
  intro v v' hk h;cases h with
  | agg f f' hf hr=>exact congrArg Value.agg (FL hf hr hk ih)
  | tuple f f' hf hr=>exact congrArg Value.tuple (FL hf hr hk ih)
  | iface t v v' hr=>exact congrArg (Value.iface t) (ih _ _ hk hr)
  | sym m j _ h=>exact h.symm
  | dyn id c _ h h'=>cases hk
  | qD id c j _ h h'=>cases hk
  | junk m _ h=>cases hk
  | bool=>rfl
  | int=>rfl
  | string=>rfl
  | oX=>rfl
  | dn=>rfl
  | mX=>rfl
  | _=>cases hk
theorem ak{k:Kn}{abs args:List Value}(h:abs.all (sw none 5)=true)(e:abs.map (@qy k.sig 0 5)=args):∀ ι l',(letI:bg:=k.sig;dL ι abs l')->l'=args:=by
 letI:bg:=k.sig;intro ι l' hl;rw[← e];rw[List.all_eq_true]at h;apply List.ext_getElem (by rw[List.length_map];exact hl.1.symm);intro i h1 h2;have h3:i<abs.length:=by simpa using h2
 rw[List.getElem_map];exact NC 5 _ _ (h _ (List.getElem_mem h3)) (hl.2 i _ _ (List.getElem?_eq_getElem h3) (List.getElem?_eq_getElem h1))
theorem vk{k:Kn}{ι:am}{r rv:Value}(h:sw none 5 r=true)(e:@qy k.sig 0 5 r=rv):letI:bg:=k.sig;ao ι r rv:=by
 letI:bg:=k.sig;rw[← e];exact FK (d:=none) (λ_ h=>by cases h) 5 r h
theorem vd{k:Kn}{ι:am}{d cd:Nat}{r rv:Value}(hd:ι d=some cd)(h:sw (some d) 5 r=true)(e:@qy k.sig cd 5 r=rv):letI:bg:=k.sig;ao ι r rv:=by
 letI:bg:=k.sig;rw[← e];exact FK (d:=some d) (λ_ h=>by cases h;exact hd) 5 r h
theorem fr{l:List Value}(h:l.all aV=true:=by kernel_rfl):∀ x ∈ l,aV x=true:=λx hx=>List.all_eq_true.1 h x hx
section
variable{vs:List Value}{lf:∀ x ∈ vs,aV x=true}{bs:List jn}{us:List jo}{cs:List jq}{hb:∀ q ∈ bs,lK (vg vs) q}{hu:∀ q ∈ us,lL (vg vs) q}{hc:∀ q ∈ cs,k_ (vg vs) q}{W:World}{X:Nat->Prop}{gs:List (List aG)}{ops:List qg}{cls:List mP}{P:Program}{f:FuncId}{abs args:List Value}{g g' d1:Nat}{gl:List aG}{r rv:Value}{ret:Value->Value}
theorem pX{gl:List aG}{g:Nat}(h:gs[g]? = some gl):(kn vs lf bs us cs hb hu hc W X gs ops cls).gs[g]? = some (star (fU W X::gl)):=by
 show(gs.map (λl=>star (fU W X::l)))[g]? = _;rw[List.getElem?_map,h];rfl
theorem pc(hg:gs[g]? = some gl)(con:∀ w,oj W X w->Calls P f args.toArray w λe w'=>e=.returned rv/\Below w.heap.size w w')(h:(abs.all (sw none 5)&&sw none 5 r)=true:=by kernel_rfl)(e1:abs.map (@qy (kn vs lf bs us cs hb hu hc W X gs ops cls).sig 0 5)=args:=by kernel_rfl)(e2:@qy (kn vs lf bs us cs hb hu hc W X gs ops cls).sig 0 5 r=rv:=by kernel_rfl):fm (kn vs lf bs us cs hb hu hc W X gs ops cls) P ⟨f,abs,g,none,r,none⟩:=by
 rw[Bool.and_eq_true]at h;exact FE (ci:=0) (pX hg) rfl con (λι=>vk h.2 e2) (ak h.1 e1)
theorem cc(hg:gs[g]? = some gl)(lq:List aG)(idx rest:List Nat)(con:∀ (w:World) (F:Nat->Prop),oj W X w->cG (sel gl idx) F w->(∀ j,F j->X j\/W.heap.size<=j)->Calls P f args.toArray w λe w'=>e=.returned rv/\af ⟨w,F⟩ lq w')(hg':gs[g']? = some (lq++sel gl rest):=by rfl)(hsel:nt gl.length (idx++rest)=true:=by kernel_rfl)(hf:la (sel gl idx):=by first | exact trivial | exact⟨λ_ _ _ _ h=>h,trivial⟩ | exact⟨λ_ _ _ _ h=>h,λ_ _ _ _ h=>h,trivial⟩ | exact⟨λ_ _ _ _ h=>h,λ_ _ _ _ h=>h,λ_ _ _ _ h=>h,trivial⟩)
  (h:(abs.all (sw none 5)&&sw none 5 r)=true:=by kernel_rfl) (e1:abs.map (@qy (kn vs lf bs us cs hb hu hc W X gs ops cls).sig 0 5)=args:=by kernel_rfl) (e2:@qy (kn vs lf bs us cs hb hu hc W X gs ops cls).sig 0 5 r=rv:=by kernel_rfl):fm (kn vs lf bs us cs hb hu hc W X gs ops cls) P ⟨f,abs,g,none,r,some g'⟩:=by
 rw[Bool.and_eq_true]at h;exact LR (c:=⟨W,X⟩) idx rest (pX hg) (pX hg') hsel rfl hf (ak h.1 e1) (λι=>vk h.2 e2) con
theorem cr(hg:gs[g]? = some gl)(idx:List Nat)(con:∀ (w:World) (F:Nat->Prop),oj W X w->cG (sel gl idx) F w->Calls P f args.toArray w λe w'=>e=.returned rv/\Below w.heap.size w w')(hsel:nt gl.length idx=true:=by kernel_rfl)(hf:la (sel gl idx):=by first | exact trivial | exact⟨λ_ _ _ _ h=>h,trivial⟩ | exact⟨λ_ _ _ _ h=>h,λ_ _ _ _ h=>h,trivial⟩ | exact⟨λ_ _ _ _ h=>h,λ_ _ _ _ h=>h,λ_ _ _ _ h=>h,trivial⟩)
  (h:(abs.all (sw none 5)&&sw none 5 r)=true:=by kernel_rfl) (e1:abs.map (@qy (kn vs lf bs us cs hb hu hc W X gs ops cls).sig 0 5)=args:=by kernel_rfl) (e2:@qy (kn vs lf bs us cs hb hu hc W X gs ops cls).sig 0 5 r=rv:=by kernel_rfl):fm (kn vs lf bs us cs hb hu hc W X gs ops cls) P ⟨f,abs,g,none,r,none⟩:=by
 rw[Bool.and_eq_true]at h;exact I' (c:=⟨W,X⟩) idx (pX hg) hsel rfl hf (ak h.1 e1) (λι=>vk h.2 e2) con
theorem cm(hg:gs[g]? = some gl)(fs:List (Value->aG))(lq:List aG)(idx rest:List Nat)(con:∀ (w:World) (F:Nat->Prop),oj W X w->cG (sel gl idx) F w->(∀ j,F j->X j\/W.heap.size<=j)->Calls P f args.toArray w λe w'=>∃ v cd,dec cd=v/\e=.returned (ret v)/\af ⟨w,F⟩ (fs.map (λf=>f v)++lq) w')(hg':gs[g']? = some ((fs.map (jE d1)++lq)++sel gl rest):=by rfl)(hsel:nt gl.length (idx++rest)=true:=by kernel_rfl)(hf:la (sel gl idx):=by first | exact trivial | exact⟨λ_ _ _ _ h=>h,trivial⟩ | exact⟨λ_ _ _ _ h=>h,λ_ _ _ _ h=>h,trivial⟩ | exact⟨λ_ _ _ _ h=>h,λ_ _ _ _ h=>h,λ_ _ _ _ h=>h,trivial⟩)
  (h:(abs.all (sw none 5)&&sw (some d1) 5 r)=true:=by kernel_rfl) (e1:abs.map (@qy (kn vs lf bs us cs hb hu hc W X gs ops cls).sig 0 5)=args:=by kernel_rfl) (e2:(λcd=>@qy (kn vs lf bs us cs hb hu hc W X gs ops cls).sig cd 5 r)=(λcd=>ret (dec cd)):=by kernel_rfl):fm (kn vs lf bs us cs hb hu hc W X gs ops cls) P ⟨f,abs,g,some d1,r,some g'⟩:=by
 rw[Bool.and_eq_true]at h;exact Ja (c:=⟨W,X⟩) fs lq idx rest (pX hg) (pX hg') hsel rfl hf (ak h.1 e1) (λι cd hcd=>vd hcd h.2 (congrFun e2 cd)) con
theorem cd(hg:gs[g]? = some gl)(fs:List (Value->aG))(idx rest:List Nat)(con:∀ (w:World) (F:Nat->Prop),oj W X w->cG (sel gl idx) F w->(∀ j,F j->X j\/W.heap.size<=j)->Calls P f args.toArray w λe w'=>∃ v cd,dec cd=v/\e=.returned (ret v)/\af ⟨w,F⟩ (fs.map (λf=>f v)) w')(hg':gs[g']? = some (fs.map (jE d1)++sel gl rest):=by rfl)(hsel:nt gl.length (idx++rest)=true:=by kernel_rfl)(hf:la (sel gl idx):=by first | exact trivial | exact⟨λ_ _ _ _ h=>h,trivial⟩ | exact⟨λ_ _ _ _ h=>h,λ_ _ _ _ h=>h,trivial⟩ | exact⟨λ_ _ _ _ h=>h,λ_ _ _ _ h=>h,λ_ _ _ _ h=>h,trivial⟩)
  (h:(abs.all (sw none 5)&&sw (some d1) 5 r)=true:=by kernel_rfl) (e1:abs.map (@qy (kn vs lf bs us cs hb hu hc W X gs ops cls).sig 0 5)=args:=by kernel_rfl) (e2:(λcd=>@qy (kn vs lf bs us cs hb hu hc W X gs ops cls).sig cd 5 r)=(λcd=>ret (dec cd)):=by kernel_rfl):fm (kn vs lf bs us cs hb hu hc W X gs ops cls) P ⟨f,abs,g,some d1,r,some g'⟩:=by
 rw[Bool.and_eq_true]at h;exact I9 (c:=⟨W,X⟩) fs idx rest (pX hg) (pX hg') hsel rfl hf (ak h.1 e1) (λι cd hcd=>vd hcd h.2 (congrFun e2 cd)) con
theorem st{key:List Nat}{vals:List Value}(h:∀ g gl,gs[g]? = some gl->aZ (kn vs lf bs us cs hb hu hc W X gs ops cls) P ⟨key,vals,none,g,none,r,none⟩):aZ (kn vs lf bs us cs hb hu hc W X gs ops cls) P ⟨key,vals,some (0,7,[]),0,none,r,none⟩:=by
 show ∀ g,Ps (kn vs lf bs us cs hb hu hc W X gs ops cls) P ⟨key,vals,none,g,none,r,none⟩;intro g;cases hg:gs[g]? with
 | some gl=>exact h g gl hg
 | none =>
  intro o hk ev ι F w d h1 h2 h3;obtain⟨a,h4,_⟩:=h3;have h5:(gs.map (λl=>star (fU W X::l)))[g]? = some a:=h4;rw[List.getElem?_map,hg]at h5;cases h5
end
end Go.Ev
namespace Go.Proofs.YtkmccgombmogmaaGreat
open Go.Ev Go.Proofs.Tryz
open Go.RowKit
open Go.Ev (sy)
set_option maxRecDepth 8000
theorem Al{P:Program}{t:TypeId}{z:Value}{n b:Nat}(h:(P.info? t).map (λi=>(i.zero,i.size,i.bytes))=some (some z,n,b)):∃ i,P.info? t=some i/\i.size=n/\i.zero=some z/\i.bytes=b:=by
 cases hi:P.info? t with
 | none=>rw[hi]at h;cases h
 | some i =>
  rw[hi]at h;simp only[Option.map_some,Option.some.injEq,Prod.mk.injEq]at h;exact⟨i,rfl,h.2.1,h.1,h.2.2⟩
theorem bY:∃ i,prog.info? 3 = some i/\i.size=1/\i.zero=some (.int .i64 0)/\i.bytes=8:=Al (by kernel_rfl)
theorem FM:∃ i,prog.info? 51 = some i/\i.size=1/\i.zero=some (.int .u64 0)/\i.bytes=8:=Al (by kernel_rfl)
theorem bC:Bz prog 3:=by
 intro b o x w h;simp[Instr.loadAt,Instr.sureAddr,loadVar,isAgg,run_underlying underlying3,h]
theorem cells_one{x:Value}(h:x.oneCell'=true):x.cells = #[x]:=by cases x<;>first | rfl | cases h
theorem yw:yq prog 3:=by
 intro b o x x0 w h hf hc;simp[Instr.storeAt,Instr.sureAddr,storeVar,isAgg,run_underlying underlying3,h,cells_one hc,storeCells,run_store _ _ _ _ _ hc,hf,fB]
theorem aW{n:Int}(h1:-9223372036854775808<=n)(h2:n<=9223372036854775807):IntKind.i64.wrap n=n:=by
 unfold IntKind.wrap;simp[IntKind.signed,IntKind.bits];omega
def bu(xs:List Int):List Value:=xs.map (Value.int .i64)
theorem a_{w:World}{F:Nat->Prop}{l:List aG}{N:Nat}{f:FuncId}{args:Array Value}{tm:List (Nat×Value)}{α:Type}{r:α->Value}{l':α->List aG}{R:Ending->World->Prop}(hp:ce prog f [] 0 N ⟨w,F⟩ tm l r l')(hN:d9 prog (λB=>nq B f [] (λfn _=>Nat.beq fn.ntmps N))=true)(h:cG l F w)(ha:args.size<=N)(ht:∀ p ∈ tm,args[p.1]? = some p.2)(hR:∀ x w1,af ⟨w,F⟩ (l' x) w1->R (.returned (r x)) w1):Calls prog f args w R :=
 pB hN h ha ht (λA hA=>hp A w _ hA hR)
theorem dK{c:dc}{e:TypeId}{sz n:Nat}{v:Value}{xs:List Value}{l:List aG}{w:World}(h:af c (bQ e sz v n xs::l) w):aV v=true:=by
 obtain⟨f,hf⟩:=h.first
 exact dQ.leaf hf
theorem tr{N i kk:Nat}{f:FuncId}{p:List Nat}{c:dc}(k:Ev.Kn)(ho:∀ q ∈ k.ops,aZ k prog q)(hl:∀ q ∈ k.cls,fm k prog q)(hs:k.ks=[])(rn:List (Nat×Nat))(bl fK:List ic)(g':Nat){gl wA:List aG}(hg:k.gs[0]? = some (Ev.star (fU c.W c.X::gl)))(hg':k.gs[g']? = some (Ev.star (fU c.W c.X::wA)))(dE jx:List (Nat×Value))(ex:Exit)(hk:tY rn dE bl jx fK=true:=by kernel_rfl)
  (run:∀ gb:Nat->Value,letI:bg:=k.sig;d9 prog (λB=>nq B f p (λ_ c=>Nat.beq (sm gb N 0 dE).length N&&(Nat.ble N 4094&&(tu 100 rn bl&&yc ex jx fK g' (kY (sm gb N 0 dE) 0 .leaf (λt=>hJ B 400 N kk ((Ev.flat c).drop i) t (fi (eo bl 0) 100)))))))=true:=by intro gb;kernel_rfl) :
  letI:bg:=k.sig;NB prog f p i kk N c (dE.map (H1 (bE rn))) (bl.map (gT (bE rn))++gl) ex (λκ:am=>jx.map (H1 (vT rn κ))) (λκ:am=>fK.map (gT (vT rn κ))++wA.map (yh (vT rn κ))) :=
 Rv Tryz.codeOk dD k (Ev.Kn.ok k (λq hq=>by rw[hs]at hq;cases hq) ho hl) (n:=400) (m:=100) rn bl fK 0 g' gl wA hg hg' dE jx ex hk run
theorem eH{N i:Nat}{f:FuncId}{p:List Nat}{c:dc}(kk:Nat)(k:Ev.Kn)(ho:∀ q ∈ k.ops,aZ k prog q)(hl:∀ q ∈ k.cls,fm k prog q)(hs:k.ks=[])(rn:List (Nat×Nat))(bl fK:List ic)(g':Nat){gl wA:List aG}(hg:k.gs[0]? = some (Ev.star (fU c.W c.X::gl)))(hg':k.gs[g']? = some (Ev.star (fU c.W c.X::wA)))(dE:List (Nat×Value))(r:Value)(hk:tY rn dE bl [(0,r)] fK=true:=by kernel_rfl)
  (run:∀ gb:Nat->Value,letI:bg:=k.sig;d9 prog (λB=>nq B f p (λfn c=>Nat.beq (sm gb N 0 dE).length N&&(Nat.beq fn.ntmps N&&(Nat.ble N 4094&&(tu 100 rn bl&&((fK.all (λq=>Nat.beq (q.1%4) 0)&&Ev.isNil ((Ev.flat c).drop (i+kk)))&&i7 r fK (some g') (kY (sm gb N 0 dE) 0 .leaf (λt=>vo B.P fn (hJ B 400 N kk ((Ev.flat c).drop i) t (fi (eo bl 0) 100))))))))))=true:=by intro gb;kernel_rfl) :
  letI:bg:=k.sig;ce prog f p i N c (dE.map (H1 (bE rn))) (bl.map (gT (bE rn))++gl) (λκ:am=>fE 3 (vT rn κ) r) (λκ:am=>fK.map (gT (vT rn κ))++wA.map (yh (vT rn κ))) :=
 Py Tryz.codeOk dD k (Ev.Kn.ok k (λq hq=>by rw[hs]at hq;cases hq) ho hl) (n:=400) (m:=100) (kk:=kk) rn bl fK 0 g' gl wA hg hg' dE r hk run
end Go.Proofs.YtkmccgombmogmaaGreat
namespace Go.Ev
end Go.Ev
namespace Go.Proofs.YtkmccgombmogmaaGreat
open Go.Ev Go.Proofs.Tryz
open Go.RowKit
def wi(n a b:Int):Bool:=decide (a<=n)&&decide (n<=b)
set_option maxHeartbeats 400000 in
theorem Am(n a b:Int)(w:World) :
  Calls prog 45 #[.int .i64 n,.int .i64 a,.int .i64 b] w λe w'=>e=.returned (.bool (wi n a b))/\w=w':=by
 by_cases h1:a<=n<;>by_cases h2:n<=b
 all_goals
  go_enter func45,ntmps45
  go_wp2
  go_ret
  exact⟨by simp[wi, *],rfl⟩
def lQ(N Q G M T S:Int):Bool :=
 wi N 1 8&&(Q==2||Q==4||Q==8||Q==16||Q==32||Q==64)&&wi G 1 256&&wi M (N+1) 16&&wi T 2 200&&wi S 0 1000
def vW(N Q G M T S:Int):Bool :=
 wi N 1 8&&wi Q 2 64&&(bits .and .i64 Q (wrap64 (Q-1))==0)&&wi G 1 256&&wi M (wrap64 (N+1)) 16&&wi T 2 200&&wi S 0 1000
theorem An(q:Nat)(h:q<65):(2<=q/\bits .and .i64 (q:Int) (wrap64 ((q:Int)-1))=0)↔(q=2\/q=4\/q=8\/q=16\/q=32\/q=64):=by
 have:∀ q:Fin 65,(2<=q.val/\bits .and .i64 (q.val:Int) (wrap64 ((q.val:Int)-1))=0)↔(q.val=2\/q.val=4\/q.val=8\/q.val=16\/q.val=32\/q.val=64):=by decide +kernel
 exact this ⟨q,h⟩
theorem C5(N Q G M T S:Int):vW N Q G M T S=lQ N Q G M T S:=by
 unfold vW lQ
 by_cases hN:wi N 1 8=true
 ·have e1:wrap64 (N+1)=N+1:=by
   have h:=hN;simp[wi]at h;unfold wrap64;omega
  have e2:(wi Q 2 64&&(bits .and .i64 Q (wrap64 (Q-1))==0))=(Q==2||Q==4||Q==8||Q==16||Q==32||Q==64):=by
   by_cases hQ:wi Q 2 64=true
   ·have h:=hQ
    simp[wi]at h;obtain⟨q,rfl⟩:=Int.eq_ofNat_of_zero_le (show 0<=Q by omega);have hp:=An q (by omega);rw[Bool.eq_iff_iff];simp[hQ];rw[show(bits BinOp.and IntKind.i64 (↑q) (wrap64 (↑q-1))=0↔(q=2\/q=4\/q=8\/q=16\/q=32\/q=64)) from⟨λx=>hp.1 ⟨by omega,x⟩,λx=>(hp.2 x).2⟩];omega
   ·have h:=hQ
    simp[wi]at h;rw[Bool.eq_iff_iff];simp[hQ];omega
  rw[e1,← e2];simp[Bool.and_assoc]
 ·simp[hN]
set_option maxHeartbeats 800000 in
theorem Ao(N Q G M T S:Int)(w:World) :
  Calls prog 21 #[.agg #[.int .i64 N,.int .i64 Q,.int .i64 G,.int .i64 M,.int .i64 T,.int .i64 S]] w λe w'=>e=.returned (.bool (vW N Q G M T S))/\Below w.heap.size w w':=by
 go_enter func21,ntmps21
 go_wp2_with (go_at_call 45;refine(Am _ _ _ _).mono ?_;rintro e w' ⟨rfl,rfl⟩)
 all_goals
  go_ret
  refine⟨?_,(Below.refl _ _).alloc (Nat.le_refl _) _⟩;simp[vW, *]
theorem tZ(N Q G M T S:Int)(w:World) :
  Calls prog 21 #[.agg #[.int .i64 N,.int .i64 Q,.int .i64 G,.int .i64 M,.int .i64 T,.int .i64 S]] w λe w'=>e=.returned (.bool (lQ N Q G M T S))/\Below w.heap.size w w':=by
 rw[← C5];exact Ao N Q G M T S w
end Go.Proofs.YtkmccgombmogmaaGreat
namespace Go.Proofs.YtkmccgombmogmaaGreat
open Go.Ev Go.Proofs.Tryz
open Go.RowKit
open Go.Ev (sy)
def aj(x:Int):Int:=x / 4294967296
def cy(x:Int):Int:=x%4294967296
def aO(x:Int):Int:=(cy x-aj x)%4294967296
def mQ(h t:Int):Int:=h*4294967296+t
def dF(x d:Int):Int:=mQ (aj x) ((cy x+d)%4294967296)
def fg(x:Int):Prop:=0<=x/\x<18446744073709551616
theorem bJ{x:Int}(h:fg x):0<=aj x/\aj x<4294967296:=by obtain⟨h1,h2⟩:=h;unfold aj;omega
theorem bF(x:Int):0<=cy x/\cy x<4294967296:=by unfold cy;omega
theorem b7(n:Int):IntKind.u32.wrap n=n%4294967296:=by simp[IntKind.wrap,IntKind.bits,IntKind.signed]
theorem lR(x:Int)(h:fg x)(w:World):Calls prog 74 #[.int .u64 x] w λe w'=>e=.returned (.int .u32 (cy x))/\w=w':=by
 go_enter func74,ntmps74
 go_wp2
 go_ret
 exact⟨by simp[cy,b7],rfl⟩
theorem ct(x:Int)(h:fg x)(w:World):Calls prog 73 #[.int .u64 x] w λe w'=>e=.returned (.int .u32 (aj x))/\w=w':=by
 obtain⟨h1,h2⟩:=h
 go_enter func73,ntmps73
 go_wp2
 go_ret
 exact⟨by simp[aj,b7],rfl⟩
theorem Jb(a b:Int)(ha:0<=a/\a<4294967296)(hb:0<=b/\b<4294967296):bits .or .u64 (a*4294967296) b=a*4294967296+b:=by
 obtain⟨a,rfl⟩:=Int.eq_ofNat_of_zero_le ha.1;obtain⟨b,rfl⟩:=Int.eq_ofNat_of_zero_le hb.1;have h1:a<4294967296:=by omega
 have h2:b<4294967296:=by omega
 have e1:((a:Int)*4294967296%18446744073709551616).toNat=2 ^ 32*a:=by omega
 have e2:((b:Int)%18446744073709551616).toNat=b:=by omega
 have e3:(2 ^ 32*a ||| b)=2 ^ 32*a+b:=(Nat.two_pow_add_eq_or_of_lt (i:=32) (by omega) a).symm;have e4:(BitVec.ofInt 64 ((a:Int)*4294967296) ||| BitVec.ofInt 64 (b:Int)).toNat=2 ^ 32*a+b:=by
  simp only[BitVec.toNat_or,BitVec.toNat_ofInt];rw[show((2 ^ 64:Nat):Int)=18446744073709551616 by rfl,e1,e2,e3]
 show IntKind.u64.wrap ((BitVec.ofInt 64 ((a:Int)*4294967296) ||| BitVec.ofInt 64 (b:Int)).toNat:Int)=_;rw[e4];simp[IntKind.wrap,IntKind.bits,IntKind.signed];omega
theorem FN(a b:Int)(ha:0<=a/\a<4294967296)(hb:0<=b/\b<4294967296)(w:World):Calls prog 114 #[.int .u32 a,.int .u32 b] w λe w'=>e=.returned (.int .u64 (mQ a b))/\w=w':=by
 go_enter func114,ntmps114
 go_wp2
 go_ret
 exact⟨by simp[mQ,Jb a b ha hb],rfl⟩
theorem cz(x:Int)(h:fg x)(w:World):Calls prog 42 #[.int .u64 x] w λe w'=>e=.returned (.int .u32 (aO x))/\w=w':=by
 go_enter func42,ntmps42
 go_wp2_with (first | (go_at_call 74;refine(lR x h _).mono ?_;rintro e w' ⟨rfl,rfl⟩) | (go_at_call 73;refine(ct x h _).mono ?_;rintro e w' ⟨rfl,rfl⟩))
 go_ret
 exact⟨by simp[aO,b7],rfl⟩
theorem t5(x n:Int)(h:fg x)(w:World):Calls prog 113 #[.int .u64 x,.int .u32 n] w λe w'=>e=.returned (.int .u64 (dF x n))/\w=w':=by
 go_enter func113,ntmps113
 go_wp2_with (first | (go_at_call 74;refine(lR x h _).mono ?_;rintro e w' ⟨rfl,rfl⟩) | (go_at_call 73;refine(ct x h _).mono ?_;rintro e w' ⟨rfl,rfl⟩) | (go_at_call 114;refine(FN (aj x) ((cy x+n)%4294967296) (bJ h) (by omega) _).mono ?_;rintro e w' ⟨rfl,rfl⟩))
 go_ret
 exact⟨rfl,rfl⟩
theorem yx(x n:Int)(h:fg x)(w:World):Calls prog 96 #[.int .u64 x,.int .u32 n] w λe w'=>e=.returned (.int .u64 (dF x (-n)))/\w=w':=by
 go_enter func96,ntmps96
 go_wp2_with (first | (go_at_call 74;refine(lR x h _).mono ?_;rintro e w' ⟨rfl,rfl⟩) | (go_at_call 73;refine(ct x h _).mono ?_;rintro e w' ⟨rfl,rfl⟩) | (go_at_call 114;refine(FN (aj x) ((cy x-n)%4294967296) (bJ h) (by omega) _).mono ?_;rintro e w' ⟨rfl,rfl⟩))
 go_ret
 exact⟨rfl,rfl⟩
structure Cf where
 n:Int
 q:Int
 g:Int
 m:Int
 t:Int
 s:Int
abbrev Cf.v(c:Cf):Value:=.agg #[.int .i64 c.n,.int .i64 c.q,.int .i64 c.g,.int .i64 c.m,.int .i64 c.t,.int .i64 c.s]
def Cf.ok(c:Cf):Bool:=lQ c.n c.q c.g c.m c.t c.s
structure aP where
 n:Nat
 q:Nat
 g:Int
 m:Int
 t:Int
 s:Int
 h:lQ n q g m t s=true
abbrev aP.v(c:aP):Value:=.agg #[.int .i64 (c.n:Int),.int .i64 (c.q:Int),.int .i64 c.g,.int .i64 c.m,.int .i64 c.t,.int .i64 c.s]
theorem gU{n q g m t s:Int}(h:lQ n q g m t s=true):(1<=n/\n<=8)/\(q=2\/q=4\/q=8\/q=16\/q=32\/q=64)/\(1<=g/\g<=256)/\(n+1<=m/\m<=16)/\(2<=t/\t<=200)/\(0<=s/\s<=1000):=by
 simp[lQ,wi]at h;omega
theorem aP.nb(c:aP):1<=c.n/\c.n<=8:=by have:=(gU c.h).1;omega
theorem aP.qb(c:aP):2<=c.q/\c.q<=64:=by have:=(gU c.h).2.1;omega
def aP.off(c:aP)(p:Nat):Nat:=p*(6+c.q)
theorem aP.ny(c:aP){p:Nat}(h:p<c.n):c.off p+(6+c.q)<=c.off c.n:=by
 unfold aP.off;have:=Nat.mul_le_mul_right (6+c.q) (show p+1<=c.n from h);rw[Nat.succ_mul]at this;exact this
theorem aP.mg(c:aP):c.off c.n<=560:=by
 unfold aP.off;have h1:=c.nb.2;have h2:=c.qb.2;exact Nat.le_trans (Nat.mul_le_mul h1 (show 6+c.q<=70 by omega)) (by decide)
def aP.word(c:aP)(p:Nat):Nat:=4+c.off p
def aP.ae(c:aP)(i:Int):Nat:=(i%(c.q:Int)).toNat
theorem aP.az(c:aP)(i:Int):c.ae i<c.q:=by
 have:=c.qb.1;have h1:=Int.emod_lt_of_pos i (show(0:Int)<(c.q:Int) by omega);unfold aP.ae;have h2:=Int.emod_nonneg i (show(c.q:Int)≠0 by omega);omega
def aP.slot(c:aP)(p:Nat)(i:Int):Nat:=4+c.off p+(6+c.ae i)
def aP.cells(c:aP):Nat:=4+c.off c.n
theorem aP.z0(c:aP):(1<=c.n/\c.n<=8)/\(2<=c.q/\c.q<=64)/\c.off c.n<=560:=⟨c.nb,c.qb,c.mg⟩
theorem aP.z(c:aP){p:Nat}(hp:p<c.n):(1<=c.n/\c.n<=8)/\(2<=c.q/\c.q<=64)/\c.off c.n<=560/\c.off p+(6+c.q)<=c.off c.n/\c.word p=4+c.off p:=⟨c.nb,c.qb,c.mg,c.ny hp,rfl⟩
theorem Jc(c:aP){p:Nat}(h:p<c.n):IntKind.i64.wrap ((p:Int)*((6+c.q:Nat):Int))=((c.off p:Nat):Int):=by
 have h1:=c.ny h;have h2:=c.mg;have e:(p:Int)*((6+c.q:Nat):Int)=((c.off p:Nat):Int):=by unfold aP.off;omega
 rw[e,aW (by omega) (by omega)]
theorem Jd(c:aP):IntKind.i64.wrap ((c.n:Int)*((6+c.q:Nat):Int))=((c.off c.n:Nat):Int):=by
 have h2:=c.mg;have e:(c.n:Int)*((6+c.q:Nat):Int)=((c.off c.n:Nat):Int):=by unfold aP.off;omega
 rw[e,aW (by omega) (by omega)]
theorem FO(c:aP){i:Int}(h:0<=i):i.tmod (c.q:Int)=((c.ae i:Nat):Int):=by
 have h2:=Int.emod_nonneg i (show(c.q:Int)≠0 by have:=c.qb;omega);rw[Int.tmod_eq_emod_of_nonneg h];unfold aP.ae;omega
theorem aP.right(c:aP)(w:World):Calls prog 21 #[c.v] w λe w'=>e=.returned (.bool true)/\Below w.heap.size w w':=by
 have:=tZ (c.n:Int) c.q c.g c.m c.t c.s w;rw[c.h]at this;exact this
theorem Cf.wrong{c:Cf}(h:c.ok=false)(w:World):Calls prog 21 #[c.v] w λe w'=>e=.returned (.bool false)/\Below w.heap.size w w':=by
 have:=tZ c.n c.q c.g c.m c.t c.s w;unfold Cf.ok at h;rw[h]at this;exact this
end Go.Proofs.YtkmccgombmogmaaGreat
namespace Go.Proofs.YtkmccgombmogmaaGreat
open Go.Ev Go.Proofs.Tryz
open Go.RowKit
open Go.Ev (sy iz uz wz iN uN wN pz dv fc fn ak vk vd kn pc cc cr cm cd fr)
set_option maxRecDepth 8000
attribute [local irreducible] og
abbrev ND:List (Nat×Value):=[(0,.agg #[sy 0,sy 1,sy 2,sy 3,sy 4,sy 5,sy 6]),(1,sy 7)]
theorem Rw(W:World)(c:aP)(p i:Nat)(hp:p<c.n)(hi:i<=70):ce prog 72 [] 0 29 ⟨W,λ_=>False⟩ [(0,(.agg #[iN c.n,iN c.q,iz c.g,iz c.m,iz c.t,iz c.s,iN p])),(1,iN i)] [] (λκ:am=>(iN ((4+(c.off p))+(i)))) (λκ:am=>[]):=by have z:=c.z0;have q4:=c.ny hp;exact(eH (c:=⟨W,λ_=>False⟩) 6 (kn [iN (c.n),iN (c.q),iz (c.g),iz (c.m),iz (c.t),iz (c.s),iN (p),iN (i),iN (6+(c.q)),iN (c.off p),iz (((c.n:Nat):Int)-1),iN (4+(c.off p)),iN ((4+(c.off p))+(i))] fr [(.sub,sy 0,iz 1,sy 10),(.geq,sy 6,iz 0,.bool true),(.leq,sy 6,sy 10,.bool true),(.add,iz 6,sy 1,sy 8),(.mul,sy 6,sy 8,sy 9),(.add,iz 4,sy 9,sy 11),(.add,sy 11,sy 7,sy 12)] [] [] (fc (λ_ _ _=>rh (by exact aW (by omega) (by omega))) (fc (λ_ _ _=>fe (by first|(simp;done)|(simp;omega))) (fc (λ_ _ _=>Lp (by first|(simp;done)|(simp;omega))) (fc (λ_ _ _=>aN (by rw[aW (by omega) (by omega)];omega)) (fc (λ_ _ _=>EP (Jc c hp)) (fc (λ_ _ _=>aN (by rw[aW (by omega) (by omega)];omega)) (fc (λ_ _ _=>aN (by rw[aW (by omega) (by omega)];omega)) fn))))))) fn fn W (λ_=>False) [[]] [] [⟨21,[.agg #[sy 0,sy 1,sy 2,sy 3,sy 4,sy 5]],0,none,.bool true,none⟩]) fn (fc (pc rfl (λw hb=>c.right w)) fn) rfl [] [] [] 0 rfl rfl ND (sy 12))
theorem vX{W:World}{N:Nat}{f:FuncId}{args:Array Value}{tm:List (Nat×Value)}{r:Value}(hN:d9 prog (λB=>nq B f [] (λfn _=>Nat.beq fn.ntmps N))=true)(ha:args.size<=N)(ht:∀ p ∈ tm,args[p.1]? = some p.2)(h:ce prog f [] 0 N ⟨W,λ_=>False⟩ tm [] (λκ:am=>r) (λκ:am=>[])):Calls prog f args W λe w'=>e=.returned r/\Below W.heap.size W w' :=
 pB hN (kL W) ha ht (λA hA=>h A W _ hA (λκ w1 h1=>⟨rfl,h1.below (λ_ h=>h)⟩))
theorem x8(c:aP)(p i:Nat)(hp:p<c.n)(hi:i<=70)(w:World):Calls prog 72 #[.agg #[.int .i64 (c.n:Int),.int .i64 (c.q:Int),.int .i64 c.g,.int .i64 c.m,.int .i64 c.t,.int .i64 c.s,.int .i64 (p:Int)],.int .i64 (i:Int)] w λe w'=>e=.returned (.int .i64 ((4+c.off p+i:Nat):Int))/\Below w.heap.size w w' :=
 vX (by kernel_rfl) (by simp) (by simp) (Rw w c p i hp hi)
abbrev Kk(c:aP)(p:Nat):Value:=(.agg #[iN c.n,iN c.q,iz c.g,iz c.m,iz c.t,iz c.s,iN p])
abbrev NE:List (Nat×Value):=[(0,.agg #[sy 0,sy 1,sy 2,sy 3,sy 4,sy 5]),(1,sy 6)]
abbrev FP(c:aP):Value:=(.agg #[iN c.n,iN c.q,iz c.g,iz c.m,iz c.t,iz c.s])
abbrev NF(c:aP)(p:Nat):List (Nat×Value):=[(0,FP c),(1,iN p)]
abbrev LX(c:aP)(p:Nat)(i:Int):List (Nat×Value):=[(0,FP c),(1,iN p),(2,wz i)]
theorem LY(W:World)(c:aP)(p:Nat)(hp:p<c.n):ce prog 40 [] 0 9 ⟨W,λ_=>False⟩ (NF c p) [] (λκ:am=>(iN (4+c.off p+0))) (λκ:am=>[]):=(eH (c:=⟨W,λ_=>False⟩) 4 (kn [iN (c.n),iN (c.q),iz (c.g),iz (c.m),iz (c.t),iz (c.s),iN (p),iN (4+c.off p+0)] fr [] [] [] fn fn fn W (λ_=>False) [[]] [] [⟨72,[.agg #[sy 0,sy 1,sy 2,sy 3,sy 4,sy 5,sy 6],iz 0],0,none,sy 7,none⟩]) fn (fc (pc (args:=[(Kk c p),iz 0]) rfl (λw hb=>x8 c p (0) hp (by have z:=c.z0;have q4:=c.ny hp;omega) w)) fn) rfl [] [] [] 0 rfl rfl NE (sy 7))
theorem LZ(W:World)(c:aP)(p:Nat)(hp:p<c.n)(i:Int)(hi:0<=i):ce prog 43 [] 0 21 ⟨W,λ_=>False⟩ (LX c p i) [] (λκ:am=>(iN (4+c.off p+(6+c.ae i)))) (λκ:am=>[]):=by have q2:=c.qb;have z:=c.z0;have q4:=c.ny hp;have q9:=c.az i;exact(eH (c:=⟨W,λ_=>False⟩) 6 (kn [iN (c.n),iN (c.q),iz (c.g),iz (c.m),iz (c.t),iz (c.s),wz (i),iN (p),wN (c.ae i),wN (c.q),iN (c.ae i),iN (6+(c.ae i)),iN (4+c.off p+(6+c.ae i))] fr [(.rem,sy 6,sy 9,sy 8),(.add,iz 6,sy 10,sy 11)] [] [(.u32,sy 1,sy 9),(.i64,sy 8,sy 10)] (fc (λ_ _ _=>Lq (by omega) (FO c hi)) (fc (λ_ _ _=>aN (by rw[aW (by omega) (by omega)];omega)) fn)) fn (fc (cx rfl rfl (by rw[b7];omega)) (fc (cx rfl rfl (by exact aW (by omega) (by omega))) fn)) W (λ_=>False) [[]] [] [⟨21,[.agg #[sy 0,sy 1,sy 2,sy 3,sy 4,sy 5]],0,none,.bool true,none⟩,⟨72,[.agg #[sy 0,sy 1,sy 2,sy 3,sy 4,sy 5,sy 7],sy 11],0,none,sy 12,none⟩]) fn (fc (pc rfl (λw hb=>c.right w)) (fc (pc (args:=[(Kk c p),(iN (6+(c.ae i)))]) rfl (λw hb=>x8 c p (6+c.ae i) hp (by omega) w)) fn)) rfl [] [] [] 0 rfl rfl [(0,.agg #[sy 0,sy 1,sy 2,sy 3,sy 4,sy 5]),(1,sy 7),(2,sy 6)] (sy 12))
theorem Je(W:World)(c:aP):ce prog 30 [] 0 13 ⟨W,λ_=>False⟩ [(0,FP c)] [] (λκ:am=>(iN (4+(c.off c.n)))) (λκ:am=>[]):=by have z:=c.z0;exact(eH (c:=⟨W,λ_=>False⟩) 6 (kn [iN (c.n),iN (6+(c.q)),iN (c.q),iz (c.g),iz (c.m),iz (c.t),iz (c.s),iN (c.off c.n),iN (4+(c.off c.n))] fr [(.add,iz 6,sy 2,sy 1),(.mul,sy 0,sy 1,sy 7),(.add,iz 4,sy 7,sy 8)] [] [] (fc (λ_ _ _=>aN (by rw[aW (by omega) (by omega)];omega)) (fc (λ_ _ _=>EP (Jd c)) (fc (λ_ _ _=>aN (by rw[aW (by omega) (by omega)];omega)) fn))) fn fn W (λ_=>False) [[]] [] [⟨21,[.agg #[sy 0,sy 2,sy 3,sy 4,sy 5,sy 6]],0,none,.bool true,none⟩]) fn (fc (pc rfl (λw hb=>c.right w)) fn) rfl [] [] [] 0 rfl rfl [(0,.agg #[sy 0,sy 2,sy 3,sy 4,sy 5,sy 6])] (sy 8))
end Go.Proofs.YtkmccgombmogmaaGreat
namespace Go.Proofs.YtkmccgombmogmaaGreat
open Go.Ev Go.Proofs.Tryz
open Go.RowKit
open Go.Ev (sy)
set_option maxRecDepth 8000
theorem cD(c:aP)(p:Nat)(hp:p<c.n)(w:World):Calls prog 40 #[c.v,.int .i64 (p:Int)] w λe w'=>e=.returned (.int .i64 ((c.word p:Nat):Int))/\Below w.heap.size w w' :=
 vX (r:=.int .i64 ((c.word p:Nat):Int)) (by kernel_rfl) (by simp) (by simp) (LY w c p hp)
theorem iA(c:aP)(p:Nat)(hp:p<c.n)(i:Int)(hi:0<=i)(w:World):Calls prog 43 #[c.v,.int .i64 (p:Int),.int .u32 i] w λe w'=>e=.returned (.int .i64 ((c.slot p i:Nat):Int))/\Below w.heap.size w w' :=
 vX (r:=.int .i64 ((c.slot p i:Nat):Int)) (by kernel_rfl) (by simp) (by simp) (LZ w c p hp i hi)
theorem cells_ok(c:aP)(w:World):Calls prog 30 #[c.v] w λe w'=>e=.returned (.int .i64 ((c.cells:Nat):Int))/\Below w.heap.size w w' :=
 vX (r:=.int .i64 ((c.cells:Nat):Int)) (by kernel_rfl) (by simp) (by simp) (Je w c)
end Go.Proofs.YtkmccgombmogmaaGreat
namespace Go.Proofs.YtkmccgombmogmaaGreat
open Go.Ev Go.Proofs.Tryz
open Go.RowKit
open Go.Ev (sy iz uz wz iN uN wN pz dv fc fn ak vk vd kn pc cc cr cm cd fr)
set_option maxRecDepth 8000
attribute [local irreducible] og
end Go.Proofs.YtkmccgombmogmaaGreat
namespace Go.Proofs.YtkmccgombmogmaaGreat
open Go.Ev Go.Proofs.Tryz
open Go.RowKit
open Go.Ev (sy)
set_option maxRecDepth 8000
end Go.Proofs.YtkmccgombmogmaaGreat
namespace Go.Proofs.YtkmccgombmogmaaGreat
open Go.Ev Go.Proofs.Tryz
open Go.RowKit
open Go.Ev (sy iz uz wz iN uN wN pz dv fc fn ak vk vd kn pc cc cr cm cd fr)
set_option maxRecDepth 8000
attribute [local irreducible] og
end Go.Proofs.YtkmccgombmogmaaGreat
namespace Go.Proofs.YtkmccgombmogmaaGreat
open Go.Ev Go.Proofs.Tryz
open Go.RowKit
open Go.Ev (sy)
set_option maxRecDepth 8000
end Go.Proofs.YtkmccgombmogmaaGreat
namespace Go.Proofs.YtkmccgombmogmaaGreat
open Go.Ev Go.Proofs.Tryz
open Go.RowKit
open Go.Ev (sy iz uz wz iN uN wN pz dv fc fn ak vk vd kn pc cc cr cm cd fr)
set_option maxRecDepth 8000
attribute [local irreducible] og
structure S9 where
 W0:World
 F0:Nat->Prop
 c:aP
 p:Nat
 hp:p<c.n
 gg:Int
 hg:0<=gg/\gg<=9223372036854775807
 w:Int
 hw:fg w
 rv:Value
 tk:Value
 hd:Value
 lrv:aV rv=true
 mF:aV tk=true
 wB:aV hd=true
 xs:List Int
 ts:List Int
 hs:List Int
 hl:xs.length=4+c.off c.n
 hx:xs.length<=1000000
 hts:ts.length<=64
 ops:Int
abbrev S9.i4(s:S9):Int:=IntKind.u32.wrap (IntKind.u32.wrap (cy s.w-((s.c.q / 2:Nat):Int))+((s.ts.length:Nat):Int))
theorem ag{f:FuncId}{args:Array Value}{w:World}{v:Ending}(h:Calls prog f args w λe w'=>e=v/\w=w'):Calls prog f args w λe w'=>e=v/\Below w.heap.size w w':=h.mono (by rintro e w' ⟨h,rfl⟩;exact⟨h,Below.refl _ _⟩)
theorem kN(n:Int):0<=IntKind.u32.wrap n:=by rw[b7];omega
theorem FQ{n:Int}(h1:0<=n)(h2:n<18446744073709551616):IntKind.u64.wrap n=n:=by
 unfold IntKind.wrap;simp[IntKind.signed,IntKind.bits];omega
theorem oA(c:aP):IntKind.i64.wrap ((c.q:Int).tdiv 2)=((c.q / 2:Nat):Int):=by
 have:=c.qb;rw[Int.tdiv_eq_ediv_of_nonneg (by omega),aW (by omega) (by omega)];omega
end Go.Proofs.YtkmccgombmogmaaGreat
