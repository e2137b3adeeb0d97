/- Part of a proof: see the last text. -/
import Derived.Test.YtankbefdlbcdnaaZd13
import Derived.OwnWalk
import Derived.KernelRfl
import Derived.Test.YtankbefdlbcdnaaZd12
import Derived.WideKeyEntry
import Derived.Maps.OwnSet
import Derived.Test.YtankbefdlbcdnaaRows
import Derived.Test.YtankbefdlbcdnaaZd10
set_option linter.unusedSectionVars false
set_option linter.unusedSimpArgs false
set_option linter.unusedVariables false
namespace Go.Ev
open Go.RowKit
theorem FN{op:Op}{t:TypeId}(h:cy op=some [19,t]):∃ x y,op=.makeSlice t x y:=by
 unfold cy at h
 split at h<;>first | (cases h;done) | skip
 all_goals first | (simp at h;done) | skip
 simp at h;subst h;exact⟨_,_,rfl⟩
section
variable{k:Kn}{P:Program}{g g':Nat}{l:List aK}{t e:TypeId}{n sz:Nat}{i:TypeInfo}{z:Value}
theorem aD.make{d0 ng:Option Nat}{r x y:Value}(h:letI:aL:=k.sig;∀ ι F w d x' y',Ask k g d0 ng ι F w d->aw ι x x'->aw ι y y'->eA P (Instr.makeSlice t x' y') ι d F w r ng):aD k P ⟨[19,t],[x,y],none,g,d0,r,ng⟩:=by
 letI:aL:=k.sig;intro o hk ev ι F w d hv _ h1 h2 h3 h4;obtain⟨a,b,ho⟩:=FN hk;rw[ho]at hv;obtain⟨x',y',e,hx,hy⟩:=m_ hv;simp[Op.operands]at e;obtain⟨rfl,rfl⟩:=e;obtain⟨v',w',r1,r2⟩:=h ι F w d _ _ ⟨h1,h2,h3,h4⟩ hx hy;refine⟨.value v',v',w',?_,.inl rfl,r2⟩;unfold execOp;rw[ho];simp only;rw[Sem.run_bind,r1];rfl
theorem vC{w w':World}(h:w.grownBy w' none):Below w.heap.size w w':=⟨h.os,h.tape,h.output,h.size,λj hj=>h.block j hj (by simp)⟩
end
theorem f_{k:Kn}{d2:Nat}{abs:List Value}{args:List Value}(h:∀ ι l',(letI:aL:=k.sig;cx ι abs l')->l'=args):∀ ι l',(letI:aL:=k.sig;cx ι (.complex .f32 d2 0::abs) l')->∃ c,ι d2=some c/\l'=(λv=>v::args) (dec c):=by
 letI:aL:=k.sig;intro ι l' hl
 match l',hl with
 | [],hl=>exact absurd hl.1 (by simp)
 | x'::m,hl =>
  obtain⟨c,e1,e2⟩:=qW (hl.2 0 _ _ rfl rfl);refine⟨c,e1,?_⟩;show x'::m=dec c::args;rw[e2,h ι m ⟨by have:=hl.1;simpa using this,λi v v' h1 h2=>hl.2 (i+1) v v' (by simpa using h1) (by simpa using h2)⟩]
theorem np{k:Kn}{d2:Nat}{x v:Value}{abs:List Value}{args:Value->List Value}(hx:oC k x v)(h:∀ ι l',(letI:aL:=k.sig;cx ι abs l')->∃ c,ι d2=some c/\l'=args (dec c)):∀ ι l',(letI:aL:=k.sig;cx ι (x::abs) l')->∃ c,ι d2=some c/\l'=(λu=>v::args u) (dec c):=by
 letI:aL:=k.sig;intro ι l' hl
 match l',hl with
 | [],hl=>exact absurd hl.1 (by simp)
 | x'::m,hl =>
  obtain⟨c,e1,e2⟩:=h ι m ⟨by have:=hl.1;simpa using this,λi v v' h1 h2=>hl.2 (i+1) v v' (by simpa using h1) (by simpa using h2)⟩;refine⟨c,e1,?_⟩;show x'::m=v::args (dec c);rw[e2,hx ι x' (hl.2 0 _ _ rfl rfl)]
def HF(d2:Nat)(kN:List aK)(lp:Value->List aK):Prop:=∀ (ι:ag) c,ι d2=some c->kN.length=(lp (dec c)).length/\∀ (i:Nat) a b ff w,kN[i]? = some a->(lp (dec c))[i]? = some b->a.p ι ff w->b.p (λ_=>none) ff w
theorem nr{d2:Nat} : HF d2 [] (λ_=>[]):=λι c hc=>⟨rfl,λi a b ff w e1 e2=>by cases e1⟩
theorem qX{d2:Nat}{a:Value->aK}{kN:List aK}{lp:Value->List aK}(ha:∀ v,Flat (a v))(h:HF d2 kN lp):HF d2 (ce d2 a::kN) (λv=>a v::lp v):=by
 intro ι c hc;obtain⟨h1,h2⟩:=h ι c hc;refine⟨by simp[h1],λi x y ff w e1 e2 hx=>?_⟩
 match i with
 | 0 =>
  cases e1;cases e2;obtain⟨c',hc',hx⟩:=hx;rw[hc]at hc';cases hc';exact ha _ _ _ _ _ hx
 | i+1=>exact h2 i x y ff w (by simpa using e1) (by simpa using e2) hx
theorem s5{d2:Nat}{b:aK}{kN:List aK}{lp:Value->List aK}(hb:Flat b)(h:HF d2 kN lp):HF d2 (b::kN) (λv=>b::lp v):=by
 intro ι c hc;obtain⟨h1,h2⟩:=h ι c hc;refine⟨by simp[h1],λi x y ff w e1 e2 hx=>?_⟩
 match i with
 | 0 =>
  cases e1;cases e2;exact hb _ _ _ _ hx
 | i+1=>exact h2 i x y ff w (by simpa using e1) (by simpa using e2) hx
theorem FO{k:Kn}{P:Program}{c:eO}{f:FuncId}{abs args:List Value}{g:Nat}{gl lp:List aK}{r rv:Value}(idx:List Nat)(hg:k.gs[g]? = some (star (cQ c.W c.X::gl)))(hsel:jo gl.length idx=true)(hp:sel gl idx=lp)(hf:jm lp)
  (ha:∀ ι l',(letI:aL:=k.sig;cx ι abs l')->l'=args) (hr:∀ ι,(letI:aL:=k.sig;aw ι r rv))
  (con:∀ (w:World) (F:Nat->Prop),eC c.W c.X w->bu lp F w->Calls P f args.toArray w λe w'=>e=.returned rv/\Below w.heap.size w w'):dn k P ⟨f,abs,g,none,r,none⟩:=by
 letI:aL:=k.sig;intro ι args' F w d hl h1 h2 h3 h4;have e:=ha ι _ hl;have ea:args'=args.toArray:=by rw[← e]
 subst ea;obtain⟨b,q1,q2⟩:=h1;rw[hg]at q1;cases q1;obtain⟨Fo,Fg,⟨o1,o2⟩,n1,n2,n3⟩:=bT (l:=gl.map (kM ι)) (ke q2 h2);obtain⟨F',s1,s2⟩:=kf n1 idx (by rw[List.length_map];exact hsel);rw[mr,hp]at s1
 have pl:bu lp F' w:=mf s1 (by simp) (λi a b ff e1 e2 h=>by
  rw[List.getElem?_map,e2]at e1;cases e1
  exact nj hf b (List.mem_of_getElem? e2) ι _ ff w h)
 refine(con w F' o2 pl).mono ?_;rintro e' w' ⟨rfl,hb⟩;exact⟨_,rfl,hr ι,hb⟩
theorem CI{op:Op}{t:TypeId}(h:cy op=some [20,t]):∃ x y z,op=.binOp .eql t x y z:=by
 unfold cy at h
 split at h<;>first | (cases h;done) | skip
 all_goals first | (simp at h;done) | skip
 simp at h;subst h;exact⟨_,_,_,rfl⟩
section
variable{k:Kn}{P:Program}{g:Nat}{t:TypeId}{a:Addr}{s:Nat}
theorem b5(hv:k.val s=.pointer (some a))(ht:P.underlying t=some (.pointer (P.pointee t))):aD k P ⟨[20,t],[sy s,.pointer none],none,g,none,.bool false,none⟩:=by
 letI:aL:=k.sig;intro o hk ev ι F w d hl _ h1 h2 h3 h4;obtain⟨x,y,z,ho⟩:=CI hk;rw[ho]at hl;obtain⟨x',y',e,hx,hy⟩:=m_ hl;simp[Op.operands]at e;obtain⟨rfl,rfl⟩:=e;refine⟨.value (.bool false),.bool false,w,?_,.inl rfl,.bool _,Below.refl _ _⟩;unfold execOp;rw[ho];simp only;rw[bH hx,hv,H2 _ _ hy];simp[eqGuard,run_eql_pointer_nil w t (some a) ht]
end
theorem zi{k:Kn}{P:Program}{c:eO}{f:FuncId}{abs:List Value}{args:Value->List Value}{g g' d1 d2:Nat}{gl kN:List aK}{lp:Value->List aK}{r:Value}{ret:Value->Value}(fs:List (Value->aK))(idx rest:List Nat)(hg:k.gs[g]? = some (star (cQ c.W c.X::gl)))(hg':k.gs[g']? = some (star (cQ c.W c.X::(fs.map (ce d1)++sel gl rest))))(hsel:jo gl.length (idx++rest)=true)(hp:sel gl idx=kN)
  (hf:∀ (ι:ag) c,ι d2=some c->kN.length=(lp (dec c)).length/\∀ (i:Nat) a b ff w,kN[i]? = some a->(lp (dec c))[i]? = some b->a.p ι ff w->b.p (λ_=>none) ff w)
  (ha:∀ ι l',(letI:aL:=k.sig;cx ι abs l')->∃ c,ι d2=some c/\l'=args (dec c)) (hr:∀ (ι:ag) cd,ι d1=some cd->(letI:aL:=k.sig;aw ι r (ret (dec cd))))
  (con:∀ (v:Value) (w:World) (F:Nat->Prop),eC c.W c.X w->bu (lp v) F w->(∀ j,F j->c.X j\/c.W.heap.size<=j)->Calls P f (args v).toArray w λe w'=>∃ u cd,dec cd=u/\e=.returned (ret u)/\ay ⟨w,F⟩ (fs.map (λf=>f u)) w'):dn k P ⟨f,abs,g,some d1,r,some g'⟩:=by
 letI:aL:=k.sig;intro ι args' F w d hl h1 h2 h3 h4;obtain⟨tU,xx,e⟩:=ha ι _ hl;have ea:args'=(args (dec tU)).toArray:=by rw[← e]
 subst ea;obtain⟨b,q1,q2⟩:=h1;rw[hg]at q1;cases q1;obtain rfl:=h4 d1 rfl;have hd:ι d1=none:=h3.elim id (λh=>by cases h);obtain⟨Fo,Fg,⟨o1,o2⟩,n1,n2,n3⟩:=bT (l:=gl.map (kM ι)) (ke q2 h2);obtain⟨F',s1,s2⟩:=kf n1 (idx++rest) (by rw[List.length_map];exact hsel);have hsp:sel (gl.map (kM ι)) (idx++rest)=kN.map (kM ι)++(sel gl rest).map (kM ι):=by
  rw[mr,← hp,← List.map_append];unfold sel;rw[List.map_append]
 rw[hsp]at s1;obtain⟨F1,F2,p1,p2,p3,p4⟩:=cC s1;obtain⟨vD,vE⟩:=hf ι tU xx
 have pl:bu (lp (dec tU)) F1 w:=mf p1 (by simp[vD]) (λi a b ff e1 e2 h=>by
  rw[List.getElem?_map]at e1;cases hb:kN[i]? with
  | none=>rw[hb]at e1;cases e1
  | some a' =>
   rw[hb]at e1;cases e1
   exact vE i a' b ff w hb e2 h)
 have hFg:∀ j,Fg j->c.X j\/c.W.heap.size<=j:=λj hj=>by
  rcases Nat.lt_or_ge j c.W.heap.size with h | h
  ·exact .inl (Classical.byContradiction λhx=>n2 j ((o1 j).2 ⟨h,hx⟩) hj)
  ·exact .inr h
 refine(con (dec tU) w F1 o2 pl (λj hj=>hFg j (s2 j ((p4 j).2 (.inl hj))))).mono ?_;rintro e' w' ⟨u,cd,rfl,rfl,hh⟩;obtain⟨G,g1,g2,g3⟩:=hh.ex;have jL:∀ j,Fo j->¬ F1 j:=λj ho hf1=>n2 j ho (s2 j ((p4 j).2 (.inl hf1)))
 have kr:bu ((sel gl rest).map (kM ι)) F2 w':=ft p2 (λj hj=>g2.block j (p2.lt j hj) (λh=>p3 j h hj)) g2.size;have xv:∀ j,Fo j->j<w.heap.size:=λj hj=>h2 j ((n3 j).2 (.inl hj))
 have xw:∀ j,G j->¬ F2 j:=λj hj hf2=>by
  rcases g3 j hj with h | h
  ·exact p3 j h hf2
  ·have h0:w.heap.size<=j:=h
   have:=p2.lt j hf2;omega
 have all:=cf (a:=cQ c.W c.X) (Fa:=Fo) ⟨o1,λj hj hx=>(g2.block j (xv j ((o1 j).2 ⟨hj,hx⟩)) (jL j ((o1 j).2 ⟨hj,hx⟩))).trans (o2 j hj hx)⟩ (dB g1 kr xw) (λj hj=>Nat.lt_of_lt_of_le (xv j hj) g2.size) (λj hj hx=>by
  rcases hx with hx | hx
  ·rcases g3 j hx with h | h
   ·exact jL j hj h
   ·have h0:w.heap.size<=j:=h
    have:=xv j hj;omega
  ·exact n2 j hj (s2 j ((p4 j).2 (.inr hx))))
 have hup:(ι.upd d1 cd) d1=some cd:=by simp[ag.upd]
 refine⟨ret (dec cd),rfl,cd,_,hr _ cd hup,⟨_,hg',oE all (by simp) (λi a b ff e1 e2 h=>?_)⟩,⟨g2.os,g2.tape,g2.output,g2.size,λj hj hn=>g2.block j hj (λhf=>hn ((n3 j).2 (.inr (s2 j ((p4 j).2 (.inl hf))))))⟩,λj hj=>⟨all.lt j hj,?_⟩⟩
 ·match i with
  | 0=>cases e1;cases e2;exact h
  | i+1 =>
   rw[List.getElem?_cons_succ]at e1 e2;rcases Nat.lt_or_ge i fs.length with hi | hi
   ·rw[List.getElem?_append_left (by simpa using hi),List.getElem?_map]at e1 e2
    cases hfi:fs[i]? with
    | none=>rw[hfi]at e1;cases e1
    | some q =>
     rw[hfi]at e1 e2;cases e1;cases e2;exact⟨cd,hup,(q (dec cd)).mono _ _ ff w' (λ_ _ e=>by cases e) h⟩
   ·rw[List.getElem?_append_right (by simpa using hi),List.getElem?_map]at e1
    rw[List.getElem?_append_right (by simpa using hi)]at e2;simp only[List.length_map]at e1 e2;rw[e2]at e1;cases e1;exact b.mono ι _ ff w' (ag.dT (b:=cd) hd) h
 ·rcases hj with hj | hj | hj
  ·exact .inl ((n3 j).2 (.inl hj))
  ·rcases g3 j hj with h | h
   ·exact .inl ((n3 j).2 (.inr (s2 j ((p4 j).2 (.inl h)))))
   ·exact .inr h
  ·exact .inl ((n3 j).2 (.inr (s2 j ((p4 j).2 (.inr hj)))))
theorem s6{k:Kn}{P:Program}{c:eO}{f:FuncId}{abs:List Value}{args:Value->List Value}{g g' d2:Nat}{gl kN:List aK}{lp:Value->List aK}{r rv:Value}(fs:List (Value->aK))(idx rest:List Nat)(hg:k.gs[g]? = some (star (cQ c.W c.X::gl)))(hg':k.gs[g']? = some (star (cQ c.W c.X::(fs.map (ce d2)++sel gl rest))))(hsel:jo gl.length (idx++rest)=true)(hp:sel gl idx=kN)
  (hf:∀ (ι:ag) c,ι d2=some c->kN.length=(lp (dec c)).length/\∀ (i:Nat) a b ff w,kN[i]? = some a->(lp (dec c))[i]? = some b->a.p ι ff w->b.p (λ_=>none) ff w)
  (ha:∀ ι l',(letI:aL:=k.sig;cx ι abs l')->∃ c,ι d2=some c/\l'=args (dec c)) (hr:∀ ι,(letI:aL:=k.sig;aw ι r rv))
  (con:∀ (v:Value) (w:World) (F:Nat->Prop),eC c.W c.X w->bu (lp v) F w->(∀ j,F j->c.X j\/c.W.heap.size<=j)->Calls P f (args v).toArray w λe w'=>e=.returned rv/\ay ⟨w,F⟩ (fs.map (λf=>f v)) w'):dn k P ⟨f,abs,g,none,r,some g'⟩:=by
 letI:aL:=k.sig;intro ι args' F w d hl h1 h2 h3 h4;obtain⟨tU,xx,e⟩:=ha ι _ hl;have ea:args'=(args (dec tU)).toArray:=by rw[← e]
 subst ea;obtain⟨b,q1,q2⟩:=h1;rw[hg]at q1;cases q1;have hd:ι d=none:=h3.elim id (λh=>by cases h);obtain⟨Fo,Fg,⟨o1,o2⟩,n1,n2,n3⟩:=bT (l:=gl.map (kM ι)) (ke q2 h2);obtain⟨F',s1,s2⟩:=kf n1 (idx++rest) (by rw[List.length_map];exact hsel);have hsp:sel (gl.map (kM ι)) (idx++rest)=kN.map (kM ι)++(sel gl rest).map (kM ι):=by
  rw[mr,← hp,← List.map_append];unfold sel;rw[List.map_append]
 rw[hsp]at s1;obtain⟨F1,F2,p1,p2,p3,p4⟩:=cC s1;obtain⟨vD,vE⟩:=hf ι tU xx
 have pl:bu (lp (dec tU)) F1 w:=mf p1 (by simp[vD]) (λi a b ff e1 e2 h=>by
  rw[List.getElem?_map]at e1;cases hb:kN[i]? with
  | none=>rw[hb]at e1;cases e1
  | some a' =>
   rw[hb]at e1;cases e1
   exact vE i a' b ff w hb e2 h)
 have hFg:∀ j,Fg j->c.X j\/c.W.heap.size<=j:=λj hj=>by
  rcases Nat.lt_or_ge j c.W.heap.size with h | h
  ·exact .inl (Classical.byContradiction λhx=>n2 j ((o1 j).2 ⟨h,hx⟩) hj)
  ·exact .inr h
 refine(con (dec tU) w F1 o2 pl (λj hj=>hFg j (s2 j ((p4 j).2 (.inl hj))))).mono ?_;rintro e' w' ⟨rfl,hh⟩;obtain⟨G,g1,g2,g3⟩:=hh.ex;have jL:∀ j,Fo j->¬ F1 j:=λj ho hf1=>n2 j ho (s2 j ((p4 j).2 (.inl hf1)))
 have kr:bu ((sel gl rest).map (kM ι)) F2 w':=ft p2 (λj hj=>g2.block j (p2.lt j hj) (λh=>p3 j h hj)) g2.size;have xv:∀ j,Fo j->j<w.heap.size:=λj hj=>h2 j ((n3 j).2 (.inl hj))
 have xw:∀ j,G j->¬ F2 j:=λj hj hf2=>by
  rcases g3 j hj with h | h
  ·exact p3 j h hf2
  ·have h0:w.heap.size<=j:=h
   have:=p2.lt j hf2;omega
 have all:=cf (a:=cQ c.W c.X) (Fa:=Fo) ⟨o1,λj hj hx=>(g2.block j (xv j ((o1 j).2 ⟨hj,hx⟩)) (jL j ((o1 j).2 ⟨hj,hx⟩))).trans (o2 j hj hx)⟩ (dB g1 kr xw) (λj hj=>Nat.lt_of_lt_of_le (xv j hj) g2.size) (λj hj hx=>by
  rcases hx with hx | hx
  ·rcases g3 j hx with h | h
   ·exact jL j hj h
   ·have h0:w.heap.size<=j:=h
    have:=xv j hj;omega
  ·exact n2 j hj (s2 j ((p4 j).2 (.inr hx))))
 refine⟨rv,rfl,0,_,hr _,⟨_,hg',oE all (by simp) (λi a b ff e1 e2 h=>?_)⟩,⟨g2.os,g2.tape,g2.output,g2.size,λj hj hn=>g2.block j hj (λhf=>hn ((n3 j).2 (.inr (s2 j ((p4 j).2 (.inl hf))))))⟩,λj hj=>⟨all.lt j hj,?_⟩⟩
 ·match i with
  | 0=>cases e1;cases e2;exact h
  | i+1 =>
   rw[List.getElem?_cons_succ]at e1 e2;rcases Nat.lt_or_ge i fs.length with hi | hi
   ·rw[List.getElem?_append_left (by simpa using hi),List.getElem?_map]at e1 e2
    cases hfi:fs[i]? with
    | none=>rw[hfi]at e1;cases e1
    | some q =>
     rw[hfi]at e1 e2;cases e1;cases e2;exact⟨tU,ag.dT (b:=0) hd _ _ xx,(q (dec tU)).mono _ _ ff w' (λ_ _ e=>by cases e) h⟩
   ·rw[List.getElem?_append_right (by simpa using hi),List.getElem?_map]at e1
    rw[List.getElem?_append_right (by simpa using hi)]at e2;simp only[List.length_map]at e1 e2;rw[e2]at e1;cases e1;exact b.mono ι _ ff w' (ag.dT (b:=0) hd) h
 ·rcases hj with hj | hj | hj
  ·exact .inl ((n3 j).2 (.inl hj))
  ·rcases g3 j hj with h | h
   ·exact .inl ((n3 j).2 (.inr (s2 j ((p4 j).2 (.inl h)))))
   ·exact .inr h
  ·exact .inl ((n3 j).2 (.inr (s2 j ((p4 j).2 (.inr hj)))))
theorem FSq{k:Kn}{P:Program}{c:eO}{f:FuncId}{abs:List Value}{args:Value->List Value}{g g' d2:Nat}{gl kN:List aK}{lp:Value->List aK}{r rv:Value}(fs:List (Value->aK))(lq:List aK)(idx rest:List Nat)(hg:k.gs[g]? = some (star (cQ c.W c.X::gl)))(hg':k.gs[g']? = some (star (cQ c.W c.X::((fs.map (ce d2)++lq)++sel gl rest))))(hsel:jo gl.length (idx++rest)=true)(hp:sel gl idx=kN)
  (hf:∀ (ι:ag) c,ι d2=some c->kN.length=(lp (dec c)).length/\∀ (i:Nat) a b ff w,kN[i]? = some a->(lp (dec c))[i]? = some b->a.p ι ff w->b.p (λ_=>none) ff w)
  (ha:∀ ι l',(letI:aL:=k.sig;cx ι abs l')->∃ c,ι d2=some c/\l'=args (dec c)) (hr:∀ ι,(letI:aL:=k.sig;aw ι r rv))
  (con:∀ (v:Value) (w:World) (F:Nat->Prop),eC c.W c.X w->bu (lp v) F w->(∀ j,F j->c.X j\/c.W.heap.size<=j)->Calls P f (args v).toArray w λe w'=>e=.returned rv/\ay ⟨w,F⟩ (fs.map (λf=>f v)++lq) w'):dn k P ⟨f,abs,g,none,r,some g'⟩:=by
 letI:aL:=k.sig;intro ι args' F w d hl h1 h2 h3 h4;obtain⟨tU,xx,e⟩:=ha ι _ hl;have ea:args'=(args (dec tU)).toArray:=by rw[← e]
 subst ea;obtain⟨b,q1,q2⟩:=h1;rw[hg]at q1;cases q1;have hd:ι d=none:=h3.elim id (λh=>by cases h);obtain⟨Fo,Fg,⟨o1,o2⟩,n1,n2,n3⟩:=bT (l:=gl.map (kM ι)) (ke q2 h2);obtain⟨F',s1,s2⟩:=kf n1 (idx++rest) (by rw[List.length_map];exact hsel);have hsp:sel (gl.map (kM ι)) (idx++rest)=kN.map (kM ι)++(sel gl rest).map (kM ι):=by
  rw[mr,← hp,← List.map_append];unfold sel;rw[List.map_append]
 rw[hsp]at s1;obtain⟨F1,F2,p1,p2,p3,p4⟩:=cC s1;obtain⟨vD,vE⟩:=hf ι tU xx
 have pl:bu (lp (dec tU)) F1 w:=mf p1 (by simp[vD]) (λi a b ff e1 e2 h=>by
  rw[List.getElem?_map]at e1;cases hb:kN[i]? with
  | none=>rw[hb]at e1;cases e1
  | some a' =>
   rw[hb]at e1;cases e1
   exact vE i a' b ff w hb e2 h)
 have hFg:∀ j,Fg j->c.X j\/c.W.heap.size<=j:=λj hj=>by
  rcases Nat.lt_or_ge j c.W.heap.size with h | h
  ·exact .inl (Classical.byContradiction λhx=>n2 j ((o1 j).2 ⟨h,hx⟩) hj)
  ·exact .inr h
 refine(con (dec tU) w F1 o2 pl (λj hj=>hFg j (s2 j ((p4 j).2 (.inl hj))))).mono ?_;rintro e' w' ⟨rfl,hh⟩;obtain⟨G,g1,g2,g3⟩:=hh.ex;have jL:∀ j,Fo j->¬ F1 j:=λj ho hf1=>n2 j ho (s2 j ((p4 j).2 (.inl hf1)))
 have kr:bu ((sel gl rest).map (kM ι)) F2 w':=ft p2 (λj hj=>g2.block j (p2.lt j hj) (λh=>p3 j h hj)) g2.size;have xv:∀ j,Fo j->j<w.heap.size:=λj hj=>h2 j ((n3 j).2 (.inl hj))
 have xw:∀ j,G j->¬ F2 j:=λj hj hf2=>by
  rcases g3 j hj with h | h
  ·exact p3 j h hf2
  ·have h0:w.heap.size<=j:=h
   have:=p2.lt j hf2;omega
 have all:=cf (a:=cQ c.W c.X) (Fa:=Fo) ⟨o1,λj hj hx=>(g2.block j (xv j ((o1 j).2 ⟨hj,hx⟩)) (jL j ((o1 j).2 ⟨hj,hx⟩))).trans (o2 j hj hx)⟩ (dB g1 kr xw) (λj hj=>Nat.lt_of_lt_of_le (xv j hj) g2.size) (λj hj hx=>by
  rcases hx with hx | hx
  ·rcases g3 j hx with h | h
   ·exact jL j hj h
   ·have h0:w.heap.size<=j:=h
    have:=xv j hj;omega
  ·exact n2 j hj (s2 j ((p4 j).2 (.inr hx))))
 refine⟨rv,rfl,0,_,hr _,⟨_,hg',oE all (by simp) (λi a b ff e1 e2 h=>?_)⟩,⟨g2.os,g2.tape,g2.output,g2.size,λj hj hn=>g2.block j hj (λhf=>hn ((n3 j).2 (.inr (s2 j ((p4 j).2 (.inl hf))))))⟩,λj hj=>⟨all.lt j hj,?_⟩⟩
 ·match i with
  | 0=>cases e1;cases e2;exact h
  | i+1 =>
   rw[List.getElem?_cons_succ]at e1 e2;rcases Nat.lt_or_ge i (fs.length+lq.length) with hi | hi
   ·rw[List.getElem?_append_left (by simpa using hi)]at e1 e2
    rcases Nat.lt_or_ge i fs.length with hi2 | hi2
    ·rw[List.getElem?_append_left (by simpa using hi2),List.getElem?_map]at e1 e2
     cases hfi:fs[i]? with
     | none=>rw[hfi]at e1;cases e1
     | some q =>
      rw[hfi]at e1 e2;cases e1;cases e2;exact⟨tU,ag.dT (b:=0) hd _ _ xx,(q (dec tU)).mono _ _ ff w' (λ_ _ e=>by cases e) h⟩
    ·rw[List.getElem?_append_right (by simpa using hi2)]at e1 e2
     simp only[List.length_map]at e1 e2;rw[e1]at e2;cases e2;exact a.mono _ _ ff w' (λ_ _ e=>by cases e) h
   ·rw[List.getElem?_append_right (by simpa using hi),List.getElem?_map]at e1
    rw[List.getElem?_append_right (by simpa using hi)]at e2;simp only[List.length_append,List.length_map]at e1 e2;rw[e2]at e1;cases e1;exact b.mono ι _ ff w' (ag.dT (b:=0) hd) h
 ·rcases hj with hj | hj | hj
  ·exact .inl ((n3 j).2 (.inl hj))
  ·rcases g3 j hj with h | h
   ·exact .inl ((n3 j).2 (.inr (s2 j ((p4 j).2 (.inl h)))))
   ·exact .inr h
  ·exact .inl ((n3 j).2 (.inr (s2 j ((p4 j).2 (.inr hj)))))
theorem FT{k:Kn}{P:Program}{c:eO}{f:FuncId}{abs args:List Value}{g g' d1:Nat}{gl lp:List aK}{r:Value}{ret:Value->Value}(fs:List (Value->aK))(lq:List aK)(idx rest:List Nat)(hg:k.gs[g]? = some (star (cQ c.W c.X::gl)))(hg':k.gs[g']? = some (star (cQ c.W c.X::((fs.map (ce d1)++lq)++sel gl rest))))(hsel:jo gl.length (idx++rest)=true)(hp:sel gl idx=lp)(hf:jm lp)
  (ha:∀ ι l',(letI:aL:=k.sig;cx ι abs l')->l'=args) (hr:∀ (ι:ag) cd,ι d1=some cd->(letI:aL:=k.sig;aw ι r (ret (dec cd))))
  (con:∀ (w:World) (F:Nat->Prop),eC c.W c.X w->bu lp F w->(∀ j,F j->c.X j\/c.W.heap.size<=j)->Calls P f args.toArray w λe w'=>∃ v cd,dec cd=v/\e=.returned (ret v)/\ay ⟨w,F⟩ (fs.map (λf=>f v)++lq) w'):dn k P ⟨f,abs,g,some d1,r,some g'⟩:=by
 refine Cz (lq:=λv=>fs.map (λf=>f v)++lq) idx rest hg hg' hsel hp hf ha hr (λι cd w' hi=>⟨by simp,λi a b ff h1 h2 h=>?_⟩) con;rcases Nat.lt_or_ge i fs.length with h0 | h0
 ·rw[List.getElem?_append_left (by simpa using h0),List.getElem?_map]at h1 h2
  cases hfi:fs[i]? with
  | none=>rw[hfi]at h1;cases h1
  | some q =>
   rw[hfi]at h1 h2;cases h1;cases h2;exact⟨cd,hi,(q (dec cd)).mono _ _ ff w' (λ_ _ e=>by cases e) h⟩
 ·rw[List.getElem?_append_right (by simpa using h0)]at h1 h2
  simp only[List.length_map]at h1 h2;rw[h1]at h2;cases h2;exact a.mono _ _ ff w' (λ_ _ e=>by cases e) h
theorem dH.as{P:Program}{f:FuncId}{p:List Nat}{i k N:Nat}{c:eO}{tm M3:List (Nat×Value)}{l l2:List aK}{ex:Exit}{α:Type}{tm' Jx:α->List (Nat×Value)}{l':α->List aK}(h:dH P f p i k N c tm l ex tm' l')(e1:tm=M3)(e2:l=l2)(e3:tm'=Jx):dH P f p i k N c M3 l2 ex Jx l':=by
 subst e1 e2 e3;exact h
abbrev iz(n:Int):Value:=.int .i64 n
abbrev uz(n:Int):Value:=.int .u64 n
abbrev wz(n:Int):Value:=.int .u32 n
abbrev iN(n:Nat):Value:=.int .i64 (n:Int)
abbrev uN(n:Nat):Value:=.int .u64 (n:Int)
abbrev wN(n:Nat):Value:=.int .u32 (n:Int)
abbrev pz(b:Nat):Value:=.pointer (some ⟨b,0,none⟩)
abbrev dv(κ:ag)(n:Nat):Value:=dec ((κ n).getD 0)
theorem fc{α:Type}{p:α->Prop}{a:α}{l:List α}(h:p a)(t:∀ x ∈ l,p x):∀ x ∈ a::l,p x:=List.forall_mem_cons.2 ⟨h,t⟩
theorem fn{α:Type}{p:α->Prop} : ∀ x ∈ ([]:List α),p x:=List.forall_mem_nil p
def vg:List Value->Nat->Value
 | [],_=>.int .i64 0
 | a::_,0=>a
 | _::l,n+1=>vg l n
theorem zj:∀ {l:List Value},(∀ x ∈ l,aR x=true)->∀ n,aR (vg l n)=true
 | [],_,n=>rfl
 | a::l,h,0=>h a (List.mem_cons_self ..)
 | a::l,h,n+1=>zj (λx hx=>h x (List.mem_cons_of_mem _ hx)) n
abbrev kn(vs:List Value)(lf:∀ x ∈ vs,aR x=true)(bs:List qP)(us:List qQ)(cs:List qR)(hb:∀ q ∈ bs,Cb (vg vs) q)(hu:∀ q ∈ us,Cc (vg vs) q)(hc:∀ q ∈ cs,y5 (vg vs) q)(W:World)(X:Nat->Prop)(gs:List (List aK))(ops:List og)(cls:List kK):Kn :=
 ⟨vg vs,zj lf,bs,us,cs,[],hb,hu,hc,gs.map (λl=>star (cQ W X::l)),ops,cls⟩
noncomputable def p_(d:Option Nat):Nat->Value->Bool
 | 0,_=>false
 | n+1,v=>match v with
  | .agg f=>f.toList.all (p_ d n)
  | .tuple f=>f.toList.all (p_ d n)
  | .iface _ v=>p_ d n v
  | .complex .f64 _ _=>true
  | .complex .f32 e 0=>(match d with | some d=>Nat.beq d e | none=>false)
  | .complex .f32 e (_+2)=>(match d with | some d=>Nat.beq d e | none=>false)
  | .bool _ | .int _ _ | .string _=>true
  | .pointer none | .slice none 0 0 | .map none=>true
  | _=>false
def oF[aL](cd:Nat):Nat->Value->Value
 | 0,v=>v
 | n+1,v=>match v with
  | .agg f=>.agg (f.toList.map (oF cd n)).toArray
  | .tuple f=>.tuple (f.toList.map (oF cd n)).toArray
  | .iface t v=>.iface t (oF cd n v)
  | .complex .f64 s _=>aL.val s
  | .complex .f32 _ 0=>dec cd
  | .complex .f32 _ (j+2)=>aq j (dec cd)
  | v=>v
theorem oG[aL]{ι:ag}{d:Option Nat}{cd n:Nat}{f:Array Value}(hk:f.toList.all (p_ d n)=true)(ih:∀ v,p_ d n v=true->aw ι v (oF cd n v)):f.size=(f.toList.map (oF cd n)).toArray.size/\∀ (i:Nat) (v v':Value),f[i]? = some v->(f.toList.map (oF cd n)).toArray[i]? = some v'->aw ι v v':=by
 rw[List.all_eq_true]at hk;refine⟨by simp,λi v v' h1 h2=>?_⟩;have h3:v'=oF cd n v:=by
  have h1':f.toList[i]? = some v:=by simpa using h1
  simp only[List.getElem?_toArray,List.getElem?_map,h1',Option.map_some,Option.some.injEq]at h2;exact h2.symm
 rw[h3];exact ih v (hk v (by rw[Array.mem_toList_iff];exact Array.mem_of_getElem? h1))
theorem CJ[aL]{ι:ag}{d:Option Nat}{cd:Nat}(hd:∀ e,d=some e->ι e=some cd):∀ (n:Nat) (v:Value),p_ d n v=true->aw ι v (oF cd n v):=by
 intro n
 induction n with
 | zero=>exact λv h=>by cases h
 | succ n ih =>
  intro v h
  match v,h with
  | .agg f,h=>exact .agg _ _ (oG h ih).1 (oG h ih).2
  | .tuple f,h=>exact .tuple _ _ (oG h ih).1 (oG h ih).2
  | .iface t v,h=>exact .iface t _ _ (ih v h)
  | .complex .f64 s j,h=>exact .sym s j _ rfl
  | .complex .f32 e 0,h =>
   cases hdd:d with
   | none=>rw[hdd]at h;cases h
   | some x =>
    rw[hdd]at h;have he:x=e:=Nat.eq_of_beq_eq_true h;exact .dyn e cd _ (hd e (by rw[hdd,he])) rfl
  | .complex .f32 e 1,h=>cases h
  | .complex .f32 e (j+2),h =>
   cases hdd:d with
   | none=>rw[hdd]at h;cases h
   | some x =>
    rw[hdd]at h;have he:x=e:=Nat.eq_of_beq_eq_true h;exact .oR e cd j _ (hd e (by rw[hdd,he])) rfl
  | .bool b,h=>exact .bool b
  | .int k m,h=>exact .int k m
  | .string s,h=>exact .string s
  | .pointer none,h=>exact .lM
  | .slice none 0 0,h=>exact .cz
  | .map none,h=>exact .kU
theorem CK[aL]{ι:ag}{n:Nat}{f f':Array Value}(hf:f.size=f'.size)(h:∀ (i:Nat) (v v':Value),f[i]? = some v->f'[i]? = some v'->aw ι v v')(hk:f.toList.all (p_ none n)=true)(ih:∀ v v',p_ none n v=true->aw ι v v'->v'=oF 0 n v):f'=(f.toList.map (oF 0 n)).toArray:=by
 rw[List.all_eq_true]at hk;apply Array.ext (by simp[hf]);intro i h1 h2;have h3:i<f.size:=by rw[hf];exact h1
 rw[ih f[i] f'[i] (hk _ (by simp)) (h i _ _ (Array.getElem?_eq_getElem h3) (Array.getElem?_eq_getElem h1))];simp
theorem Jy[aL]{ι:ag} : ∀ (n:Nat) (v v':Value),p_ none n v=true->aw ι v v'->v'=oF 0 n v:=by
 intro n
 induction n with
 | zero=>exact λv v' h=>by cases h
 | succ n ih =>
  intro v v' hk h;cases h with
  | agg f f' hf hr=>exact congrArg Value.agg (CK hf hr hk ih)
  | tuple f f' hf hr=>exact congrArg Value.tuple (CK hf hr hk ih)
  | iface t v v' hr=>exact congrArg (Value.iface t) (ih _ _ hk hr)
  | sym m j _ h=>exact h.symm
  | dyn id c _ h h'=>cases hk
  | oR id c j _ h h'=>cases hk
  | junk m _ h=>cases hk
  | bool=>rfl
  | int=>rfl
  | string=>rfl
  | lM=>rfl
  | cz=>rfl
  | kU=>rfl
  | _=>cases hk
theorem ak{k:Kn}{abs args:List Value}(h:abs.all (p_ none 5)=true)(e:abs.map (@oF k.sig 0 5)=args):∀ ι l',(letI:aL:=k.sig;cx ι abs l')->l'=args:=by
 letI:aL:=k.sig;intro ι l' hl;rw[← e];rw[List.all_eq_true]at h;apply List.ext_getElem (by rw[List.length_map];exact hl.1.symm);intro i h1 h2;have h3:i<abs.length:=by simpa using h2
 rw[List.getElem_map];exact Jy 5 _ _ (h _ (List.getElem_mem h3)) (hl.2 i _ _ (List.getElem?_eq_getElem h3) (List.getElem?_eq_getElem h1))
theorem vk{k:Kn}{ι:ag}{r rv:Value}(h:p_ none 5 r=true)(e:@oF k.sig 0 5 r=rv):letI:aL:=k.sig;aw ι r rv:=by
 letI:aL:=k.sig;rw[← e];exact CJ (d:=none) (λ_ h=>by cases h) 5 r h
theorem vd{k:Kn}{ι:ag}{d cd:Nat}{r rv:Value}(hd:ι d=some cd)(h:p_ (some d) 5 r=true)(e:@oF k.sig cd 5 r=rv):letI:aL:=k.sig;aw ι r rv:=by
 letI:aL:=k.sig;rw[← e];exact CJ (d:=some d) (λ_ h=>by cases h;exact hd) 5 r h
theorem fr{l:List Value}(h:l.all aR=true:=by kernel_rfl):∀ x ∈ l,aR x=true:=λx hx=>List.all_eq_true.1 h x hx
section
variable{vs:List Value}{lf:∀ x ∈ vs,aR x=true}{bs:List qP}{us:List qQ}{cs:List qR}{hb:∀ q ∈ bs,Cb (vg vs) q}{hu:∀ q ∈ us,Cc (vg vs) q}{hc:∀ q ∈ cs,y5 (vg vs) q}{W:World}{X:Nat->Prop}{gs:List (List aK)}{ops:List og}{cls:List kK}{P:Program}{f:FuncId}{abs args:List Value}{g g' d1:Nat}{gl:List aK}{r rv:Value}{ret:Value->Value}
theorem cI{gl:List aK}{g:Nat}(h:gs[g]? = some gl):(kn vs lf bs us cs hb hu hc W X gs ops cls).gs[g]? = some (star (cQ W X::gl)):=by
 show(gs.map (λl=>star (cQ W X::l)))[g]? = _;rw[List.getElem?_map,h];rfl
theorem pc(hg:gs[g]? = some gl)(con:∀ w,eC W X w->Calls P f args.toArray w λe w'=>e=.returned rv/\Below w.heap.size w w')(h:(abs.all (p_ none 5)&&p_ none 5 r)=true:=by kernel_rfl)(e1:abs.map (@oF (kn vs lf bs us cs hb hu hc W X gs ops cls).sig 0 5)=args:=by kernel_rfl)(e2:@oF (kn vs lf bs us cs hb hu hc W X gs ops cls).sig 0 5 r=rv:=by kernel_rfl):dn (kn vs lf bs us cs hb hu hc W X gs ops cls) P ⟨f,abs,g,none,r,none⟩:=by
 rw[Bool.and_eq_true]at h;exact CA (ci:=0) (cI hg) rfl con (λι=>vk h.2 e2) (ak h.1 e1)
theorem cc(hg:gs[g]? = some gl)(lq:List aK)(idx rest:List Nat)(con:∀ (w:World) (F:Nat->Prop),eC W X w->bu (sel gl idx) F w->(∀ j,F j->X j\/W.heap.size<=j)->Calls P f args.toArray w λe w'=>e=.returned rv/\ay ⟨w,F⟩ lq w')(hg':gs[g']? = some (lq++sel gl rest):=by rfl)(hsel:jo gl.length (idx++rest)=true:=by kernel_rfl)(hf:jm (sel gl idx):=by first | exact trivial | exact⟨λ_ _ _ _ h=>h,trivial⟩ | exact⟨λ_ _ _ _ h=>h,λ_ _ _ _ h=>h,trivial⟩ | exact⟨λ_ _ _ _ h=>h,λ_ _ _ _ h=>h,λ_ _ _ _ h=>h,trivial⟩)
  (h:(abs.all (p_ none 5)&&p_ none 5 r)=true:=by kernel_rfl) (e1:abs.map (@oF (kn vs lf bs us cs hb hu hc W X gs ops cls).sig 0 5)=args:=by kernel_rfl) (e2:@oF (kn vs lf bs us cs hb hu hc W X gs ops cls).sig 0 5 r=rv:=by kernel_rfl):dn (kn vs lf bs us cs hb hu hc W X gs ops cls) P ⟨f,abs,g,none,r,some g'⟩:=by
 rw[Bool.and_eq_true]at h;exact H1 (c:=⟨W,X⟩) idx rest (cI hg) (cI hg') hsel rfl hf (ak h.1 e1) (λι=>vk h.2 e2) con
theorem cr(hg:gs[g]? = some gl)(idx:List Nat)(con:∀ (w:World) (F:Nat->Prop),eC W X w->bu (sel gl idx) F w->Calls P f args.toArray w λe w'=>e=.returned rv/\Below w.heap.size w w')(hsel:jo gl.length idx=true:=by kernel_rfl)(hf:jm (sel gl idx):=by first | exact trivial | exact⟨λ_ _ _ _ h=>h,trivial⟩ | exact⟨λ_ _ _ _ h=>h,λ_ _ _ _ h=>h,trivial⟩ | exact⟨λ_ _ _ _ h=>h,λ_ _ _ _ h=>h,λ_ _ _ _ h=>h,trivial⟩)
  (h:(abs.all (p_ none 5)&&p_ none 5 r)=true:=by kernel_rfl) (e1:abs.map (@oF (kn vs lf bs us cs hb hu hc W X gs ops cls).sig 0 5)=args:=by kernel_rfl) (e2:@oF (kn vs lf bs us cs hb hu hc W X gs ops cls).sig 0 5 r=rv:=by kernel_rfl):dn (kn vs lf bs us cs hb hu hc W X gs ops cls) P ⟨f,abs,g,none,r,none⟩:=by
 rw[Bool.and_eq_true]at h;exact FO (c:=⟨W,X⟩) idx (cI hg) hsel rfl hf (ak h.1 e1) (λι=>vk h.2 e2) con
theorem cm(hg:gs[g]? = some gl)(fs:List (Value->aK))(lq:List aK)(idx rest:List Nat)(con:∀ (w:World) (F:Nat->Prop),eC W X w->bu (sel gl idx) F w->(∀ j,F j->X j\/W.heap.size<=j)->Calls P f args.toArray w λe w'=>∃ v cd,dec cd=v/\e=.returned (ret v)/\ay ⟨w,F⟩ (fs.map (λf=>f v)++lq) w')(hg':gs[g']? = some ((fs.map (ce d1)++lq)++sel gl rest):=by rfl)(hsel:jo gl.length (idx++rest)=true:=by kernel_rfl)(hf:jm (sel gl idx):=by first | exact trivial | exact⟨λ_ _ _ _ h=>h,trivial⟩ | exact⟨λ_ _ _ _ h=>h,λ_ _ _ _ h=>h,trivial⟩ | exact⟨λ_ _ _ _ h=>h,λ_ _ _ _ h=>h,λ_ _ _ _ h=>h,trivial⟩)
  (h:(abs.all (p_ none 5)&&p_ (some d1) 5 r)=true:=by kernel_rfl) (e1:abs.map (@oF (kn vs lf bs us cs hb hu hc W X gs ops cls).sig 0 5)=args:=by kernel_rfl) (e2:(λcd=>@oF (kn vs lf bs us cs hb hu hc W X gs ops cls).sig cd 5 r)=(λcd=>ret (dec cd)):=by kernel_rfl):dn (kn vs lf bs us cs hb hu hc W X gs ops cls) P ⟨f,abs,g,some d1,r,some g'⟩:=by
 rw[Bool.and_eq_true]at h;exact FT (c:=⟨W,X⟩) fs lq idx rest (cI hg) (cI hg') hsel rfl hf (ak h.1 e1) (λι cd hcd=>vd hcd h.2 (congrFun e2 cd)) con
theorem cd(hg:gs[g]? = some gl)(fs:List (Value->aK))(idx rest:List Nat)(con:∀ (w:World) (F:Nat->Prop),eC W X w->bu (sel gl idx) F w->(∀ j,F j->X j\/W.heap.size<=j)->Calls P f args.toArray w λe w'=>∃ v cd,dec cd=v/\e=.returned (ret v)/\ay ⟨w,F⟩ (fs.map (λf=>f v)) w')(hg':gs[g']? = some (fs.map (ce d1)++sel gl rest):=by rfl)(hsel:jo gl.length (idx++rest)=true:=by kernel_rfl)(hf:jm (sel gl idx):=by first | exact trivial | exact⟨λ_ _ _ _ h=>h,trivial⟩ | exact⟨λ_ _ _ _ h=>h,λ_ _ _ _ h=>h,trivial⟩ | exact⟨λ_ _ _ _ h=>h,λ_ _ _ _ h=>h,λ_ _ _ _ h=>h,trivial⟩)
  (h:(abs.all (p_ none 5)&&p_ (some d1) 5 r)=true:=by kernel_rfl) (e1:abs.map (@oF (kn vs lf bs us cs hb hu hc W X gs ops cls).sig 0 5)=args:=by kernel_rfl) (e2:(λcd=>@oF (kn vs lf bs us cs hb hu hc W X gs ops cls).sig cd 5 r)=(λcd=>ret (dec cd)):=by kernel_rfl):dn (kn vs lf bs us cs hb hu hc W X gs ops cls) P ⟨f,abs,g,some d1,r,some g'⟩:=by
 rw[Bool.and_eq_true]at h;exact FL (c:=⟨W,X⟩) fs idx rest (cI hg) (cI hg') hsel rfl hf (ak h.1 e1) (λι cd hcd=>vd hcd h.2 (congrFun e2 cd)) con
theorem st{key:List Nat}{vals:List Value}(h:∀ g gl,gs[g]? = some gl->aD (kn vs lf bs us cs hb hu hc W X gs ops cls) P ⟨key,vals,none,g,none,r,none⟩):aD (kn vs lf bs us cs hb hu hc W X gs ops cls) P ⟨key,vals,some (0,7,[]),0,none,r,none⟩:=by
 show ∀ g,KZ (kn vs lf bs us cs hb hu hc W X gs ops cls) P ⟨key,vals,none,g,none,r,none⟩;intro g;cases hg:gs[g]? with
 | some gl=>exact h g gl hg
 | none =>
  intro o hk ev ι F w d h1 h2 h3;obtain⟨a,h4,_⟩:=h3;have h5:(gs.map (λl=>star (cQ W X::l)))[g]? = some a:=h4;rw[List.getElem?_map,hg]at h5;cases h5
end
section
variable{k:Kn}{P:Program}{g g':Nat}{l:List aK}{ci:Nat}{t u e:TypeId}{sL sS sB sV n sz m hi:Nat}{v vs:Value}{xs cs:List Value}{i:TypeInfo}{z:Value}
theorem Jz{kd:IntKind}(hg:k.gs[g]? = some (star l))(hc:l[ci]? = some (aO e sz v n xs))(ht:P.underlying t=some (.slice e))(cZ:P.info? e=some i)(hsz:i.size=sz)(hL:k.val sL=v)(hB:k.val sB=.int kd (hi:Int))(h2:hi<=n)(hV:k.val sV=cutV sz v 0 hi):aD k P ⟨[4,t,0,1,0],[sy sL,sy sB],none,g,none,sy sV,none⟩:=by
 refine aD.Fu k ?_;letI:aL:=k.sig;intro ι F w d x' y' q hx hy;obtain⟨Fs,ff,hS,hf,h1⟩:=a_ hg hc q;rw[bH hx,bH hy,hL,hB];exact⟨_,w,zf (kd:=kd) (.inl ⟨rfl,rfl⟩) rfl (dG.ro h1) ht cZ hsz (Nat.zero_le _) h2 w,eB hV,Below.refl _ _⟩
theorem dG.H6{F:Nat->Prop}{w:World}(h:dG e sz v n xs F w)(h2:hi<=n):dG e sz (cutV sz v 0 hi) hi (xs.take (hi*sz)) F w:=by
 obtain⟨h1,h3⟩:=h;have hle:=Nat.mul_le_mul_right sz h2;refine⟨by rw[List.length_take,h1];omega,?_⟩;rcases h3 with ⟨he,rfl,hF⟩ | ⟨b,off,c,arr,rfl,hF,hb0,hx,hs,hnc⟩
 ·obtain rfl:hi=0:=by omega
  refine .inl ⟨?_,rfl,hF⟩;rcases he with rfl | ⟨b,off,rfl⟩
  ·exact .inl rfl
  ·exact .inr ⟨b,off,rfl⟩
 ·refine .inr ⟨b,off,c,arr,?_,hF,hb0,λk hk=>?_,hs,by omega⟩
  ·unfold cutV
   simp only[dY,Nat.zero_mul,Nat.add_zero,Nat.sub_zero,ite_self]
  ·rw[hx k (by omega),List.getElem?_take,if_pos hk]
theorem ay.H6{c:eO}{l:List aK}{w:World}(h:ay c (aO e sz v n xs::l) w)(h2:hi<=n):ay c (aO e sz (cutV sz v 0 hi) hi (xs.take (hi*sz))::l) w:=h.head (λF h=>dG.H6 h h2)
theorem Nt{d0 ng:Option Nat}(hg:k.gs[g]? = some (star l))(hi:l[ci]? = some (aO e sz v m xs))(hS:k.val sS=v):letI:aL:=k.sig;∀ ι F w d y',Ask k g d0 ng ι F w d->aw ι (sy sS) y'->c7 sz y' m xs w:=by
 letI:aL:=k.sig;intro ι F w d y' q h;rw[bH h,hS];exact Jw hg hi ι F w d q
end
section
variable{k:Kn}{P:Program}{g g':Nat}{l:List aK}{t e:TypeId}{n sz:Nat}{i:TypeInfo}{z:Value}{xs:List Value}
theorem eX{ci sL sP:Nat}{v y:Value}{kd:IntKind}{j:Nat}(hg:k.gs[g]? = some (star l))(hi:l[ci]? = some (aO e sz v n xs))(ht:P.underlying t=some (.slice e))(cZ:P.info? e=some i)(hsz:i.size=sz)(hL:k.val sL=v)(hI:oC k y (.int kd (j:Int)))(hj:j<n)(hP:k.val sP=au v (j*sz)):aD k P ⟨[3,t],[sy sL,y],none,g,none,sy sP,none⟩:=by
 subst hsz;refine aD.index k ?_;letI:aL:=k.sig;intro ι F w d x' y' q hx hy;obtain⟨Fs,ff,hS,hf,h1⟩:=a_ hg hi q;rw[bH hx,hI _ _ hy,hL];obtain⟨b,off,c,e1,e2,_⟩:=dG.at (kd:=kd) h1 ht cZ hj;exact⟨_,w,e2,eB (by rw[hP,e1];rfl),Below.refl _ _⟩
end
end Go.Ev
namespace Go.Ev
open Go.RowKit Go.Maps Go.WideShapes
open Go.WideElems (Fit rd rg pl rd_key rd_val rg_of other_key)
open Go.WideElems (findIdx_born findIdx_arr modify_last)
open Go.ChangeShapes Go.MapKept Go.ChangeMaps
theorem AF{P:Program}{w:World}{t k e:TypeId}{R:Value->Option (DataW Unit×List MemPlace)}{b:Nat}{es:Array MapEntry}{clock:Nat}(K:Keyed P k)(ht:P.underlying t=some (.map k e)){z:Value}(hz:∀ u:World,(zeroValue e).run P u=.ok z u)(hb:w.heap[b]? = some (.map es clock))(F:Fit P k R es clock)
  {key:Value} {kl:Lit} (hkey:keyOf P k key=some kl) (nk:∀ x ∈ es.toList,x.key≠key) :
  ∃ (st:Nat) (es1:Array MapEntry) (clock1:Nat),(Instr.mapEntry t (.map (some b)) key).run P w=.ok (.tuple #[z,goInt st]) (setBlock w b (.map es1 clock1))/\
   ∀ (w2:World) (val:Value),w2.heap[b]? = some (.map es1 clock1)->∃ es' clock',(Instr.entryStore t (.map (some b)) (goInt st) val).run P w2=.ok () (setBlock w2 b (.map es' clock'))/\
    (Instr.mapUpdate t (.map (some b)) key val).run P w=.ok () (setBlock w b (.map es' clock')):=by
 obtain⟨s1,s2,_⟩:=F.stamped;rcases K.find w hkey es.toList F.keys with ⟨h1,h2⟩ | ⟨j,e0,h1,h2,h3⟩
 ·refine⟨clock,es.push ⟨key,z,clock⟩,clock+1,?_,λw2 val hw2=>⟨es.push ⟨key,val,clock⟩,clock+1,?_,?_⟩⟩
  ·simp[Instr.mapEntry,run_underlying ht,MapKept.run_getObj_map hb,K.check w false hkey,h1,hz,MapKept.run_setObj_map _ hb,Result.andThen,setBlock]
  ·have hidx:(es.push ⟨key,z,clock⟩).findIdx? (λe=>((e.born:Nat):Int)==((clock:Nat):Int))=some es.size:=by
    rw[findIdx_arr]
    have:=findIdx_born (l:=(es.push ⟨key,z,clock⟩).toList) (j:=es.size) (e0:=⟨key,z,clock⟩) (by
     simp only[Array.toList_push,List.map_append,List.map_cons,List.map_nil];refine List.nodup_append.2 ⟨s2,by simp,λa ha c hc e1=>?_⟩;simp only[List.mem_singleton]at hc;obtain⟨x,hx,rfl⟩:=List.mem_map.1 ha;have:=s1 x hx
     omega) (by simp)
    exact this
   have hmod:(es.push ⟨key,z,clock⟩).modify es.size (λe=>{ e with val:=val })=es.push ⟨key,val,clock⟩:=by
    apply Array.ext';rw[Array.toList_modify,Array.toList_push,Array.toList_push,← Array.length_toList,modify_last]
   simp[Instr.entryStore,MapKept.run_getObj_map hw2,asInt,asIntOf,goInt,hidx,hmod,MapKept.run_setObj_map _ hw2,Result.andThen,setBlock]
  ·simp[Instr.mapUpdate,run_underlying ht,MapKept.run_getObj_map hb,K.check w false hkey,h1,MapKept.run_setObj_map _ hb,Result.andThen,setBlock]
 ·exact absurd h3 (nk e0 (List.mem_of_getElem? h2))
structure EM(P:Program)(t kT e:TypeId){β:Type}(val:β->Value)(dat:β->DataW Unit)(R:Value->Option (DataW Unit×List MemPlace))(z:β):Prop where
 ht:P.underlying t=some (.map kT e)
 hk:P.underlying kT=some (.int .i64)
 hz:∀ w,(zeroValue e).run P w=.ok (val z) w
 hR:∀ x,R (val x)=some (dat x,[])
 inv:∀ v x ps,R v=some (dat x,ps)->v=val x
section
variable{β:Type}(dat:β->DataW Unit)(z:β)
def lC(D:DataW Unit)(f:Int->Option β):Prop:=∀ i,nZ i->Maps.has D (.int .i64 i)=(f i).isSome/\D.atKey (.int .i64 i) (dat z)=dat ((f i).getD z)
def bQ(f:Int->Option β)(i:Int)(x:Option β):Int->Option β:=λj=>if j=i then x else f j
theorem lC.put{D:DataW Unit}{f:Int->Option β}(h:lC dat z D f)(hm:IsMap D){i:Int}{x:β} : lC dat z (D.put (.int .i64 i) (dat x)) (bQ f i (some x)):=by
 intro j hj
 by_cases e:j=i
 ·subst e
  rw[has_put_same hm (by trivial),atKey_put_same hm (by trivial)];simp[bQ]
 ·rw[has_put_other (jJ e),atKey_put_other (jJ e)]
  simpa[bQ,e] using h j hj
theorem lC.del{D:DataW Unit}{f:Int->Option β}(h:lC dat z D f){i:Int} : lC dat z (D.del (.int .i64 i)) (bQ f i none):=by
 intro j hj
 by_cases e:j=i
 ·subst e
  rw[has_del_same,atKey_del_same];simp[bQ]
 ·rw[has_del_other (jJ e),atKey_del_other (jJ e)]
  simpa[bQ,e] using h j hj
end
theorem qY{P:Program}{k:TypeId}{R:Value->Option (DataW Unit×List MemPlace)}{b n:Nat}{D:DataW Unit}{w:World}(h:w.ownsMap P k R b n D):w.ownsMap P k R b (Maps.size D) D:=by
 obtain⟨es,clock,hb,F,hs,rfl⟩:=h;exact⟨es,clock,hb,F,by rw[Maps.size_eq,length_sorted];simp,rfl⟩
section
variable(P:Program)(kT:TypeId){β:Type}(dat:β->DataW Unit)(R:Value->Option (DataW Unit×List MemPlace))(z:β)
def AG(b n:Nat)(f:Int->Option β)(w:World):Prop:=∃ D:DataW Unit,w.ownsMap P kT R b n D/\Maps.size D=n/\lC dat z D f
theorem AG.keep{b n:Nat}{f:Int->Option β}{w w':World}(h:AG P kT dat R z b n f w)(hk:w'.heap[b]? = w.heap[b]?):AG P kT dat R z b n f w':=by
 obtain⟨D,⟨es,clock,h1,h2⟩,h3⟩:=h;exact⟨D,⟨es,clock,by rw[hk];exact h1,h2⟩,h3⟩
def Bc(b n:Nat)(f:Int->Option β):aK where
 p:=λ_ F w=>(∀ j,F j↔j=b)/\AG P kT dat R z b n f w
 keep:=λι F w w' hk ⟨h1,h2⟩=>⟨h1,h2.keep P kT dat R z (hk b ((h1 b).2 rfl))⟩
 mono:=λ_ _ _ _ _ h=>h
def M4(v:Value)(n:Nat)(f:Int->Option β):aK where
 p:=λι F w=>∃ b,v=.map (some b)/\(Bc P kT dat R z b n f).p ι F w
 keep:=λι F w w' hk ⟨b,h0,h⟩=>⟨b,h0,(Bc P kT dat R z b n f).keep ι F w w' hk h⟩
 mono:=λ_ _ _ _ _ h=>h
def K5(t:TypeId)(b n:Nat)(f:Int->Option β)(i:Int)(st:Value)(w:World):Prop :=
 ∃ es clock,w.heap[b]? = some (.map es clock)/\∀ (w2:World) (v:Value) (x:β),R v=some (dat x,[])->w2.heap[b]? = some (.map es clock)->∃ w3,(Instr.entryStore t (.map (some b)) st v).run P w2=.ok () w3/\AG P kT dat R z b (n+1) (bQ f i (some x)) w3/\w2.mapTurned w3 b
def JA(t:TypeId)(b n:Nat)(f:Int->Option β)(i:Int)(st:Value):aK where
 p:=λ_ F w=>(∀ j,F j↔j=b)/\K5 P kT dat R z t b n f i st w
 keep:=λι F w w' hk ⟨h1,es,clock,h2,h3⟩=>⟨h1,es,clock,(hk b ((h1 b).2 rfl)).trans h2,h3⟩
 mono:=λ_ _ _ _ _ h=>h
end
section rows
variable{k:Kn}{P:Program}{g g':Nat}{d0:Option Nat}{l:List aK}{ci:Nat}{t kT e:TypeId}{b n sM sK sV:Nat}{i:Int}{β:Type}{val:β->Value}{dat:β->DataW Unit}{R:Value->Option (DataW Unit×List MemPlace)}{z x:β}{f:Int->Option β}(M:EM P t kT e val dat R z)
include M
theorem dI:Keyed P kT:=int_keyed M.hk
theorem kO(hi:nZ i):keyOf P kT (.int .i64 i)=some (.int .i64 i):=keyOf_int_mk M.hk hi
theorem aJ{a:Value}(hg:k.gs[g]? = some (star l))(hi:l[ci]? = some (Bc P kT dat R z b n f))(hM:k.val sM=.map (some b))(hK:k.val sK=.int .i64 i)(hw:nZ i)(hx:(f i).getD z=x)(hV:∀ ι,letI:aL:=k.sig;aw ι a (val x)):aD k P ⟨[5,t,0],[sy sM,sy sK],none,g,none,a,none⟩:=by
 refine aD.lookup k (b:=false) rfl ?_;letI:aL:=k.sig;intro ι F w d x' y' q hx' hy;obtain⟨Fs,ff,hS,hf,h1,D,h2,h4,h3⟩:=a_ hg hi q;rw[bH hx',bH hy,hM,hK];obtain⟨v,ps,r1,r2⟩:=h2.lookup (dI M) M.ht (M.hz w) (M.hR z) (kO M hw);rw[(h3 i hw).2,hx]at r2;rw[M.inv _ _ _ r2]at r1;exact⟨_,w,r1,hV ι,Below.refl _ _⟩
theorem i_{a:Value}{ok:Bool}(hg:k.gs[g]? = some (star l))(hi:l[ci]? = some (Bc P kT dat R z b n f))(hM:k.val sM=.map (some b))(hK:k.val sK=.int .i64 i)(hw:nZ i)(hx:(f i).getD z=x)(ho:(f i).isSome=ok)(hV:∀ ι,letI:aL:=k.sig;aw ι a (val x)):aD k P ⟨[5,t,1],[sy sM,sy sK],none,g,none,.tuple #[a,.bool ok],none⟩:=by
 refine aD.lookup k (b:=true) rfl ?_;letI:aL:=k.sig;intro ι F w d x' y' q hx' hy;obtain⟨Fs,ff,hS,hf,h1,D,h2,h4,h3⟩:=a_ hg hi q;rw[bH hx',bH hy,hM,hK];obtain⟨v,ps,r1,r2⟩:=h2.look_ok (dI M) M.ht (M.hz w) (M.hR z) (kO M hw);rw[(h3 i hw).2,hx]at r2;rw[M.inv _ _ _ r2,(h3 i hw).1,ho]at r1;refine⟨_,w,r1,?_,Below.refl _ _⟩;refine .tuple _ _ rfl (λj v v' h1 h2=>?_)
 match j with
 | 0=>simp at h1 h2;subst h1 h2;exact hV ι
 | 1=>simp at h1 h2;subst h1 h2;exact .bool ok
 | j+2=>simp at h1
theorem vF(hg:k.gs[g]? = some (star l))(hi:l[ci]? = some (Bc P kT dat R z b n f))(hM:k.val sM=.map (some b))(hV:k.val sV=.int .i64 (n:Int)):aD k P ⟨[10,t],[sy sM],none,g,none,sy sV,none⟩:=by
 refine aD.len k ?_;letI:aL:=k.sig;intro ι F w d x' ty q hx';obtain⟨Fs,ff,hS,hf,h1,D,h2,h4,h3⟩:=a_ hg hi q;rw[bH hx',hM];exact⟨_,w,h2.len M.ht ty,eB (by rw[hV,h4]),Below.refl _ _⟩
theorem fY{w w':World}(h:w.mapTurned w' b){ff:Nat->Prop}(hf:∀ j,ff j↔j=b):Turn ff w w':=by
 have hg:=h.grown;exact⟨hg.os,hg.tape,hg.output,hg.size,λj hj hn=>hg.block j hj (λe=>hn ((hf j).2 (by cases e;rfl)))⟩
theorem kP{v':Value}{n':Nat}(hg:k.gs[g]? = some (star l))(hi:l[ci]? = some (Bc P kT dat R z b n f))(hn':n'=if (f i).isSome then n else n+1)(hg':k.gs[g']? = some (star (l.set ci (Bc P kT dat R z b n' (bQ f i (some x))))))(hM:k.val sM=.map (some b))(hK:k.val sK=.int .i64 i)(hw:nZ i)(hn:n<maxLen)(hV:oC k v' (val x)):aD k P ⟨[6,t],[sy sM,sy sK,v'],none,g,none,undef,some g'⟩:=by
 refine aD.mapUpdate k ?_;letI:aL:=k.sig;intro ι F w d x' y' z' q hx' hy hz;obtain⟨Fs,ff,hS,hf,h1,D,h2,h4,h3⟩:=a_ hg hi q;rw[bH hx',bH hy,hM,hK,hV _ _ hz];have ht:=h2.tidy (dI M);obtain⟨w',r1,r2,r3⟩:=h2.store (dI M) M.ht hn (kO M hw) (M.hR x);have hs:Maps.size (D.put (.int .i64 i) (dat x))=n':=by
  rw[size_put ht,(h3 i hw).1,hn',h4]
 have r2':=qY r2;rw[hs]at r2';refine⟨w',r1,dS hg' hS q.lt hf (bU q) 0 (f':=ff) ⟨h1,_,r2',hs,h3.put dat z h2.isMap⟩ (fY M r3 h1) (λj hj=>⟨?_,.inl hj⟩) (cB _)⟩;rw[(h1 j).1 hj];exact r2.lt
theorem pI{u:TypeId}{n':Nat}(hu:u=kT)(hg:k.gs[g]? = some (star l))(hi:l[ci]? = some (Bc P kT dat R z b n f))(hn':n'+(if (f i).isSome then 1 else 0)=n)(hg':k.gs[g']? = some (star (l.set ci (Bc P kT dat R z b n' (bQ f i none)))))(hM:k.val sM=.map (some b))(hK:k.val sK=.int .i64 i)(hw:nZ i):aD k P ⟨[12,t,u],[sy sM,sy sK],none,g,none,.tuple #[],some g'⟩:=by
 subst hu;refine aD.delete k ?_;letI:aL:=k.sig;intro ι F w d x' y' ty q hx' hy;obtain⟨Fs,ff,hS,hf,h1,D,h2,h4,h3⟩:=a_ hg hi q;rw[bH hx',bH hy,hM,hK];have ht:=h2.tidy (dI M);obtain⟨w',r1,r2,r3⟩:=h2.drop (dI M) M.ht (kO M hw) ty;have hs:Maps.size (D.del (.int .i64 i))=n':=by
  have:=size_del ht (k:=.int .i64 i);rw[(h3 i hw).1,h4]at this;omega
 have r2':=qY r2;rw[hs]at r2';refine⟨_,w',r1,dS hg' hS q.lt hf (bU q) 0 (f':=ff) ⟨h1,_,r2',hs,h3.del dat z⟩ (fY M r3 h1) (λj hj=>⟨?_,.inl hj⟩) (.tuple _ _ rfl (λi v v' h=>by simp at h))⟩;rw[(h1 j).1 hj];exact r2.lt
theorem s7{d1:Nat}{a:Value}(hg:k.gs[g]? = some (star l))(hi:l[ci]? = some (Bc P kT dat R z b n f))(hg':k.gs[g']? = some (star (l.set ci (ce d1 (λv=>JA P kT dat R z t b n f i v)))))(hM:k.val sM=.map (some b))(hK:k.val sK=.int .i64 i)(hw:nZ i)(hn:n<maxLen)(hno:f i=none)(hV:∀ ι,letI:aL:=k.sig;aw ι a (val z)):aD k P ⟨[22,t],[sy sM,sy sK],none,g,some d1,.tuple #[a,.complex .f32 d1 0],some g'⟩:=by
 refine aD.mapEntry k ?_;letI:aL:=k.sig;intro ι F w d x' y' q hx' hy;obtain rfl:=q.name d1 rfl;obtain⟨Fs,ff,hS,hf,h1,D,h2,h4,h3⟩:=a_ hg hi q;rw[bH hx',bH hy,hM,hK];have own:=h2;obtain⟨es,clock,hb,Fi,hs,rfl⟩:=h2;have hh:=(h3 i hw).1;rw[hno]at hh;have nk:∀ x ∈ es.toList,x.key≠.int .i64 i:=by
  rcases fit_look true (dI M) M.ht (M.hz w) hb Fi (kO M hw) with ⟨_,h,_⟩ | ⟨e0,y,_,_,hrun,_,_,_⟩
  ·exact h
  ·obtain⟨v,ps,q1,q2⟩:=own.look_ok (dI M) M.ht (M.hz w) (M.hR z) (kO M hw)
   rw[hh,hrun]at q1;simp at q1
 obtain⟨st,es1,clock1,r1,r2⟩:=AF (dI M) M.ht (λu=>M.hz u) hb Fi (kO M hw) nk;obtain⟨cc,hcc⟩:=ry (st:Int);have ht:=own.tidy (dI M);have hup:(ι.upd d1 cc) d1=some cc:=by simp[ag.upd]
 have hT:w.mapTurned (setBlock w b (.map es1 clock1)) b:=⟨es,clock,es1,clock1,hb,rfl⟩;refine⟨_,_,r1,dS hg' hS q.lt hf (bU q) cc (f':=ff) ⟨cc,hup,h1,es1,clock1,heap_setBlock_same hb _,?_⟩ (fY M hT h1) (λj hj=>⟨?_,.inl hj⟩) ?_⟩
 ·intro w2 v x hR hw2
  obtain⟨es',clock',r3,r4⟩:=r2 w2 v hw2;obtain⟨w',r5,r6,r7⟩:=own.store (dI M) M.ht hn (kO M hw) hR;rw[r4]at r5;simp at r5;subst r5;have hsz:Maps.size (DataW.put (DataW.map ((es.toList.map (rg P kT R)).foldr DataW.insert [])) (.int .i64 i) (dat x))=n+1:=by
   rw[size_put ht,hh,h4];rfl
  refine⟨_,by rw[hcc];exact r3,AG.keep P kT dat R z ⟨_,r6,hsz,h3.put dat z own.isMap⟩ ?_,⟨es1,clock1,es',clock',hw2,rfl⟩⟩;rw[heap_setBlock_same hw2 _,heap_setBlock_same hb _]
 ·rw[(h1 j).1 hj]
  have:=own.lt;simpa[setBlock] using this
 ·refine .tuple _ _ rfl (λj v v' h1 h2=>?_)
  match j with
  | 0=>simp at h1 h2;subst h1 h2;exact hV _
  | 1=>simp at h1 h2;subst h1 h2;exact .dyn d1 cc _ hup hcc
  | j+2=>simp at h1
theorem s9{d2:Nat}{a:Value}(hg:k.gs[g]? = some (star l))(hi:l[ci]? = some (ce d2 (λv=>JA P kT dat R z t b n f i v)))(hg':k.gs[g']? = some (star (l.set ci (Bc P kT dat R z b (n+1) (bQ f i (some x))))))(hM:k.val sM=.map (some b))(hV:oC k a (val x)):aD k P ⟨[23,t],[sy sM,.complex .f32 d2 0,a],none,g,none,undef,some g'⟩:=by
 refine aD.entryStore k ?_;letI:aL:=k.sig;intro ι F w d x' y' z' q hx' hy hz;obtain⟨Fs,ff,hS,hf,cc,hcc,h1,es,clock,hb,h2⟩:=a_ hg hi q;obtain⟨c2,e1,rfl⟩:=qW hy;rw[hcc]at e1;cases e1;rw[bH hx',hM,hV _ _ hz];obtain⟨w3,r1,r2,r3⟩:=h2 w (val x) x (M.hR x) hb;refine⟨w3,r1,dS hg' hS q.lt hf (bU q) 0 (f':=ff) ⟨h1,r2⟩ (fY M r3 h1) (λj hj=>⟨?_,.inl hj⟩) (cB _)⟩;rw[(h1 j).1 hj];obtain⟨D,r4,_⟩:=r2;exact r4.lt
end rows
end Go.Ev
namespace Go.Proofs.Ytankbefdlbcdnaa
open Go.Ev Go.Proofs.Try
open Go.RowKit
theorem jN:prog.follows .mixedOrders=true:=by kernel_rfl
theorem H7:@Ev.bk cP (λ_=>none) #[] #[]:=⟨rfl,λi v v' h=>by simp at h⟩
theorem xy:dL prog (λB=>Ev.isTrue (@Ev.lw cP B (@Ev.E' cP B 200) 6 [] Ev.s0))=true:=by kernel_rfl
theorem qZ(w:World):Calls prog 6 #[] w λe w'=>e=.returned (.bool true)/\Below w.heap.size w w' :=
 @Ev.Av cP _ Try.codeOk (@Ev.Jc cP _) jN 200 _ #[] _ xy H7 w
end Go.Proofs.Ytankbefdlbcdnaa
namespace Go.Proofs.Ytankbefdlbcdnaa
open Go.Ev Go.Proofs.Try
open Go.RowKit
open Go.Ev (sy)
set_option maxRecDepth 8000
theorem pJ{P:Program}{t:TypeId}{z:Value}{n b:Nat}(h:(P.info? t).map (λi=>(i.zero,i.size,i.bytes))=some (some z,n,b)):∃ i,P.info? t=some i/\i.size=n/\i.zero=some z/\i.bytes=b:=by
 cases hi:P.info? t with
 | none=>rw[hi]at h;cases h
 | some i =>
  rw[hi]at h;simp only[Option.map_some,Option.some.injEq,Prod.mk.injEq]at h;exact⟨i,rfl,h.2.1,h.1,h.2.2⟩
theorem aT:∃ i,prog.info? 3 = some i/\i.size=1/\i.zero=some (.int .i64 0)/\i.bytes=8:=pJ (by kernel_rfl)
theorem aG:gS prog 3:=by
 intro b o x w h;simp[Instr.loadAt,Instr.sureAddr,loadVar,isAgg,run_underlying underlying3,h]
theorem cells_one{x:Value}(h:x.oneCell'=true):x.cells = #[x]:=by cases x<;>first | rfl | cases h
theorem bE:mt prog 3:=by
 intro b o x x0 w h hf hc;simp[Instr.storeAt,Instr.sureAddr,storeVar,isAgg,run_underlying underlying3,h,cells_one hc,storeCells,run_store _ _ _ _ _ hc,hf,dY]
theorem aM{n:Int}(h1:-9223372036854775808<=n)(h2:n<=9223372036854775807):IntKind.i64.wrap n=n:=by
 unfold IntKind.wrap;simp[IntKind.signed,IntKind.bits];omega
def aB(xs:List Int):List Value:=xs.map (Value.int .i64)
theorem ao{w:World}{F:Nat->Prop}{l:List aK}{N:Nat}{f:FuncId}{args:Array Value}{tm:List (Nat×Value)}{α:Type}{r:α->Value}{l':α->List aK}{R:Ending->World->Prop}(hp:aI prog f [] 0 N ⟨w,F⟩ tm l r l')(hN:dL prog (λB=>iu B f [] (λfn _=>Nat.beq fn.ntmps N))=true)(h:bu l F w)(ha:args.size<=N)(ht:∀ p ∈ tm,args[p.1]? = some p.2)(hR:∀ x w1,ay ⟨w,F⟩ (l' x) w1->R (.returned (r x)) w1):Calls prog f args w R :=
 bx hN h ha ht (λA hA=>hp A w _ hA hR)
theorem bV{c:eO}{e:TypeId}{sz n:Nat}{v:Value}{xs:List Value}{l:List aK}{w:World}(h:ay c (aO e sz v n xs::l) w):aR v=true:=by
 obtain⟨f,hf⟩:=h.first
 exact dG.leaf hf
theorem tr{N i kk:Nat}{f:FuncId}{p:List Nat}{c:eO}(k:Ev.Kn)(ho:∀ q ∈ k.ops,aD k prog q)(hl:∀ q ∈ k.cls,dn k prog q)(hs:k.ks=[])(rn:List (Nat×Nat))(bl d9:List g_)(g':Nat){gl tT:List aK}(hg:k.gs[0]? = some (Ev.star (cQ c.W c.X::gl)))(hg':k.gs[g']? = some (Ev.star (cQ c.W c.X::tT)))(cH gT:List (Nat×Value))(ex:Exit)(hk:qU rn cH bl gT d9=true:=by kernel_rfl)
  (run:∀ gb:Nat->Value,letI:aL:=k.sig;dL prog (λB=>iu B f p (λ_ c=>Nat.beq (p9 gb N 0 cH).length N&&(Nat.ble N 4094&&(qw 100 rn bl&&vf ex gT d9 g' (jl (p9 gb N 0 cH) 0 .leaf (λt=>fK B 400 N kk ((Ev.flat c).drop i) t (jF (dc bl 0) 100)))))))=true:=by intro gb;kernel_rfl) :
  letI:aL:=k.sig;dH prog f p i kk N c (cH.map (EH (bh rn))) (bl.map (fz (bh rn))++gl) ex (λκ:ag=>gT.map (EH (sX rn κ))) (λκ:ag=>d9.map (fz (sX rn κ))++tT.map (kM (sX rn κ))) :=
 Ns Try.codeOk jN k (Ev.Kn.ok k (λq hq=>by rw[hs]at hq;cases hq) ho hl) (n:=400) (m:=100) rn bl d9 0 g' gl tT hg hg' cH gT ex hk run
theorem br{N i:Nat}{f:FuncId}{p:List Nat}{c:eO}(kk:Nat)(k:Ev.Kn)(ho:∀ q ∈ k.ops,aD k prog q)(hl:∀ q ∈ k.cls,dn k prog q)(hs:k.ks=[])(rn:List (Nat×Nat))(bl d9:List g_)(g':Nat){gl tT:List aK}(hg:k.gs[0]? = some (Ev.star (cQ c.W c.X::gl)))(hg':k.gs[g']? = some (Ev.star (cQ c.W c.X::tT)))(cH:List (Nat×Value))(r:Value)(hk:qU rn cH bl [(0,r)] d9=true:=by kernel_rfl)
  (run:∀ gb:Nat->Value,letI:aL:=k.sig;dL prog (λB=>iu B f p (λfn c=>Nat.beq (p9 gb N 0 cH).length N&&(Nat.beq fn.ntmps N&&(Nat.ble N 4094&&(qw 100 rn bl&&((d9.all (λq=>Nat.beq (q.1%4) 0)&&Ev.isNil ((Ev.flat c).drop (i+kk)))&&qS r d9 (some g') (jl (p9 gb N 0 cH) 0 .leaf (λt=>sx B.P fn (fK B 400 N kk ((Ev.flat c).drop i) t (jF (dc bl 0) 100))))))))))=true:=by intro gb;kernel_rfl) :
  letI:aL:=k.sig;aI prog f p i N c (cH.map (EH (bh rn))) (bl.map (fz (bh rn))++gl) (λκ:ag=>dZ 3 (sX rn κ) r) (λκ:ag=>d9.map (fz (sX rn κ))++tT.map (kM (sX rn κ))) :=
 K4 Try.codeOk jN k (Ev.Kn.ok k (λq hq=>by rw[hs]at hq;cases hq) ho hl) (n:=400) (m:=100) (kk:=kk) rn bl d9 0 g' gl tT hg hg' cH r hk run
end Go.Proofs.Ytankbefdlbcdnaa
namespace Go.Ev
theorem K6{k:Kn}{ι:ag}{d cd:Nat}(h:ι d=some cd):letI:aL:=k.sig;aw ι (.complex .f32 d 0) (dec cd):=by
 letI:aL:=k.sig;exact .dyn d cd _ h rfl
theorem JB{k:Kn}{ι:ag} : letI:aL:=k.sig;aw ι (.tuple #[]) (.tuple #[]):=by
 letI:aL:=k.sig;exact .tuple _ _ rfl (λi v v' h1 h2=>by simp at h1)
end Go.Ev
