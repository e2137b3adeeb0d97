/- Part of a proof: see the last text. -/
import Derived.Test.YtkmccgombmogmaaGreatZf13
set_option linter.unusedSectionVars false
set_option linter.unusedSimpArgs false
set_option linter.unusedVariables false
namespace Go.Ev
open Go.RowKit
def gp(w0:World)(X:Nat->Prop):aF where
 p:=λ_ F w=>(∀ j,F j↔j<w0.heap.size/\¬ X j)/\∀ j,j<w0.heap.size->¬ X j->w.heap[j]? = w0.heap[j]?
 keep:=λι F w w' hk ⟨h1,h3⟩=>⟨h1,λj hj hx=>(hk j ((h1 j).2 ⟨hj,hx⟩)).trans (h3 j hj hx)⟩
 mono:=λ_ _ _ _ _ h=>h
abbrev QM(w0:World):aF:=gp w0 (λ_=>False)
def JZ(X:Nat->Prop):Value->Prop
 | .slice (some ⟨b,_,_⟩) n _=>0<n->¬ X b
 | _=>True
theorem J0(v:Value):JZ (λ_=>False) v:=by
 unfold JZ
 split
 ·exact λ_ h=>h
 ·trivial
def iM(sz:Nat)(v:Value)(n:Nat)(xs:List Value)(w0:World):Prop :=
 xs.length=n*sz/\((n=0/\∃ a c,v=.slice a 0 c)\/∃ b off c,v=.slice (some ⟨b,off,none⟩) n c/\(b<w0.heap.size/\n<=c)/\∀ j,j<n*sz->w0.cell? ⟨b,off+j,none⟩=xs[j]?)
def dc(v:Value)(m:Nat):Value :=
 match v with
 | .slice (some ⟨b,off,_⟩) _ _=>.pointer (some ⟨b,off+m,none⟩)
 | _=>.pointer none
theorem aJ(v:Value)(m:Nat):aT (dc v m)=true:=by
 unfold dc
 split<;>rfl
theorem iM.leaf{sz n:Nat}{v:Value}{xs:List Value}{w0:World}(h:iM sz v n xs w0):aT v=true:=by
 obtain⟨_,⟨_,a,c,rfl⟩ | ⟨b,off,c,rfl,_⟩⟩:=h<;>rfl
theorem F6{w w0:World}{X:Nat->Prop}{b o:Nat}(hb:b<w0.heap.size)(hx:¬ X b)(h:∀ j,j<w0.heap.size->¬ X j->w.heap[j]? = w0.heap[j]?):w.cell? ⟨b,o,none⟩=w0.cell? ⟨b,o,none⟩:=by
 simp only[World.cell?,h b hb hx]
section rows
variable{k:Kn}{P:Program}{g:Nat}{l:List aF}{ci:Nat}{w0:World}{X:Nat->Prop}{t e:TypeId}{sL sI sP sQ sV n sz m:Nat}{v:Value}{xs:List Value}
theorem jJ{ι:am}{m:Nat}{x':Value}(h:letI:bB:=k.sig;aq ι (sy m) x'):x'=k.val m:=by
 letI:bB:=k.sig;cases h with
 | sym n m' _ h=>exact h.symm
theorem oJ{ι:am}{m:Nat}{x':Value}(h:k.val m=x'):letI:bB:=k.sig;aq ι (sy m) x':=by
 letI:bB:=k.sig;exact .sym m 0 x' h
def B1(P:Program)(t:TypeId):Prop:=∀ b o x (w:World),w.cell? ⟨b,o,none⟩=some x->(Instr.loadAt t (.pointer (some ⟨b,o,none⟩))).run P w=.ok x w
end rows
def oK(w0:World)(X:Nat->Prop)(w:World):Prop:=∀ j,j<w0.heap.size->¬ X j->w.heap[j]? = w0.heap[j]?
theorem iM.old{sz n:Nat}{v:Value}{xs:List Value}{w0 w:World}{X:Nat->Prop}(h:iM sz v n xs w0)(ho:oK w0 X w)(hX:JZ X v:=by first | assumption | exact Go.Ev.J0 _):iM sz v n xs w:=by
 obtain⟨h1,h2 | ⟨b,off,c,e,⟨hb,hcap⟩,hc⟩⟩:=h
 ·exact⟨h1,.inl h2⟩
 ·subst e
  rcases Nat.eq_zero_or_pos n with h0 | h0
  ·subst h0
   exact⟨h1,.inl ⟨rfl,_,_,rfl⟩⟩
  have hX:=hX h0;have hlt:b<w.heap.size:=by
   have e1:=ho b hb hX;rw[Array.getElem?_eq_getElem hb]at e1;exact(Array.getElem?_eq_some_iff.1 e1).1
  exact⟨h1,.inr ⟨b,off,c,rfl,⟨hlt,hcap⟩,λj hj=>by rw[F6 hb hX ho];exact hc j hj⟩⟩
def Ee(k:Kn)(x v:Value):Prop:=∀ ι x',(letI:bB:=k.sig;aq ι x x')->x'=v
theorem g_{k:Kn}{m:Nat}{v:Value}(h:k.val m=v):Ee k (sy m) v:=λι x' hx=>by rw[jJ hx,h]
theorem F7{k:Kn}{kd:IntKind}{m:Int} : Ee k (.int kd m) (.int kd m):=λι x' hx=>by
 letI:bB:=k.sig;cases hx with
 | int=>rfl
theorem oL{k:Kn}{P:Program}{g:Nat}{t u:TypeId}{x y:Value}{sV:Nat}{kd:IntKind}{a b:Int}(hx:Ee k x (.int kd a))(hy:Ee k y (.int kd b))(hV:k.val sV=.int kd (min a b)):bw k P ⟨[16,t,u],[x,y],none,g,none,sy sV,none⟩:=by
 refine bw.min k ?_;letI:bB:=k.sig;intro ι F w d x' y' ty q h1 h2;rw[hx _ _ h1,hy _ _ h2];refine⟨_,w,?_,oJ hV,Below.refl _ _⟩;simp[Builtin.min_,Builtin.min2]
 try (by_cases h:a<=b<;>simp[h,Int.min_def]<;>omega)
theorem J1{k:Kn}{P:Program}{g:Nat}{t u:TypeId}{x y:Value}{sV:Nat}{kd:IntKind}{a b:Int}(hx:Ee k x (.int kd a))(hy:Ee k y (.int kd b))(hV:k.val sV=.int kd (max a b)):bw k P ⟨[17,t,u],[x,y],none,g,none,sy sV,none⟩:=by
 refine bw.max k ?_;letI:bB:=k.sig;intro ι F w d x' y' ty q h1 h2;rw[hx _ _ h1,hy _ _ h2];refine⟨_,w,?_,oJ hV,Below.refl _ _⟩;simp[Builtin.max_,Builtin.max2]
 try (by_cases h:a<=b<;>simp[h,Int.max_def]<;>omega)
def Flat(a:aF):Prop:=∀ ι κ F w,a.p ι F w->a.p κ F w
theorem pS{l:List aF}(h:∀ a ∈ l,Flat a):Flat (star l):=λι κ F w ⟨Fs,q⟩=>⟨Fs,q.len,λi a f h1 h2=>h a (List.mem_of_getElem? h1) ι κ f w (q.holds i a f h1 h2),q.apart,q.all⟩
structure Same(W w:World):Prop where
 os:w.os=W.os
 tape:w.tape=W.tape
 output:w.output=W.output
 size:W.heap.size<=w.heap.size
theorem Same.refl(W:World):Same W W:=⟨rfl,rfl,rfl,Nat.le_refl _⟩
theorem Same.trans{a b c:World}(h:Same a b)(k:Same b c):Same a c:=⟨k.os.trans h.os,k.tape.trans h.tape,k.output.trans h.output,Nat.le_trans h.size k.size⟩
theorem Turn.same{F:Nat->Prop}{w w':World}(h:Turn F w w'):Same w w':=⟨h.os,h.tape,h.output,h.size⟩
structure cL(l:List aF)(F:Nat->Prop)(w:World):Prop where
 st:(star l).p (λ_=>none) F w
 lt:∀ j,F j->j<w.heap.size
theorem cL.gr{k:Kn}{g:Nat}{l:List aF}{F:Nat->Prop}{w:World}(h:cL l F w)(hl:∀ a ∈ l,Flat a)(hg:k.gs[g]? = some (star l))(ι:am):letI:bB:=k.sig;bB.GR g ι F w:=⟨_,hg,pS hl _ _ F w h.st⟩
theorem Left.now{k:Kn}{g:Nat}{l:List aF}{rn:List (Nat×Nat)}{bl:List iA}{F:Nat->Prop}{w w1:World}{κ:am}(h:letI:bB:=k.sig;Left rn bl g F w κ w1)(hl:∀ a ∈ l,Flat a)(hg:k.gs[g]? = some (star l)):∃ F',cL l F' w1/\Same w w1:=by
 letI:bB:=k.sig;obtain⟨F',⟨a,q1,q2⟩,q3,q4⟩:=h.gh;rw[hg]at q1;cases q1;exact⟨F',⟨pS hl _ _ F' w1 q2,λj hj=>(q3 j hj).1⟩,h.turn.same⟩
theorem cL.part{l:List aF}{F:Nat->Prop}{w:World}(h:cL l F w){i:Nat}{a:aF}(hi:l[i]? = some a):∃ f,a.p (λ_=>none) f w:=by
 obtain⟨Fs,q⟩:=h.st;have hlt:i<Fs.length:=by rw[q.len];exact(List.getElem?_eq_some_iff.1 hi).1
 exact⟨_,q.holds i a _ hi (List.getElem?_eq_getElem hlt)⟩
theorem cL.below{l:List aF}{F:Nat->Prop}{w W:World}(h:cL l F w){i:Nat}(hi:l[i]? = some (QM W))(hs:Same W w):Below W.heap.size W w:=by
 obtain⟨f,h1,h3⟩:=h.part hi;exact⟨hs.os,hs.tape,hs.output,hs.size,λj hj=>h3 j hj (λh=>h)⟩
theorem kZ(w:World):cL [] (λ_=>False) w :=
 ⟨⟨[],rfl,(λi a f h=>by cases h),(λi j f f' _ h=>by cases h),λx=>⟨λh=>h.elim,λ⟨i,f,h,_⟩=>by cases h⟩⟩,λj h=>h.elim⟩
theorem bW{a:aF}{l:List aF}{Fa F:Nat->Prop}{w:World}(ha:a.p (λ_=>none) Fa w)(hl:cL l F w)(hlt:∀ j,Fa j->j<w.heap.size)(hd:∀ j,Fa j->¬ F j):cL (a::l) (λj=>Fa j\/F j) w:=by
 obtain⟨⟨Fs,h1,h2,h3,h4⟩,h5⟩:=hl;refine⟨⟨Fa::Fs,by simp[h1],λi b f k1 k2=>?_,λi j f f' hij k1 k2 x hx hx'=>?_,λx=>⟨λh=>?_,λ⟨i,f,k1,k2⟩=>?_⟩⟩,λj hj=>hj.elim (hlt j) (h5 j)⟩
 ·cases i with
  | zero=>cases k1;cases k2;exact ha
  | succ i=>exact h2 i b f (by simpa using k1) (by simpa using k2)
 ·cases i with
  | zero =>
   cases j with
   | zero=>exact hij rfl
   | succ j =>
    cases k1;exact hd x hx ((h4 x).2 ⟨j,f',by simpa using k2,hx'⟩)
  | succ i =>
   cases j with
   | zero =>
    cases k2;exact hd x hx' ((h4 x).2 ⟨i,f,by simpa using k1,hx⟩)
   | succ j=>exact h3 i j f f' (λe=>hij (by rw[e])) (by simpa using k1) (by simpa using k2) x hx hx'
 ·rcases h with h | h
  ·exact⟨0,Fa,rfl,h⟩
  ·obtain⟨i,f,k1,k2⟩:=(h4 x).1 h
   exact⟨i+1,f,by simpa using k1,k2⟩
 ·cases i with
  | zero=>cases k1;exact .inl k2
  | succ i=>exact .inr ((h4 x).2 ⟨i,f,by simpa using k1,k2⟩)
theorem bI{a:aF}{l:List aF}{F:Nat->Prop}{w:World}(h:cL (a::l) F w):∃ Fa Fl,a.p (λ_=>none) Fa w/\cL l Fl w/\(∀ j,Fa j->¬ Fl j)/\∀ j,F j↔Fa j\/Fl j:=by
 obtain⟨⟨Fs,h1,h2,h3,h4⟩,h5⟩:=h
 match Fs,h1 with
 | Fa::Fs,h1 =>
  refine⟨Fa,λj=>∃ (i:Nat) (f:Nat->Prop),Fs[i]? = some f/\f j,h2 0 a Fa rfl rfl,⟨⟨Fs,by simpa using h1,λi b f k1 k2=>h2 (i+1) b f (by simpa using k1) (by simpa using k2),λi j f f' hij k1 k2=>h3 (i+1) (j+1) f f' (by omega) (by simpa using k1) (by simpa using k2),λx=>Iff.rfl⟩,λj ⟨i,f,k1,k2⟩=>h5 j ((h4 j).2 ⟨i+1,f,by simpa using k1,k2⟩)⟩,λj hj ⟨i,f,k1,k2⟩=>h3 0 (i+1) Fa f (by omega) rfl (by simpa using k1) j hj k2,λj=>⟨λhj=>?_,λhj=>?_⟩⟩
  ·obtain⟨i,f,k1,k2⟩:=(h4 j).1 hj
   cases i with
   | zero=>cases k1;exact .inl k2
   | succ i=>exact .inr ⟨i,f,by simpa using k1,k2⟩
  ·rcases hj with hj | ⟨i,f,k1,k2⟩
   ·exact(h4 j).2 ⟨0,Fa,rfl,hj⟩
   ·exact(h4 j).2 ⟨i+1,f,by simpa using k1,k2⟩
theorem cL.of{l:List aF}{F:Nat->Prop}{w:World}{κ:am}(hl:∀ a ∈ l,Flat a)(h:(star l).p κ F w)(hlt:∀ j,F j->j<w.heap.size):cL l F w:=⟨pS hl _ _ F w h,hlt⟩
theorem AI{args:Array Value}{N:Nat}(h:args.size<=N):(args++Array.replicate (N-args.size) undef).size=N:=by
 simp;omega
theorem Dv{args:Array Value}{N i:Nat}{v:Value}(h:args[i]? = some v):(args++Array.replicate (N-args.size) undef).getD i undef=v:=by
 have hi:=(Array.getElem?_eq_some_iff.1 h).1;rw[Array.getD_eq_getD_getElem?,Array.getElem?_append_left hi,h];rfl
structure dt where
 W:World
 X:Nat->Prop
def yK(κ:am)(a:aF):aF where
 p:=λ_ F w=>a.p κ F w
 keep:=λ_ F w w' hk h=>a.keep κ F w w' hk h
 mono:=λ_ _ _ _ _ h=>h
def aE(b:Nat)(cs:List Value)(T:TypeId):aF where
 p:=λ_ F w=>(∀ j,F j↔j=b)/\w.heap[b]? = some (.cells cs.toArray T (0,0))
 keep:=λ_ F w w' hk ⟨h1,h2⟩=>⟨h1,(hk b ((h1 b).2 rfl)).trans h2⟩
 mono:=λ_ _ _ _ _ h=>h
def jS(d:Nat)(a:Value->aF):aF where
 p:=λι F w=>∃ c,ι d=some c/\(a (dec c)).p ι F w
 keep:=λι F w w' hk ⟨c,h1,h2⟩=>⟨c,h1,(a (dec c)).keep ι F w w' hk h2⟩
 mono:=λι κ F w hle ⟨c,h1,h2⟩=>⟨c,hle _ _ h1,(a (dec c)).mono ι κ F w hle h2⟩
def J2:aF where
 p:=λ_ F _=>∀ j,¬ F j
 keep:=λ_ _ _ _ _ h=>h
 mono:=λ_ _ _ _ _ h=>h
theorem cP{l:List aF}{F G:Nat->Prop}{w:World}(h:cL l F w)(e:∀ j,F j↔G j):cL l G w:=by
 rw[← show F=G from funext λj=>propext (e j)];exact h
theorem fe:∀ {l m:List aF} {F G:Nat->Prop} {w:World},cL l F w->cL m G w->(∀ j,F j->¬ G j)->cL (l++m) (λj=>F j\/G j) w:=by
 intro l
 induction l with
 | nil =>
  intro m F G w h1 h2 hd;refine cP h2 (λj=>⟨.inr,λh=>h.elim (λh=>?_) id⟩);obtain⟨⟨Fs,e1,e2,e3,e4⟩,_⟩:=h1;obtain⟨i,f,k1,k2⟩:=(e4 j).1 h;have:Fs=[]:=List.eq_nil_of_length_eq_zero e1;rw[this]at k1;cases k1
 | cons a l ih =>
  intro m F G w h1 h2 hd;obtain⟨Fa,Fl,k1,k2,k3,k4⟩:=bI h1;refine cP (bW k1 (ih k2 h2 (λj hj=>hd j ((k4 j).2 (.inr hj)))) (λj hj=>h1.lt j ((k4 j).2 (.inl hj))) (λj hj hh=>hh.elim (k3 j hj) (hd j ((k4 j).2 (.inl hj))))) (λj=>?_);rw[k4 j];exact⟨λh=>h.elim (λh=>.inl (.inl h)) (λh=>h.elim (λh=>.inl (.inr h)) .inr),λh=>h.elim (λh=>h.elim .inl (λh=>.inr (.inl h))) (λh=>.inr (.inr h))⟩
theorem cV:∀ {l m:List aF} {F:Nat->Prop} {w:World},cL (l++m) F w->∃ F1 F2,cL l F1 w/\cL m F2 w/\(∀ j,F1 j->¬ F2 j)/\∀ j,F j↔F1 j\/F2 j:=by
 intro l
 induction l with
 | nil=>intro m F w h;exact⟨λ_=>False,F,kZ w,h,λ_ h=>h.elim,λj=>⟨.inr,λh=>h.elim False.elim id⟩⟩
 | cons a l ih =>
  intro m F w h;obtain⟨Fa,Fl,k1,k2,k3,k4⟩:=bI h;obtain⟨F1,F2,e1,e2,e3,e4⟩:=ih k2;refine⟨λj=>Fa j\/F1 j,F2,bW k1 e1 (λj hj=>h.lt j ((k4 j).2 (.inl hj))) (λj hj hh=>k3 j hj ((e4 j).2 (.inl hh))),e2,λj hj hh=>hj.elim (λhj=>k3 j hj ((e4 j).2 (.inr hh))) (λhj=>e3 j hj hh),λj=>?_⟩;rw[k4 j,e4 j];exact⟨λh=>h.elim (λh=>.inl (.inl h)) (λh=>h.elim (λh=>.inl (.inr h)) .inr),λh=>h.elim (λh=>h.elim .inl (λh=>.inr (.inl h))) (λh=>.inr (.inr h))⟩
theorem fg{l:List aF}{F:Nat->Prop}{w w':World}(h:cL l F w)(hk:∀ j,F j->w'.heap[j]? = w.heap[j]?)(hs:w.heap.size<=w'.heap.size):cL l F w' :=
 ⟨(star l).keep _ F w w' hk h.st,λj hj=>Nat.lt_of_lt_of_le (h.lt j hj) hs⟩
theorem B_{l m:List aF}{F:Nat->Prop}{w:World}(h:cL l F w)(hl:m.length=l.length)(hm:∀ (i:Nat) a b f,l[i]? = some a->m[i]? = some b->a.p (λ_=>none) f w->b.p (λ_=>none) f w):cL m F w:=by
 obtain⟨⟨Fs,q⟩,lt⟩:=h;refine⟨⟨Fs,by rw[q.len,hl],λi b f h1 h2=>?_,q.apart,q.all⟩,lt⟩;have hi:i<l.length:=by rw[← hl];exact(List.getElem?_eq_some_iff.1 h1).1
 exact hm i l[i] b f (List.getElem?_eq_getElem hi) h1 (q.holds i _ f (List.getElem?_eq_getElem hi) h2)
theorem wu{l:List aF}{κ:am}{F:Nat->Prop}{w:World}(h:(star l).p κ F w)(lt:∀ j,F j->j<w.heap.size):cL (l.map (yK κ)) F w:=by
 obtain⟨Fs,q⟩:=h;refine⟨⟨Fs,by rw[q.len,List.length_map],λi b f h1 h2=>?_,q.apart,q.all⟩,lt⟩;rw[List.getElem?_map]at h1;cases hi:l[i]? with
 | none=>rw[hi]at h1;cases h1
 | some a =>
  rw[hi]at h1;cases h1;exact q.holds i a f hi h2
noncomputable def AJ(i:Nat):List Nat->Bool
 | []=>false
 | j::l=>Nat.beq i j||AJ i l
theorem rY{i:Nat} : ∀ {l:List Nat},AJ i l=false->i ∉ l
 | [],_,h=>by cases h
 | j::l,h,hm=>by
  have h':(Nat.beq i j||AJ i l)=false:=h;rw[Bool.or_eq_false_iff]at h';rcases List.mem_cons.1 hm with e | hm
  ·subst e
   rw[Nat.beq_refl]at h';cases h'.1
  ·exact rY h'.2 hm
noncomputable def nM(n:Nat):List Nat->Bool
 | []=>true
 | i::l=>Nat.blt i n&&(!(AJ i l)&&nM n l)
theorem Ca{n:Nat} : ∀ {l:List Nat},nM n l=true->(∀ i ∈ l,i<n)/\l.Nodup
 | [],_=>⟨(λi h=>by cases h),List.nodup_nil⟩
 | i::l,h=>by
  have h':(Nat.blt i n&&(!(AJ i l)&&nM n l))=true:=h;simp only[Bool.and_eq_true,Bool.not_eq_true']at h';obtain⟨k1,k2⟩:=Ca h'.2.2;refine⟨λj hj=>?_,List.nodup_cons.2 ⟨rY h'.2.1,k2⟩⟩;rcases List.mem_cons.1 hj with rfl | hj
  ·exact Nat.le_of_ble_eq_true h'.1
  ·exact k1 j hj
def sel(l:List aF)(idx:List Nat):List aF:=idx.map λi=>l.getD i J2
theorem wy{l:List aF}{F:Nat->Prop}{w:World}(h:cL l F w)(idx:List Nat)(hi:nM l.length idx=true):∃ F',cL (sel l idx) F' w/\∀ j,F' j->F j:=by
 obtain⟨h1,h2⟩:=Ca hi;obtain⟨⟨Fs,q⟩,lt⟩:=h;have key:∀ (i:Nat) f,(idx.map λi=>Fs.getD i (λ_=>False))[i]? = some f->∃ k,idx[i]? = some k/\Fs[k]? = some f:=by
  intro i f hf;rw[List.getElem?_map]at hf;cases hk:idx[i]? with
  | none=>rw[hk]at hf;cases hf
  | some k =>
   rw[hk]at hf;have hlt:k<Fs.length:=by rw[q.len];exact h1 k (List.mem_of_getElem? hk)
   refine⟨k,rfl,?_⟩;rw[List.getElem?_eq_getElem hlt];have:Fs.getD k (λ_=>False)=f:=Option.some.inj hf;rw[List.getD_eq_getElem?_getD,List.getElem?_eq_getElem hlt]at this;exact congrArg some this
 refine⟨λx=>∃ (i:Nat) (f:Nat->Prop),(idx.map λi=>Fs.getD i (λ_=>False))[i]? = some f/\f x,⟨⟨idx.map λi=>Fs.getD i (λ_=>False),by simp[sel],λi a f k1 k2=>?_,λi j f f' hij k1 k2 x hx hx'=>?_,λx=>Iff.rfl⟩,?_⟩,?_⟩
 ·obtain⟨k,e1,e2⟩:=key i f k2
  unfold sel at k1;rw[List.getElem?_map,e1]at k1;have hlt:k<l.length:=h1 k (List.mem_of_getElem? e1);have:l.getD k J2=a:=Option.some.inj k1;rw[List.getD_eq_getElem?_getD,List.getElem?_eq_getElem hlt]at this;exact q.holds k a f (by rw[List.getElem?_eq_getElem hlt];exact congrArg some this) e2
 ·obtain⟨k,e1,e2⟩:=key i f k1
  obtain⟨k',Jb,e2'⟩:=key j f' k2;refine q.apart k k' f f' (λe=>hij ?_) e2 e2' x hx hx';subst e;exact(List.getElem?_inj (List.getElem?_eq_some_iff.1 e1).1 h2).1 (e1.trans Jb.symm)
 ·rintro j ⟨i,f,k1,k2⟩
  obtain⟨k,e1,e2⟩:=key i f k1;exact lt j ((q.all j).2 ⟨k,f,e2,k2⟩)
 ·rintro j ⟨i,f,k1,k2⟩
  obtain⟨k,e1,e2⟩:=key i f k1;exact(q.all j).2 ⟨k,f,e2,k2⟩
structure af(c:dt)(l:List aF)(w:World):Prop where
 ex:∃ F,cL l F w/\Turn c.X c.W w/\∀ j,F j->c.X j\/c.W.heap.size<=j
theorem af.start{l:List aF}{F:Nat->Prop}{w:World}(h:cL l F w):af ⟨w,F⟩ l w:=⟨⟨F,h,⟨rfl,rfl,rfl,Nat.le_refl _,λ_ _ _=>rfl⟩,λ_ h=>.inl h⟩⟩
theorem af.sel{c:dt}{l:List aF}{w:World}(h:af c l w)(idx:List Nat)(hi:nM l.length idx=true:=by kernel_rfl):af c (Ev.sel l idx) w:=by
 obtain⟨F,h1,h2,h3⟩:=h.ex;obtain⟨F',k1,k2⟩:=wy h1 idx hi;exact⟨⟨F',k1,h2,λj hj=>h3 j (k2 j hj)⟩⟩
theorem af.old{c:dt}{l:List aF}{w:World}(h:af c l w):oK c.W c.X w:=by
 obtain⟨F,h1,h2,h3⟩:=h.ex;exact λj hj hx=>h2.block j hj hx
theorem af.same{c:dt}{l:List aF}{w:World}(h:af c l w):Same c.W w:=by
 obtain⟨F,h1,h2,h3⟩:=h.ex;exact h2.same
theorem af.head{c:dt}{a b:aF}{l:List aF}{w:World}(h:af c (a::l) w)(hab:∀ f,a.p (λ_=>none) f w->b.p (λ_=>none) f w):af c (b::l) w:=by
 obtain⟨F,h1,h2,h3⟩:=h.ex;obtain⟨Fa,Fl,k1,k2,k3,k4⟩:=bI h1;exact⟨⟨F,cP (bW (hab Fa k1) k2 (λj hj=>h1.lt j ((k4 j).2 (.inl hj))) k3) (λj=>(k4 j).symm),h2,h3⟩⟩
theorem af.yL{c:dt}{a:aF}{l:List aF}{w:World}{β:Type}{b:β->aF}{p:β->Prop}(h:af c (a::l) w)(hab:∀ f,a.p (λ_=>none) f w->∃ x,p x/\(b x).p (λ_=>none) f w):∃ x,p x/\af c (b x::l) w:=by
 obtain⟨F,h1,h2,h3⟩:=h.ex;obtain⟨Fa,Fl,k1,k2,k3,k4⟩:=bI h1;obtain⟨x,hx,k1'⟩:=hab Fa k1;exact⟨x,hx,⟨⟨F,cP (bW k1' k2 (λj hj=>h1.lt j ((k4 j).2 (.inl hj))) k3) (λj=>(k4 j).symm),h2,h3⟩⟩⟩
theorem af.first{c:dt}{a:aF}{l:List aF}{w:World}(h:af c (a::l) w):∃ f,a.p (λ_=>none) f w:=by
 obtain⟨F,h1,h2,h3⟩:=h.ex;obtain⟨Fa,Fl,k1,k2,k3,k4⟩:=bI h1;exact⟨Fa,k1⟩
theorem af.into{c:dt}{l m:List aF}{F:Nat->Prop}{w w':World}(h:af ⟨w,F⟩ m w')(hc:Turn c.X c.W w)(hF:∀ j,F j->c.X j\/c.W.heap.size<=j):af c m w':=by
 obtain⟨G,h1,h2,h3⟩:=h.ex;refine⟨⟨G,h1,⟨h2.os.trans hc.os,h2.tape.trans hc.tape,h2.output.trans hc.output,Nat.le_trans hc.size h2.size,λj hj hn=>?_⟩,λj hj=>?_⟩⟩
 ·refine(h2.block j (Nat.lt_of_lt_of_le hj hc.size) (λhf=>?_)).trans (hc.block j hj hn)
  rcases hF j hf with h | h
  ·exact hn h
  ·omega
 ·rcases h3 j hj with h | h
  ·exact hF j h
  ·exact .inr (Nat.le_trans hc.size h)
theorem af.below{c:dt}{l:List aF}{w:World}(h:af c l w)(hX:∀ j,¬ c.X j):Below c.W.heap.size c.W w:=by
 obtain⟨F,h1,h2,h3⟩:=h.ex;exact⟨h2.os,h2.tape,h2.output,h2.size,λj hj=>h2.block j hj (hX j)⟩
def rZ[bB](κ:am):Value->Value
 | .map (some id)=>.map (some ((κ id).getD 0))
 | .slice (some ⟨id,off,none⟩) n c=>.slice (some ⟨(κ id).getD 0,off,none⟩) n c
 | v=>tw κ v
def fS[bB]:Nat->am->Value->Value
 | 0,κ,v=>rZ κ v
 | n+1,κ,v=>match v with
  | .agg f=>.agg (f.toList.map (fS n κ)).toArray
  | .tuple f=>.tuple (f.toList.map (fS n κ)).toArray
  | .iface t v=>.iface t (fS n κ v)
  | .func fn f c=>.func fn (f.toList.map (fS n κ)).toArray (c.toList.map (fS n κ)).toArray
  | v=>rZ κ v
def mK:Fn->Bool
 | .yield _=>true
 | _=>false
def OE:Value->Bool
 | .map (some _)=>true
 | .slice (some ⟨id,_,none⟩) _ _=>!(iV id)
 | v=>ME v
def zB:Nat->Value->Bool
 | 0,v=>OE v
 | n+1,v=>match v with
  | .agg f=>f.toList.all (zB n)
  | .tuple f=>f.toList.all (zB n)
  | .iface _ v=>zB n v
  | .func fn f c=>!(mK fn)&&(f.toList.all (zB n)&&c.toList.all (zB n))
  | v=>OE v
def PX(rn:List (Nat×Nat)):Value->Bool
 | .map (some id)=>(bL rn id).isSome
 | .pointer (some ⟨id,_,none⟩)=>(bL rn id).isSome
 | .pointer none | .slice none 0 0 | .map none | .nilFunc | .nilIface=>true
 | v=>eT v
def yM(rn:List (Nat×Nat)):Nat->Value->Bool
 | 0,v=>PX rn v
 | n+1,v=>match v with
  | .agg f=>f.toList.all (yM rn n)
  | .tuple f=>f.toList.all (yM rn n)
  | .iface _ v=>yM rn n v
  | .func fn f c=>!(mK fn)&&(f.toList.all (yM rn n)&&c.toList.all (yM rn n))
  | v=>PX rn v
theorem yN{κ:am}[bB]{v v':Value}(h:aq κ v v')(hk:OE v=true):v'=rZ κ v:=by
 cases h with
 | map id b h=>simp[rZ,h]
 | slice id off b n c c' h h0 h1 h2 h3 =>
  have hg:iV id=false:=by simpa[OE] using hk
  rw[← h0 hg];simp[rZ,h]
 | dK id off b h h0=>simp[rZ,h]
 | ptr id off b h=>exact oF (.ptr id off b h) hk
 | pu=>rfl
 | dF=>rfl
 | nt=>rfl
 | nilFunc=>rfl
 | nilIface=>rfl
 | sym n m _ h=>exact oF (κ:=κ) (.sym n m _ h) hk
 | dyn id c _ h h'=>exact oF (.dyn id c _ h h') hk
 | qW id c j _ h h'=>exact oF (.qW id c j _ h h') hk
 | bool=>rfl
 | int=>rfl
 | float=>rfl
 | string=>rfl
 | _=>first | cases hk | (simp[OE,ME,eT]at hk)
theorem r6{κ:am}[bB]{n:Nat}{f f':Array Value}(hf:f.size=f'.size)(h:∀ (i:Nat) (v v':Value),f[i]? = some v->f'[i]? = some v'->aq κ v v')(hk:f.toList.all (zB n)=true)(ih:∀ v v',aq κ v v'->zB n v=true->v'=fS n κ v):f'=(f.toList.map (fS n κ)).toArray:=by
 rw[List.all_eq_true]at hk;apply Array.ext (by simp[hf]);intro i h1 h2;have h3:i<f.size:=by rw[hf];exact h1
 rw[ih f[i] f'[i] (h i _ _ (Array.getElem?_eq_getElem h3) (Array.getElem?_eq_getElem h1)) (hk _ (by simp))];simp
theorem r7{κ:am}[bB]:∀ (n:Nat) {v v':Value},aq κ v v'->zB n v=true->v'=fS n κ v:=by
 intro n
 induction n with
 | zero=>exact λh hk=>yN h hk
 | succ n ih =>
  intro v v' h hk;cases v with
  | agg f=>cases h with | agg _ f' hf h=>exact congrArg Value.agg (r6 hf h hk (λv v'=>ih))
  | tuple f=>cases h with | tuple _ f' hf h=>exact congrArg Value.tuple (r6 hf h hk (λv v'=>ih))
  | iface t v=>cases h with | iface _ _ v' h=>exact congrArg (Value.iface t) (ih h hk)
  | func fn f c =>
   have hk':(!(mK fn)&&(f.toList.all (zB n)&&c.toList.all (zB n)))=true:=hk;simp only[Bool.and_eq_true]at hk';cases h with
   | func _ _ f' _ c' hy hf hc h h' =>
    rw[r6 hf h hk'.2.1 (λv v'=>ih),r6 hc h' hk'.2.2 (λv v'=>ih)];rfl
   | yield=>exact absurd hk'.1 (by simp[mK])
  | _=>exact yN h hk
theorem Cb{rn:List (Nat×Nat)}{id:Nat}(h:(bL rn id).isSome=true):bL rn id=some ((bL rn id).getD 0):=by
 cases hr:bL rn id with
 | none=>rw[hr]at h;cases h
 | some b=>rfl
theorem Lu{rn:List (Nat×Nat)}[bB]{v:Value}(hk:PX rn v=true):aq (bL rn) v (rZ (bL rn) v):=by
 unfold PX at hk
 split at hk
 ·exact .map _ _ (Cb hk)
 ·exact .ptr _ _ _ (Cb hk)
 ·exact .pu
 ·exact .dF
 ·exact .nt
 ·exact .nilFunc
 ·exact .nilIface
 ·unfold eT at hk
  split at hk<;>first | exact .bool _ | exact .int _ _ | exact .float _ _ | exact .string _ | exact .sym _ _ _ rfl | contradiction | cases hk
theorem wA{rn:List (Nat×Nat)}[bB]{n:Nat}{f:Array Value}(hk:f.toList.all (yM rn n)=true)(ih:∀ v,yM rn n v=true->aq (bL rn) v (fS n (bL rn) v)):f.size=(f.toList.map (fS n (bL rn))).toArray.size/\∀ (i:Nat) (v v':Value),f[i]? = some v->(f.toList.map (fS n (bL rn))).toArray[i]? = some v'->aq (bL rn) v v':=by
 rw[List.all_eq_true]at hk;refine⟨by simp,λi v v' h1 h2=>?_⟩;simp[h1]at h2;subst h2;exact ih v (hk v (by obtain⟨h3,rfl⟩:=Array.getElem?_eq_some_iff.1 h1;simp))
theorem yO{rn:List (Nat×Nat)}[bB]:∀ (n:Nat) (v:Value),yM rn n v=true->aq (bL rn) v (fS n (bL rn) v):=by
 intro n
 induction n with
 | zero=>exact λv hk=>Lu hk
 | succ n ih =>
  intro v hk;cases v with
  | agg f=>obtain⟨h1,h2⟩:=wA hk ih;exact .agg _ _ h1 h2
  | tuple f=>obtain⟨h1,h2⟩:=wA hk ih;exact .tuple _ _ h1 h2
  | iface t v=>exact .iface _ _ _ (ih _ hk)
  | func fn f c =>
   have hk':(!(mK fn)&&(f.toList.all (yM rn n)&&c.toList.all (yM rn n)))=true:=hk;simp only[Bool.and_eq_true]at hk';obtain⟨h1,h2⟩:=wA hk'.2.1 ih;obtain⟨h3,h4⟩:=wA hk'.2.2 ih;exact .func fn _ _ _ _ (λl e=>by rw[e]at hk';simp[mK]at hk') h1 h3 h2 h4
  | _=>exact Lu hk
def Tm(l:List (Nat×Value))(A:Act):Prop:=∀ p ∈ l,A.tmps.getD p.1 undef=p.2
structure At(c:dt)(N:Nat)(tm:List (Nat×Value))(l:List aF)(A:Act)(w:World):Prop where
 sz:A.tmps.size=N
 df:A.defers=[]
 tm:Tm tm A
 hold:af c l w
def J3(P:Program)(f:FuncId)(p:List Nat)(i k N:Nat)(c:dt)(tm:List (Nat×Value))(l:List aF)(ex:Exit){α:Type}(tm':α->List (Nat×Value))(l':α->List aF):Prop :=
 ∀ (A:Act) (w:World) (Q:Exit->Act->World->Prop),At c N tm l A w->(∀ x A1 w1,At c N (tm' x) (l' x) A1 w1->Exit.then (kA P (mJ P f p (i+k)) Q) Q ex A1 w1)->kA P (mJ P f p i) Q A w
def cw(P:Program)(f:FuncId)(p:List Nat)(i N:Nat)(c:dt)(tm:List (Nat×Value))(l:List aF){α:Type}(r:α->Value)(l':α->List aF):Prop :=
 ∀ (A:Act) (w:World) (R:Ending->World->Prop),At c N tm l A w->(∀ x w1,af c (l' x) w1->R (.returned (r x)) w1)->kA P (mJ P f p i) (bodyPostM Fence.wide 0 P (kV P f) R) A w
def hE[bB](κ:am)(q:iA):aF:=aE ((κ q.1).getD 0) (q.2.1.map (fS 3 κ)) q.2.2
def I4[bB](κ:am)(p:Nat×Value):Nat×Value:=(p.1,fS 3 κ p.2)
noncomputable def F8:List Nat->Bool
 | []=>true
 | i::l=>!(AJ i l)&&F8 l
theorem wB:∀ {l:List Nat},F8 l=true->l.Nodup
 | [],_=>List.nodup_nil
 | i::l,h=>by
  have h':(!(AJ i l)&&F8 l)=true:=h;simp only[Bool.and_eq_true,Bool.not_eq_true']at h';exact List.nodup_cons.2 ⟨rY h'.1,wB h'.2⟩
noncomputable def ut(rn:List (Nat×Nat))(dP:List (Nat×Value))(bl:List iA)(jK:List (Nat×Value))(fX:List iA):Bool :=
 NG (rn.map Prod.fst) (bl.map Prod.fst)&&(F8 (rn.map Prod.fst)&&(F8 (fX.map Prod.fst)&&(dP.all (λp=>yM rn 3 p.2)&&(bl.all (λq=>q.2.1.all (yM rn 3))&&(jK.all (λp=>zB 3 p.2)&&fX.all (λq=>q.2.1.all (zB 3)))))))
theorem oM:∀ {rn:List (Nat×Nat)},(rn.map Prod.fst).Nodup->∀ {p:Nat×Nat},p ∈ rn->bL rn p.1=some p.2
 | [],_,p,h=>by cases h
 | q::rn,hn,p,h=>by
  rw[List.map_cons,List.nodup_cons]at hn;unfold bL;rw[List.find?_cons];rcases List.mem_cons.1 h with e | h
  ·subst e
   simp
  ·have hne:(q.1==p.1)=false:=by
    have:q.1≠p.1:=λe=>hn.1 (by rw[e];exact List.mem_map_of_mem h)
    simpa using this
   rw[hne];exact oM hn.2 h
theorem J4{rn:List (Nat×Nat)}[bB]{bl:List iA}{gl:List aF}{F:Nat->Prop}{w:World}(AH:rn.map Prod.fst=bl.map Prod.fst)(hn:(rn.map Prod.fst).Nodup)(hk:∀ q ∈ bl,∀ v ∈ q.2.1,yM rn 3 v=true)(h:cL (bl.map (hE (bL rn))++gl) F w) :
  ∃ F',wk rn bl F' w/\cL gl F' w/\∀ j,F j↔(∃ p ∈ rn,p.2=j)\/F' j:=by
 obtain⟨F1,F2,h1,h2,h3,h4⟩:=cV h;obtain⟨⟨Fs,q⟩,lt⟩:=h1;have hmem:∀ x ∈ bl,∃ b,(x.1,b) ∈ rn/\bL rn x.1=some b:=λx hx=>by
  have:x.1 ∈ rn.map Prod.fst:=by rw[AH];exact List.mem_map_of_mem hx
  obtain⟨p,hp,e⟩:=List.mem_map.1 this;exact⟨p.2,by rw[← e];exact hp,by rw[← e];exact oM hn hp⟩
 have hback:∀ p ∈ rn,∃ x ∈ bl,x.1=p.1:=λp hp=>by
  have:p.1 ∈ bl.map Prod.fst:=by rw[← AH];exact List.mem_map_of_mem hp
  obtain⟨x,hx,e⟩:=List.mem_map.1 this;exact⟨x,hx,e⟩
 have part:∀ (i:Nat) x,bl[i]? = some x->∃ f,Fs[i]? = some f/\(∀ j,f j↔j=(bL rn x.1).getD 0)/\w.heap[(bL rn x.1).getD 0]? = some (.cells (x.2.1.map (fS 3 (bL rn))).toArray x.2.2 (0,0)):=by
  intro i x hx;have hl:(bl.map (hE (bL rn)))[i]? = some (hE (bL rn) x):=by rw[List.getElem?_map,hx];rfl
  have hlt:i<Fs.length:=by rw[q.len];exact(List.getElem?_eq_some_iff.1 hl).1
  have:=q.holds i _ _ hl (List.getElem?_eq_getElem hlt);exact⟨_,List.getElem?_eq_getElem hlt,this.1,this.2⟩
 have hF1:∀ j,F1 j↔∃ p ∈ rn,p.2=j:=by
  intro j;rw[q.all];constructor
  ·rintro⟨i,f,k1,k2⟩
   have hlt:i<bl.length:=by have:=(List.getElem?_eq_some_iff.1 k1).1;rw[q.len]at this;simpa using this
   obtain⟨f',e1,e2,e3⟩:=part i bl[i] (List.getElem?_eq_getElem hlt);rw[k1]at e1;cases e1;obtain⟨b,m1,m2⟩:=hmem bl[i] (by simp);rw[m2]at e2;exact⟨_,m1,((e2 j).1 k2).symm⟩
  ·rintro⟨p,hp,e⟩
   obtain⟨x,hx,ex⟩:=hback p hp;obtain⟨i,hi,ei⟩:=List.getElem_of_mem hx;obtain⟨f',e1,e2,e3⟩:=part i x (by rw[List.getElem?_eq_getElem hi,ei]);refine⟨i,f',e1,(e2 j).2 ?_⟩;rw[ex,oM hn hp];exact e.symm
 refine⟨F2,⟨λx hx=>?_,λp hp p' hp' e=>?_,λp hp hf=>h3 p.2 ((hF1 _).2 ⟨p,hp,rfl⟩) hf⟩,h2,λj=>by rw[h4 j,hF1 j]⟩
 ·obtain⟨i,hi,ei⟩:=List.getElem_of_mem hx
  obtain⟨f',e1,e2,e3⟩:=part i x (by rw[List.getElem?_eq_getElem hi,ei]);obtain⟨b,m1,m2⟩:=hmem x hx;rw[m2]at e3;refine⟨b,x.2.1.map (fS 3 (bL rn)),m2,e3,by simp,λi v v' a1 a2=>?_⟩;rw[List.getElem?_map,a1]at a2;cases a2;exact yO 3 v (hk x hx v (List.mem_of_getElem? a1))
 ·obtain⟨x,hx,ex⟩:=hback p hp
  obtain⟨x',hx',ex'⟩:=hback p' hp';obtain⟨i,hi,ei⟩:=List.getElem_of_mem hx;obtain⟨i',hi',RZ⟩:=List.getElem_of_mem hx';obtain⟨f,a1,a2,_⟩:=part i x (by rw[List.getElem?_eq_getElem hi,ei]);obtain⟨f',b1,b2,_⟩:=part i' x' (by rw[List.getElem?_eq_getElem hi',RZ]);rw[ex,oM hn hp]at a2;rw[ex',oM hn hp']at b2
  by_cases hii:i=i'
  ·subst hii
   rw[← ex,← ex',← ei,← RZ]
  ·exact(q.apart i i' f f' hii a1 b1 p.2 ((a2 _).2 rfl) ((b2 _).2 e)).elim
theorem yP[bB]{κ:am}{w:World} : ∀ (bl:List iA),(bl.map Prod.fst).Nodup->(∀ q ∈ bl,∀ v ∈ q.2.1,zB 3 v=true)->(∀ q ∈ bl,∃ b c',κ q.1=some b/\w.heap[b]? = some (.cells c' q.2.2 (0,0))/\bZ κ q.2.1.toArray c')->(∀ q ∈ bl,∀ q' ∈ bl,κ q.1=κ q'.1->q.1=q'.1)->
  cL (bl.map (hE κ)) (λj=>∃ q ∈ bl,κ q.1=some j) w
 | [],_,_,_,_=>cP (kZ w) (λj=>⟨λh=>h.elim,λ⟨q,h,_⟩=>by cases h⟩)
 | q::bl,hn,hk,hc,hi=>by
  rw[List.map_cons,List.nodup_cons]at hn;obtain⟨b,c',e1,e2,e3⟩:=hc q (List.mem_cons_self ..);have ih:=yP bl hn.2 (λx hx=>hk x (List.mem_cons_of_mem _ hx)) (λx hx=>hc x (List.mem_cons_of_mem _ hx)) (λx hx y hy=>hi x (List.mem_cons_of_mem _ hx) y (List.mem_cons_of_mem _ hy));have ec:c'=(q.2.1.map (fS 3 κ)).toArray:=by
   have:=r6 (f:=q.2.1.toArray) (f':=c') (n:=3) e3.1 e3.2 (by rw[List.all_eq_true];exact λv hv=>hk q (List.mem_cons_self ..) v (by simpa using hv)) (λv v'=>r7 3);simpa using this
  subst ec;have eb:(κ q.1).getD 0=b:=by rw[e1];rfl
  refine cP (bW (a:=hE κ q) (Fa:=λj=>j=b) ⟨λj=>by rw[eb],by rw[eb];exact e2⟩ ih (λj hj=>by rw[hj];exact(Array.getElem?_eq_some_iff.1 e2).1) (λj hj ⟨x,hx,ex⟩=>?_)) (λj=>?_)
  ·rw[hj]at ex
   exact hn.1 (by rw[hi q (List.mem_cons_self ..) x (List.mem_cons_of_mem _ hx) (e1.trans ex.symm)];exact List.mem_map_of_mem hx)
  ·constructor
   ·rintro(h | ⟨x,hx,ex⟩)
    ·exact⟨q,List.mem_cons_self ..,by rw[h];exact e1⟩
    ·exact⟨x,List.mem_cons_of_mem _ hx,ex⟩
   ·rintro⟨x,hx,ex⟩
    rcases List.mem_cons.1 hx with e | hx
    ·subst e
     rw[e1]at ex;exact .inl (Option.some.inj ex).symm
    ·exact .inr ⟨x,hx,ex⟩
noncomputable def tn(gb:Nat->Value):Nat->Nat->List (Nat×Value)->List Value
 | 0,_,_=>[]
 | n+1,i,[]=>gb i::tn gb n (i+1) []
 | n+1,i,p::l=>@Bool.rec (λ_=>List Value) (gb i::tn gb n (i+1) (p::l)) (p.2::tn gb n (i+1) l) (Nat.beq p.1 i)
theorem qQ(gb:Nat->Value):∀ (n i:Nat) (l:List (Nat×Value)),(tn gb n i l).length=n/\∀ (j:Nat) v,(tn gb n i l)[j]? = some v->v=gb (i+j)\/(i+j,v) ∈ l
 | 0,i,l=>⟨rfl,λj v h=>by cases h⟩
 | n+1,i,[]=>by
  obtain⟨h1,h2⟩:=qQ gb n (i+1) [];refine⟨by show(gb i::tn gb n (i+1) []).length=_;rw[List.length_cons,h1],λj v h=>?_⟩
  match j with
  | 0=>cases h;exact .inl rfl
  | j+1 =>
   have:=h2 j v h;rw[show i+1+j=i+(j+1) by omega]at this;exact this
 | n+1,i,p::l=>by
  show(@Bool.rec (λ_=>List Value) (gb i::tn gb n (i+1) (p::l)) (p.2::tn gb n (i+1) l) (Nat.beq p.1 i)).length=_/\∀ (j:Nat) v,(@Bool.rec (λ_=>List Value) (gb i::tn gb n (i+1) (p::l)) (p.2::tn gb n (i+1) l) (Nat.beq p.1 i))[j]? = some v->_;cases hb:Nat.beq p.1 i with
  | true =>
   have e:=Nat.eq_of_beq_eq_true hb;obtain⟨h1,h2⟩:=qQ gb n (i+1) l;refine⟨by show(p.2::tn gb n (i+1) l).length=_;rw[List.length_cons,h1],λj v h=>?_⟩
   match j with
   | 0=>cases h;exact .inr (by rw[Nat.add_zero,← e];exact List.mem_cons_self ..)
   | j+1 =>
    have:=h2 j v h;rw[show i+1+j=i+(j+1) by omega]at this;exact this.imp id (List.mem_cons_of_mem _)
  | false =>
   obtain⟨h1,h2⟩:=qQ gb n (i+1) (p::l);refine⟨by show(gb i::tn gb n (i+1) (p::l)).length=_;rw[List.length_cons,h1],λj v h=>?_⟩
   match j with
   | 0=>cases h;exact .inl rfl
   | j+1 =>
    have:=h2 j v h;rw[show i+1+j=i+(j+1) by omega]at this;exact this
theorem J5[bB]{A:Act}{N:Nat}(hN:A.tmps.size=N){ι:am}(live:List (Nat×Value))(hl:∀ p ∈ live,aq ι p.2 (A.tmps.getD p.1 undef)):∃ gb:Nat->Value,dW ι (tn gb N 0 live) A.tmps.toList:=by
 have h:∀ i,∃ v:Value,∀ ι:am,aq ι v (A.tmps.getD i undef):=λi=>wl _
 obtain⟨k1,k2⟩:=qQ (λi=>Classical.choose (h i)) N 0 live;refine⟨λi=>Classical.choose (h i),by rw[k1];simp[hN],λi v v' h1 h2=>?_⟩;have e:v'=A.tmps.getD i undef:=by
  rw[Array.getElem?_toList]at h2;rw[Array.getD_eq_getD_getElem?,h2];rfl
 rcases k2 i v h1 with hv | hv
 ·rw[hv,e,Nat.zero_add]
  exact Classical.choose_spec (h i) ι
 ·rw[e]
  have:=hl _ hv;rw[Nat.zero_add]at this;exact this
theorem yQ{rn:List (Nat×Nat)}{dP jK:List (Nat×Value)}{bl fX:List iA}(h:ut rn dP bl jK fX=true) :
  rn.map Prod.fst=bl.map Prod.fst/\(rn.map Prod.fst).Nodup/\(fX.map Prod.fst).Nodup/\(∀ p ∈ dP,yM rn 3 p.2=true)/\(∀ q ∈ bl,∀ v ∈ q.2.1,yM rn 3 v=true)/\(∀ p ∈ jK,zB 3 p.2=true)/\∀ q ∈ fX,∀ v ∈ q.2.1,zB 3 v=true:=by
 unfold ut at h;simp only[Bool.and_eq_true,List.all_eq_true]at h;obtain⟨h1,h2,h3,h4,h5,h6,h7⟩:=h;exact⟨Ao h1,wB h2,wB h3,h4,h5,h6,h7⟩
theorem Cc(k:Kn){c:dt}{N g:Nat}{rn:List (Nat×Nat)}{bl:List iA}{gl:List aF}{dP:List (Nat×Value)}(hg:k.gs[g]? = some (star (gp c.W c.X::gl)))(AH:rn.map Prod.fst=bl.map Prod.fst)(hn:(rn.map Prod.fst).Nodup)(hk0:∀ p ∈ dP,yM rn 3 p.2=true)(hkb:∀ q ∈ bl,∀ v ∈ q.2.1,yM rn 3 v=true)
  {A:Act} {w:World} (h:letI:bB:=k.sig;At c N (dP.map (I4 (bL rn))) (bl.map (hE (bL rn))++gl) A w):letI:bB:=k.sig;∃ F,wk rn bl F w/\bB.GR g (bL rn) F w/\(∀ j,F j->j<w.heap.size)/\∃ gb:Nat->Value,dW (bL rn) (tn gb N 0 dP) A.tmps.toList:=by
 letI:bB:=k.sig;obtain⟨sz,df,tm,hh⟩:=h;obtain⟨F,h1,h2,h3⟩:=hh.ex;obtain⟨F',b1,b2,b3⟩:=J4 AH hn hkb h1
 have ho:cL (gp c.W c.X::gl) (λj=>(j<c.W.heap.size/\¬ c.X j)\/F' j) w:=bW ⟨λj=>Iff.rfl,λj hj hx=>h2.block j hj hx⟩ b2 (λj hj=>Nat.lt_of_lt_of_le hj.1 h2.size) (λj hj hf=>by
  rcases h3 j ((b3 j).2 (.inr hf)) with h | h
  ·exact hj.2 h
  ·omega)
 refine⟨_,⟨b1.there,b1.inj,λp hp hf=>?_⟩,⟨_,hg,(star _).mono (λ_=>none) _ _ w (λ_ _ e=>by cases e) ho.st⟩,ho.lt,J5 sz dP (λp hp=>?_)⟩
 ·rcases hf with hf | hf
  ·rcases h3 p.2 ((b3 _).2 (.inl ⟨p,hp,rfl⟩)) with h | h
   ·exact hf.2 h
   ·omega
  ·exact b1.out p hp hf
 ·have e:=tm (I4 (bL rn) p) (List.mem_map_of_mem hp)
  show aq _ p.2 (A.tmps.getD (I4 (bL rn) p).1 undef);rw[e];exact yO 3 p.2 (hk0 p hp)
theorem yR(k:Kn){c:dt}{g':Nat}{rn:List (Nat×Nat)}{fX:List iA}{xg:List aF}(hg':k.gs[g']? = some (star (gp c.W c.X::xg)))(hn1:(fX.map Prod.fst).Nodup)(hkb:∀ q ∈ fX,∀ v ∈ q.2.1,zB 3 v=true){F:Nat->Prop}{w w1:World}{κ:am}(hc:Same c.W w)(L:letI:bB:=k.sig;Left rn fX g' F w κ w1) :
  letI:bB:=k.sig;af c (fX.map (hE κ)++xg.map (yK κ)) w1:=by
 letI:bB:=k.sig;obtain⟨F',⟨a,q1,q2⟩,q3,q4⟩:=L.gh;rw[hg']at q1;cases q1;obtain⟨Fo,Fg,⟨o1,o2⟩,n1,n2,n3⟩:=bI (wu q2 (λj hj=>(q3 j hj).1));have nb:=yP fX hn1 hkb L.cls L.inj;have hnot:∀ j,¬ Fo j->c.X j\/c.W.heap.size<=j:=λj hj=>by
  rcases Nat.lt_or_ge j c.W.heap.size with h | h
  ·exact .inl (Classical.byContradiction λhx=>hj ((o1 j).2 ⟨h,hx⟩))
  ·exact .inr h
 have hs:=hc.trans L.turn.same;refine⟨⟨_,fe nb n1 (λj ⟨q,hq,e⟩ hf=>q4 q hq j e ((n3 j).2 (.inr hf))),⟨hs.os,hs.tape,hs.output,hs.size,λj hj hx=>o2 j hj hx⟩,λj hj=>hnot j (λhf=>?_)⟩⟩;rcases hj with ⟨q,hq,e⟩ | hj
 ·exact q4 q hq j e ((n3 j).2 (.inl hf))
 ·exact n2 j hf hj
def wC(rn:List (Nat×Nat))(κ:am):am:=λid=>match bL rn id with | some b=>some b | none=>κ id
theorem AK{rn:List (Nat×Nat)}{κ:am}(h:∀ id b,bL rn id=some b->κ id=some b):wC rn κ=κ:=by
 funext id
 unfold wC;cases hr:bL rn id with
 | none=>rfl
 | some b=>exact(h id b hr).symm
theorem SH{P:Program}(hP:P.check=.ok ())(hm:P.follows .mixedOrders=true)(k:Kn)(dA:@dR k.sig P){n m N i kk:Nat}{f:FuncId}{p:List Nat}{c:dt}(rn:List (Nat×Nat))(bl fX:List iA)(g g':Nat)(gl xg:List aF)(hg:k.gs[g]? = some (star (gp c.W c.X::gl)))(hg':k.gs[g']? = some (star (gp c.W c.X::xg)))(dP jK:List (Nat×Value))(ex:Exit)(hk:ut rn dP bl jK fX=true)
  (run:∀ gb:Nat->Value,letI:bB:=k.sig;dS P (λB=>kW B f p (λ_ c=>Nat.beq (tn gb N 0 dP).length N&&(Nat.ble N 4094&&(tQ m rn bl&&yF ex jK fX g' (lC (tn gb N 0 dP) 0 .leaf (λt=>iq B n N kk ((flat c).drop i) t (fB (eG bl g) m)))))))=true) :
  letI:bB:=k.sig;J3 P f p i kk N c (dP.map (I4 (bL rn))) (bl.map (hE (bL rn))++gl) ex (λκ:am=>jK.map (I4 (wC rn κ))) (λκ:am=>fX.map (hE (wC rn κ))++xg.map (yK (wC rn κ))):=by
 letI:bB:=k.sig;intro A w Q hA hQ;obtain⟨k1,k2,k3,k4,k5,k6,k7⟩:=yQ hk;obtain⟨F,b1,b2,b3,gb,b4⟩:=Cc k hg k1 k2 k4 k5 hA
 refine JW hP dA hm (run gb) b1 b2 b3 b4 hA.df (λκ A1 w1 sz df lv L=>hQ κ A1 w1 (by
  show At c N (jK.map (I4 (wC rn κ))) (fX.map (hE (wC rn κ))++xg.map (yK (wC rn κ))) A1 w1;rw[AK L.old]
  exact⟨sz,df,λq hq=>by
   obtain⟨p0,hp0,rfl⟩:=List.mem_map.1 hq
   exact r7 3 (lv p0 hp0) (k6 p0 hp0),yR k hg' k3 k7 hA.hold.same L⟩))
theorem QN{P:Program}(hP:P.check=.ok ())(hm:P.follows .mixedOrders=true)(k:Kn)(dA:@dR k.sig P){n m N i kk:Nat}{f:FuncId}{p:List Nat}{c:dt}(rn:List (Nat×Nat))(bl fX:List iA)(g g':Nat)(gl xg:List aF)(hg:k.gs[g]? = some (star (gp c.W c.X::gl)))(hg':k.gs[g']? = some (star (gp c.W c.X::xg)))(dP:List (Nat×Value))(r:Value)(hk:ut rn dP bl [(0,r)] fX=true)
  (run:∀ gb:Nat->Value,letI:bB:=k.sig;dS P (λB=>kW B f p (λfn c=>Nat.beq (tn gb N 0 dP).length N&&(Nat.beq fn.ntmps N&&(Nat.ble N 4094&&(tQ m rn bl&&((fX.all (λq=>Nat.beq (q.1%4) 0)&&isNil ((flat c).drop (i+kk)))&&jm r fX (some g') (lC (tn gb N 0 dP) 0 .leaf (λt=>vS B.P fn (iq B n N kk ((flat c).drop i) t (fB (eG bl g) m))))))))))=true) :
  letI:bB:=k.sig;cw P f p i N c (dP.map (I4 (bL rn))) (bl.map (hE (bL rn))++gl) (λκ:am=>fS 3 (wC rn κ) r) (λκ:am=>fX.map (hE (wC rn κ))++xg.map (yK (wC rn κ))):=by
 letI:bB:=k.sig;intro A w R hA hQ;obtain⟨k1,k2,k3,k4,k5,k6,k7⟩:=yQ hk;obtain⟨F,b1,b2,b3,gb,b4⟩:=Cc k hg k1 k2 k4 k5 hA;refine JX hP dA hm (run gb) b1 b2 b3 b4 hA.df (λκ v' w1 hv L=>?_);rw[r7 3 hv (k6 _ (List.mem_singleton.2 rfl)),← congrArg (λκ=>fS 3 κ r) (AK L.old)]
 exact hQ κ w1 (by
  show af c (fX.map (hE (wC rn κ))++xg.map (yK (wC rn κ))) w1;rw[AK L.old]
  exact yR k hg' k3 k7 hA.hold.same L)
theorem mL{P:Program}{f:FuncId}{N:Nat}{args:Array Value}{l:List aF}{F:Nat->Prop}{w:World}{R:Ending->World->Prop}{tm:List (Nat×Value)}(hN:dS P (λB=>kW B f [] (λfn _=>Nat.beq fn.ntmps N))=true)(hn:cL l F w)(ha:args.size<=N)(ht:∀ p ∈ tm,args[p.1]? = some p.2)
  (h:∀ A,At ⟨w,F⟩ N tm l A w->kA P (mJ P f [] 0) (bodyPostM Fence.wide 0 P (kV P f) R) A w):Calls P f args w R :=
 AG hN (h _ ⟨AI ha,rfl,λp hp=>Dv (ht p hp),af.start hn⟩)
theorem At.ret{P:Program}{f:FuncId}{i N:Nat}{v:Value}{c:dt}{tm:List (Nat×Value)}{l:List aF}{A:Act}{w:World}(h:At c N tm l A w)(hr:dS P (λB=>kW B f [] (λfn _=>oI fn.results.toList [i]))=true)(hv:(i,v) ∈ tm){R:Ending->World->Prop}(hR:af c l w->R (.returned v) w):bodyPostM Fence.wide 0 P (kV P f) R .ret A w :=
 FU hr h.df (by rw[show A.tmps.getD i undef=v from h.tm _ hv];exact hR h.hold)
theorem J6{P:Program}{f:FuncId}{p:List Nat}{i:Nat}{Q:Exit->Act->World->Prop}{β:Type}(hl:dS P (λB=>kW B f p (λ_ c=>AF ((flat c).drop i)))=true)(I:β->Act->World->Prop)(μ:β->Nat){x:β}{A:Act}{w:World}(h0:I x A w)
  (step:∀ x A w,I x A w->kA P (mJ P f (p++[2*i]) 0) (Exit.then (λA w=>∃ y,I y A w/\μ y<μ x) (Exit.then (kA P (mJ P f p (i+1)) Q) Q)) A w):kA P (mJ P f p i) Q A w:=by
 refine JU hl ?_;have key:∀ n x A w,μ x<=n->I x A w->Code.roundsIn Fence.wide 0 P (place P f (p++[2*i])) (Exit.then (kA P (mJ P f p (i+1)) Q) Q) (n+1) A w:=by
  intro n
  induction n with
  | zero =>
   intro x A w hx h;rw[roundsIn_succ];refine wpIn_mono (oH (step x A w h)) (λe a w h=>?_);cases e with
   | normal=>obtain⟨y,_,h2⟩:=h;omega
   | _=>exact h
  | succ n ih =>
   intro x A w hx h;rw[roundsIn_succ];refine wpIn_mono (oH (step x A w h)) (λe a w h=>?_);cases e with
   | normal=>obtain⟨y,h1,h2⟩:=h;exact ih y a w (by omega) h1
   | _=>exact h
 exact wpIn_loop_rounds _ (key (μ x) x A w (Nat.le_refl _) h0)
def Ga(w:World):List aF->List aF->Prop
 | [],[]=>True
 | a::l,b::m=>(∀ f,a.p (λ_=>none) f w->b.p (λ_=>none) f w)/\Ga w l m
 | _,_=>False
theorem yS:∀ {l m:List aF} {F:Nat->Prop} {w:World},Ga w l m->cL l F w->cL m F w
 | [],[],_,_,_,h=>h
 | a::l,b::m,F,w,⟨h1,h2⟩,h=>by
  obtain⟨Fa,Fl,k1,k2,k3,k4⟩:=bI h;exact cP (bW (h1 Fa k1) (yS h2 k2) (λj hj=>h.lt j ((k4 j).2 (.inl hj))) k3) (λj=>(k4 j).symm)
 | [],_::_,_,_,h,_=>h.elim
 | _::_,[],_,_,h,_=>h.elim
theorem af.conv{c:dt}{l m:List aF}{w:World}(h:af c l w)(hi:Ga w l m):af c m w:=by
 obtain⟨F,h1,h2,h3⟩:=h.ex;exact⟨⟨F,yS hi h1,h2,h3⟩⟩
theorem J3.conv{P:Program}{f:FuncId}{p:List Nat}{i k N:Nat}{c:dt}{tm:List (Nat×Value)}{l:List aF}{ex:Exit}{α:Type}{tm':α->List (Nat×Value)}{l' l'':α->List aF}(h:J3 P f p i k N c tm l ex tm' l')(hi:∀ x w,Ga w (l' x) (l'' x)):J3 P f p i k N c tm l ex tm' l'' :=
 λA w Q hA hQ=>h A w Q hA (λx A1 w1 h1=>hQ x A1 w1 ⟨h1.sz,h1.df,h1.tm,h1.hold.conv (hi x w1)⟩)
theorem cw.conv{P:Program}{f:FuncId}{p:List Nat}{i N:Nat}{c:dt}{tm:List (Nat×Value)}{l:List aF}{α:Type}{r:α->Value}{l' l'':α->List aF}(h:cw P f p i N c tm l r l')(hi:∀ x w,Ga w (l' x) (l'' x)):cw P f p i N c tm l r l'' :=
 λA w R hA hR=>h A w R hA (λx w1 h1=>hR x w1 (h1.conv (hi x w1)))
theorem fJ{κ:am}{d:Nat}{a:Value->aF}{f:Nat->Prop}{w:World}(ha:∀ v,Flat (a v))(h:(yK κ (jS d a)).p (λ_=>none) f w):(a (dec ((κ d).getD 0))).p (λ_=>none) f w:=by
 obtain⟨c,h1,h2⟩:=h;rw[h1];exact ha _ _ _ _ _ h2
def lF:List aF->Prop
 | []=>True
 | a::l=>Flat a/\lF l
theorem pT:∀ {l:List aF},lF l->∀ a ∈ l,Flat a
 | [],_,a,h=>by cases h
 | b::l,⟨h1,h2⟩,a,h=>by
  rcases List.mem_cons.1 h with rfl | h
  ·exact h1
  ·exact pT h2 a h
theorem af.frame{m r:List aF}{F G:Nat->Prop}{w w':World}(h:af ⟨w,F⟩ m w')(hr:cL r G w)(hd:∀ j,F j->¬ G j):af ⟨w,λj=>F j\/G j⟩ (m++r) w':=by
 obtain⟨F',h1,h2,h3⟩:=h.ex;have hr':=fg hr (λj hj=>h2.block j (hr.lt j hj) (λhf=>hd j hf hj)) h2.size;refine⟨⟨_,fe h1 hr' (λj hj hg=>?_),⟨h2.os,h2.tape,h2.output,h2.size,λj hj hn=>h2.block j hj (λhf=>hn (.inl hf))⟩,λj hj=>hj.elim (λhj=>(h3 j hj).imp .inl id) (λhj=>.inl (.inr hj))⟩⟩;rcases h3 j hj with h | h
 ·exact hd j h hg
 ·have h0:w.heap.size<=j:=h
  have:=hr.lt j hg;omega
theorem J7{l m:List aF}{κ:am}{F:Nat->Prop}{w:World}(h:cL l F w)(hl:m.length=l.length)(hm:∀ (i:Nat) a b f,l[i]? = some a->m[i]? = some b->a.p (λ_=>none) f w->b.p κ f w):(star m).p κ F w:=by
 obtain⟨⟨Fs,q⟩,lt⟩:=h;refine⟨Fs,by rw[q.len,hl],λi b f h1 h2=>?_,q.apart,q.all⟩;have hi:i<l.length:=by rw[← hl];exact(List.getElem?_eq_some_iff.1 h1).1
 exact hm i l[i] b f (List.getElem?_eq_getElem hi) h1 (q.holds i _ f (List.getElem?_eq_getElem hi) h2)
theorem Cd(l:List aF)(idx:List Nat)(ι:am):sel (l.map (yK ι)) idx=(sel l idx).map (yK ι):=by
 unfold sel;rw[List.map_map];refine List.map_congr_left (λi _=>?_);simp only[Function.comp,List.getD_eq_getElem?_getD,List.getElem?_map];cases l[i]? <;> rfl
theorem Gb{k:Kn}{P:Program}{c:dt}{f:FuncId}{abs args:List Value}{g g':Nat}{gl lp M3:List aF}{d0:Option Nat}{r:Value}(idx rest:List Nat)(hg:k.gs[g]? = some (star (gp c.W c.X::gl)))(hg':k.gs[g']? = some (star (gp c.W c.X::(M3++sel gl rest))))(hsel:nM gl.length (idx++rest)=true)(hp:sel gl idx=lp)(hf:lF lp)
  (ha:∀ ι l',(letI:bB:=k.sig;dW ι abs l')->l'=args)
  (con:∀ (w:World) (F:Nat->Prop),oK c.W c.X w->cL lp F w->(∀ j,F j->c.X j\/c.W.heap.size<=j)->Calls P f args.toArray w λe w'=>∃ (v:Value) (cd:Nat) (lv:List aF),e=.returned v/\af ⟨w,F⟩ lv w'/\M3.length=lv.length/\
   ∀ (ι:am) (d:Nat),(∀ y,d0=some y->y=d)->ι d=none->(letI:bB:=k.sig;aq (ι.upd d cd) r v)/\∀ (i:Nat) a b ff,lv[i]? = some a->M3[i]? = some b->a.p (λ_=>none) ff w'->b.p (ι.upd d cd) ff w'):fI k P ⟨f,abs,g,d0,r,some g'⟩:=by
 letI:bB:=k.sig;intro ι args' F w d hl h1 h2 h3 h4;have e:=ha ι _ hl;have ea:args'=args.toArray:=by rw[← e]
 subst ea;obtain⟨b,q1,q2⟩:=h1;rw[hg]at q1;cases q1;have hd:ι d=none:=h3.elim id (λh=>by cases h);obtain⟨Fo,Fg,⟨o1,o2⟩,n1,n2,n3⟩:=bI (l:=gl.map (yK ι)) (wu q2 h2);obtain⟨F',s1,s2⟩:=wy n1 (idx++rest) (by rw[List.length_map];exact hsel);have hsp:sel (gl.map (yK ι)) (idx++rest)=lp.map (yK ι)++(sel gl rest).map (yK ι):=by
  rw[Cd,← hp,← List.map_append];unfold sel;rw[List.map_append]
 rw[hsp]at s1;obtain⟨F1,F2,p1,p2,p3,p4⟩:=cV s1
 have pl:cL lp F1 w:=B_ p1 (by simp) (λi a b ff e1 e2 h=>by
  rw[List.getElem?_map,e2]at e1;cases e1
  exact pT hf b (List.mem_of_getElem? e2) ι _ ff w h)
 have hFg:∀ j,Fg j->c.X j\/c.W.heap.size<=j:=λj hj=>by
  rcases Nat.lt_or_ge j c.W.heap.size with h | h
  ·exact .inl (Classical.byContradiction λhx=>n2 j ((o1 j).2 ⟨h,hx⟩) hj)
  ·exact .inr h
 refine(con w F1 o2 pl (λj hj=>hFg j (s2 j ((p4 j).2 (.inl hj))))).mono ?_;rintro e' w' ⟨v,cd,lv,rfl,hh,hlen,hrel⟩;obtain⟨G,g1,g2,g3⟩:=hh.ex;obtain⟨r1,r2⟩:=hrel ι d h4 hd;have Lw:∀ j,Fo j->¬ F1 j:=λj ho hf1=>n2 j ho (s2 j ((p4 j).2 (.inl hf1)))
 have kr:cL ((sel gl rest).map (yK ι)) F2 w':=fg p2 (λj hj=>g2.block j (p2.lt j hj) (λh=>p3 j h hj)) g2.size;have QO:∀ j,Fo j->j<w.heap.size:=λj hj=>h2 j ((n3 j).2 (.inl hj))
 have QP:∀ j,G j->¬ F2 j:=λj hj hf2=>by
  rcases g3 j hj with h | h
  ·exact p3 j h hf2
  ·have h0:w.heap.size<=j:=h
   have:=p2.lt j hf2;omega
 have all:=bW (a:=gp c.W c.X) (Fa:=Fo) ⟨o1,λj hj hx=>(g2.block j (QO j ((o1 j).2 ⟨hj,hx⟩)) (Lw j ((o1 j).2 ⟨hj,hx⟩))).trans (o2 j hj hx)⟩ (fe g1 kr QP) (λj hj=>Nat.lt_of_lt_of_le (QO j hj) g2.size) (λj hj hx=>by
  rcases hx with hx | hx
  ·rcases g3 j hx with h | h
   ·exact Lw j hj h
   ·have h0:w.heap.size<=j:=h
    have:=QO j hj;omega
  ·exact n2 j hj (s2 j ((p4 j).2 (.inr hx))))
 refine⟨v,rfl,cd,_,r1,⟨_,hg',J7 all (by simp[hlen]) (λi a b ff e1 e2 h=>?_)⟩,⟨g2.os,g2.tape,g2.output,g2.size,λj hj hn=>g2.block j hj (λhf=>hn ((n3 j).2 (.inr (s2 j ((p4 j).2 (.inl hf))))))⟩,λj hj=>⟨all.lt j hj,?_⟩⟩
 ·match i with
  | 0=>cases e1;cases e2;exact h
  | i+1 =>
   rw[List.getElem?_cons_succ]at e1 e2;rcases Nat.lt_or_ge i lv.length with hi | hi
   ·rw[List.getElem?_append_left hi]at e1
    rw[List.getElem?_append_left (by rw[hlen];exact hi)]at e2;exact r2 i a b ff e1 e2 h
   ·rw[List.getElem?_append_right hi,List.getElem?_map]at e1
    rw[List.getElem?_append_right (by rw[hlen];exact hi),hlen]at e2;rw[e2]at e1;cases e1;exact b.mono ι _ ff w' (am.ie (b:=cd) hd) h
 ·rcases hj with hj | hj | hj
  ·exact .inl ((n3 j).2 (.inl hj))
  ·rcases g3 j hj with h | h
   ·exact .inl ((n3 j).2 (.inr (s2 j ((p4 j).2 (.inl h)))))
   ·exact .inr h
  ·exact .inl ((n3 j).2 (.inr (s2 j ((p4 j).2 (.inr hj)))))
theorem M4{k:Kn}{P:Program}{c:dt}{f:FuncId}{abs args:List Value}{g g':Nat}{gl lp lq:List aF}{r rv:Value}(idx rest:List Nat)(hg:k.gs[g]? = some (star (gp c.W c.X::gl)))(hg':k.gs[g']? = some (star (gp c.W c.X::(lq++sel gl rest))))(hsel:nM gl.length (idx++rest)=true)(hp:sel gl idx=lp)(hf:lF lp)
  (ha:∀ ι l',(letI:bB:=k.sig;dW ι abs l')->l'=args) (hr:∀ ι,(letI:bB:=k.sig;aq ι r rv))
  (con:∀ (w:World) (F:Nat->Prop),oK c.W c.X w->cL lp F w->(∀ j,F j->c.X j\/c.W.heap.size<=j)->Calls P f args.toArray w λe w'=>e=.returned rv/\af ⟨w,F⟩ lq w'):fI k P ⟨f,abs,g,none,r,some g'⟩:=by
 letI:bB:=k.sig;refine Gb idx rest hg hg' hsel hp hf ha (λw F h1 h2 h3=>(con w F h1 h2 h3).mono ?_);rintro e w' ⟨rfl,hh⟩;refine⟨rv,0,lq,rfl,hh,rfl,λι d _ hd=>⟨hr _,λi a b ff e1 e2 h=>?_⟩⟩;rw[e1]at e2;cases e2;exact a.mono _ _ ff w' (λ_ _ e=>by cases e) h
theorem Gc{k:Kn}{P:Program}{c:dt}{f:FuncId}{abs args:List Value}{g g' d1:Nat}{gl lp M3:List aF}{r:Value}{ret:Value->Value}{lq:Value->List aF}(idx rest:List Nat)(hg:k.gs[g]? = some (star (gp c.W c.X::gl)))(hg':k.gs[g']? = some (star (gp c.W c.X::(M3++sel gl rest))))(hsel:nM gl.length (idx++rest)=true)(hp:sel gl idx=lp)(hf:lF lp)
  (ha:∀ ι l',(letI:bB:=k.sig;dW ι abs l')->l'=args) (hr:∀ (ι:am) cd,ι d1=some cd->(letI:bB:=k.sig;aq ι r (ret (dec cd)))) (hq:∀ (ι:am) cd w',ι d1=some cd->M3.length=(lq (dec cd)).length/\∀ (i:Nat) a b ff,(lq (dec cd))[i]? = some a->M3[i]? = some b->a.p (λ_=>none) ff w'->b.p ι ff w')
  (con:∀ (w:World) (F:Nat->Prop),oK c.W c.X w->cL lp F w->(∀ j,F j->c.X j\/c.W.heap.size<=j)->Calls P f args.toArray w λe w'=>∃ v cd,dec cd=v/\e=.returned (ret v)/\af ⟨w,F⟩ (lq v) w'):fI k P ⟨f,abs,g,some d1,r,some g'⟩:=by
 letI:bB:=k.sig;refine Gb idx rest hg hg' hsel hp hf ha (λw F h1 h2 h3=>(con w F h1 h2 h3).mono ?_);rintro e w' ⟨v,cd,rfl,rfl,hh⟩;have up:∀ (ι:am),(ι.upd d1 cd) d1=some cd:=λι=>by simp[am.upd]
 refine⟨_,cd,lq (dec cd),rfl,hh,(hq _ cd w' (up (λ_=>none))).1,λι d hd0 hd=>?_⟩;obtain rfl:=hd0 d1 rfl;exact⟨hr _ cd (up ι),(hq _ cd w' (up ι)).2⟩
def bT(e:TypeId)(sz:Nat)(v:Value)(n:Nat)(xs:List Value):aF where
 p:=λ_ F w=>dT e sz v n xs F w
 keep:=λ_ F w w' hk h=>h.keep hk
 mono:=λ_ _ _ _ _ h=>h
section rows
variable{k:Kn}{P:Program}{g g':Nat}{l:List aF}{ci:Nat}{t e:TypeId}{sL sI sP sQ sV n sz m:Nat}{v:Value}{xs:List Value}{i:TypeInfo}
theorem bC(hg:k.gs[g]? = some (star l))(hi:l[ci]? = some (bT e sz v n xs))(ht:P.underlying t=some (.slice e))(hsz:i.size=sz)(hL:k.val sL=v)(hV:k.val sV=.int .i64 (n:Int)):bw k P ⟨[10,t],[sy sL],none,g,none,sy sV,none⟩:=by
 subst hsz;refine bw.len k ?_;letI:bB:=k.sig;intro ι F w d x' ty q hx;obtain⟨Fs,ff,hS,hf,h1⟩:=fb hg hi q;rw[jJ hx,hL];exact⟨_,w,dT.len h1 ht ty,oJ hV,Below.refl _ _⟩
theorem Ce{sz n m:Nat}{v:Value}{xs:List Value}{F:Nat->Prop}{w:World}(h:dT e sz v n xs F w)(hm:m<n*sz):∃ b off c,v=.slice (some ⟨b,off,none⟩) n c/\dc v m=.pointer (some ⟨b,off+m,none⟩)/\F b/\w.cell? ⟨b,off+m,none⟩=xs[m]?/\w.frozen? ⟨b,off+m,none⟩=false:=by
 obtain⟨h1,⟨_,rfl,hF⟩ | ⟨b,off,c,arr,rfl,hF,hb0,hx,hsz,hnc⟩⟩:=h
 ·simp at hm
 ·exact⟨b,off,c,rfl,rfl,(hF b).2 rfl,by rw[← hx m hm];simp[World.cell?,hb0],by simp[World.frozen?,hb0]⟩
theorem aY{kd:IntKind}{j:Nat}(hg:k.gs[g]? = some (star l))(hi:l[ci]? = some (bT e sz v n xs))(ht:P.underlying t=some (.slice e))(gI:P.info? e=some i)(hsz:i.size=sz)(hL:k.val sL=v)(hI:k.val sI=.int kd (j:Int))(hj:j<n)(hP:k.val sP=dc v (j*sz)):bw k P ⟨[3,t],[sy sL,sy sI],none,g,none,sy sP,none⟩:=by
 subst hsz;refine bw.index k ?_;letI:bB:=k.sig;intro ι F w d x' y' q hx hy;obtain⟨Fs,ff,hS,hf,h1⟩:=fb hg hi q;rw[jJ hx,jJ hy,hL,hI];obtain⟨b,off,c,e1,e2,_⟩:=dT.at (kd:=kd) h1 ht gI hj;exact⟨_,w,e2,oJ (by rw[hP,e1];rfl),Below.refl _ _⟩
theorem bF{x r:Value}(hg:k.gs[g]? = some (star l))(hi:l[ci]? = some (bT e sz v n xs))(hL:B1 P t)(hm:xs[m]? = some x)(hn:m<n*sz)(hP:k.val sP=dc v m)(hV:∀ ι,(letI:bB:=k.sig;aq ι r x)):bw k P ⟨[1,t],[sy sP],none,g,none,r,none⟩:=by
 refine bw.load k ?_;letI:bB:=k.sig;intro ι F w d x' q hx;obtain⟨Fs,ff,hS,hf,h1⟩:=fb hg hi q;rw[jJ hx,hP];obtain⟨b,off,c,_,e2,_,e3,_⟩:=Ce h1 hn;rw[e2];exact⟨x,w,hL b (off+m) x w (by rw[e3,hm]),hV _,Below.refl _ _⟩
def yT(P:Program)(t:TypeId):Prop:=∀ b o x x0 (w:World),w.cell? ⟨b,o,none⟩=some x0->w.frozen? ⟨b,o,none⟩=false->x.oneCell'=true->(Instr.storeAt t (.pointer (some ⟨b,o,none⟩)) x).run P w=.ok () (w.setCell ⟨b,o,none⟩ x)
theorem yU{b o:Nat}{x:Value}{w:World}{F:Nat->Prop}(h:F b):Turn F w (w.setCell ⟨b,o,none⟩ x):=by
 have hs:=@du dD (base:=λ_=>False) (b:=b) (λh=>h) [x] o w;exact⟨hs.os,hs.tape,hs.output,by have:=@setCells_size dD b [x] o w;exact Nat.le_of_eq this.symm,λj hj hn=>@eX dD b [x] o w j (λ(e:j=b)=>hn (e▸h))⟩
theorem yV{x r:Value}(hg:k.gs[g]? = some (star l))(hi:l[ci]? = some (bT e sz v n xs))(hg':k.gs[g']? = some (star (l.set ci (bT e sz v n (xs.set m x)))))(hL:yT P t)(hn:m<n*sz)(hP:k.val sP=dc v m)(hV:∀ ι y,(letI:bB:=k.sig;aq ι r y)->y=x)(hc:x.oneCell'=true):bw k P ⟨[2,t],[sy sP,r],none,g,none,undef,some g'⟩:=by
 refine bw.store k ?_;letI:bB:=k.sig;intro ι F w d x' y' q hx hy;obtain⟨Fs,ff,hS,hf,h1⟩:=fb hg hi q;rw[jJ hx,hP,hV _ _ hy];obtain⟨b,off,c,e1,e2,e0,e3,e4⟩:=Ce h1 hn;rw[e2];have hlt:m<xs.length:=by rw[h1.1];exact hn
 rw[List.getElem?_eq_getElem hlt]at e3;have hset:=dT.set (b:=b) (off:=off) (c:=c) h1 e1 hn x;exact⟨_,hL b (off+m) x _ w e3 e4 hc,wq hg' hS q.lt hf (i7 q) 0 hset (yU e0) (λj hj=>⟨Nat.lt_of_lt_of_le (h1.lt j hj) (yU (x:=x) (o:=off+m) e0).size,.inl hj⟩) (fj _)⟩
end rows
section
variable{P:Program}{kT e:TypeId}{b r n cnt d:Nat}{f:Int->Option Int}{left:Int->Bool}{i:Int}{c:dt}{l:List aF}{w:World}{κ:am}
theorem af.next(h:af c (OD P kT e b r n cnt f left::l) w):∃ i c',c'<cnt/\left i=true/\NI i/\(f i).isSome=true/\af c (M1 P kT e b r n c' f (FZ left i) i::l) w:=by
 obtain⟨⟨i,c'⟩,⟨h1,h2,h3,h4⟩,hh⟩:=h.yL (b:=λx:Int×Nat=>M1 P kT e b r n x.2 f (FZ left x.1) x.1) (p:=λx=>x.2<cnt/\left x.1=true/\NI x.1/\(f x.1).isSome=true) (λF ⟨h1,i,c',h2,h3,h4⟩=>⟨(i,c'),⟨h2,h3,h4.1,h4.2.1⟩,h1,h4⟩);exact⟨i,c',h1,h2,h3,h4,hh⟩
theorem af.cur(h:af c (M1 P kT e b r n cnt f left i::l) w):af c (QL P kT e b (.st (MZ r)) n cnt f left::l) w :=
 h.head (λF ⟨h1,h2⟩=>⟨r,rfl,h1,h2.2.2.1⟩)
end
end Go.Ev
