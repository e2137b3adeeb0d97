/- Part of a proof: see the last text. -/
import Derived.Test.YtkmccgombmogmaaGreatZe13
set_option linter.unusedSectionVars false
set_option linter.unusedSimpArgs false
set_option linter.unusedVariables false
namespace Go.Ev
open Go.RowKit
structure dc where
 W:World
 X:Nat->Prop
def yh(κ:am)(a:aG):aG where
 p:=λ_ F w=>a.p κ F w
 keep:=λ_ F w w' hk h=>a.keep κ F w w' hk h
 mono:=λ_ _ _ _ _ h=>h
def aH(b:Nat)(cs:List Value)(T:TypeId):aG where
 p:=λ_ F w=>(∀ j,F j↔j=b)/\w.heap[b]? = some (.cells cs.toArray T (0,0))
 keep:=λ_ F w w' hk ⟨h1,h2⟩=>⟨h1,(hk b ((h1 b).2 rfl)).trans h2⟩
 mono:=λ_ _ _ _ _ h=>h
def jE(d:Nat)(a:Value->aG):aG where
 p:=λι F w=>∃ c,ι d=some c/\(a (dec c)).p ι F w
 keep:=λι F w w' hk ⟨c,h1,h2⟩=>⟨c,h1,(a (dec c)).keep ι F w w' hk h2⟩
 mono:=λι κ F w hle ⟨c,h1,h2⟩=>⟨c,hle _ _ h1,(a (dec c)).mono ι κ F w hle h2⟩
def I5:aG where
 p:=λ_ F _=>∀ j,¬ F j
 keep:=λ_ _ _ _ _ h=>h
 mono:=λ_ _ _ _ _ h=>h
theorem cF{l:List aG}{F G:Nat->Prop}{w:World}(h:cG l F w)(e:∀ j,F j↔G j):cG l G w:=by
 rw[← show F=G from funext λj=>propext (e j)];exact h
theorem eQ:∀ {l m:List aG} {F G:Nat->Prop} {w:World},cG l F w->cG m G w->(∀ j,F j->¬ G j)->cG (l++m) (λj=>F j\/G j) w:=by
 intro l
 induction l with
 | nil =>
  intro m F G w h1 h2 hd;refine cF h2 (λj=>⟨.inr,λh=>h.elim (λh=>?_) id⟩);obtain⟨⟨Fs,e1,e2,e3,e4⟩,_⟩:=h1;obtain⟨i,f,k1,k2⟩:=(e4 j).1 h;have:Fs=[]:=List.eq_nil_of_length_eq_zero e1;rw[this]at k1;cases k1
 | cons a l ih =>
  intro m F G w h1 h2 hd;obtain⟨Fa,Fl,k1,k2,k3,k4⟩:=bI h1;refine cF (bP k1 (ih k2 h2 (λj hj=>hd j ((k4 j).2 (.inr hj)))) (λj hj=>h1.lt j ((k4 j).2 (.inl hj))) (λj hj hh=>hh.elim (k3 j hj) (hd j ((k4 j).2 (.inl hj))))) (λj=>?_);rw[k4 j];exact⟨λh=>h.elim (λh=>.inl (.inl h)) (λh=>h.elim (λh=>.inl (.inr h)) .inr),λh=>h.elim (λh=>h.elim .inl (λh=>.inr (.inl h))) (λh=>.inr (.inr h))⟩
theorem cL:∀ {l m:List aG} {F:Nat->Prop} {w:World},cG (l++m) F w->∃ F1 F2,cG l F1 w/\cG m F2 w/\(∀ j,F1 j->¬ F2 j)/\∀ j,F j↔F1 j\/F2 j:=by
 intro l
 induction l with
 | nil=>intro m F w h;exact⟨λ_=>False,F,kL w,h,λ_ h=>h.elim,λj=>⟨.inr,λh=>h.elim False.elim id⟩⟩
 | cons a l ih =>
  intro m F w h;obtain⟨Fa,Fl,k1,k2,k3,k4⟩:=bI h;obtain⟨F1,F2,e1,e2,e3,e4⟩:=ih k2;refine⟨λj=>Fa j\/F1 j,F2,bP k1 e1 (λj hj=>h.lt j ((k4 j).2 (.inl hj))) (λj hj hh=>k3 j hj ((e4 j).2 (.inl hh))),e2,λj hj hh=>hj.elim (λhj=>k3 j hj ((e4 j).2 (.inr hh))) (λhj=>e3 j hj hh),λj=>?_⟩;rw[k4 j,e4 j];exact⟨λh=>h.elim (λh=>.inl (.inl h)) (λh=>h.elim (λh=>.inl (.inr h)) .inr),λh=>h.elim (λh=>h.elim .inl (λh=>.inr (.inl h))) (λh=>.inr (.inr h))⟩
theorem fV{l:List aG}{F:Nat->Prop}{w w':World}(h:cG l F w)(hk:∀ j,F j->w'.heap[j]? = w.heap[j]?)(hs:w.heap.size<=w'.heap.size):cG l F w' :=
 ⟨(star l).keep _ F w w' hk h.st,λj hj=>Nat.lt_of_lt_of_le (h.lt j hj) hs⟩
theorem BA{l m:List aG}{F:Nat->Prop}{w:World}(h:cG l F w)(hl:m.length=l.length)(hm:∀ (i:Nat) a b f,l[i]? = some a->m[i]? = some b->a.p (λ_=>none) f w->b.p (λ_=>none) f w):cG m F w:=by
 obtain⟨⟨Fs,q⟩,lt⟩:=h;refine⟨⟨Fs,by rw[q.len,hl],λi b f h1 h2=>?_,q.apart,q.all⟩,lt⟩;have hi:i<l.length:=by rw[← hl];exact(List.getElem?_eq_some_iff.1 h1).1
 exact hm i l[i] b f (List.getElem?_eq_getElem hi) h1 (q.holds i _ f (List.getElem?_eq_getElem hi) h2)
theorem vP{l:List aG}{κ:am}{F:Nat->Prop}{w:World}(h:(star l).p κ F w)(lt:∀ j,F j->j<w.heap.size):cG (l.map (yh κ)) F w:=by
 obtain⟨Fs,q⟩:=h;refine⟨⟨Fs,by rw[q.len,List.length_map],λi b f h1 h2=>?_,q.apart,q.all⟩,lt⟩;rw[List.getElem?_map]at h1;cases hi:l[i]? with
 | none=>rw[hi]at h1;cases h1
 | some a =>
  rw[hi]at h1;cases h1;exact q.holds i a f hi h2
noncomputable def Aj(i:Nat):List Nat->Bool
 | []=>false
 | j::l=>Nat.beq i j||Aj i l
theorem rF{i:Nat} : ∀ {l:List Nat},Aj i l=false->i ∉ l
 | [],_,h=>by cases h
 | j::l,h,hm=>by
  have h':(Nat.beq i j||Aj i l)=false:=h;rw[Bool.or_eq_false_iff]at h';rcases List.mem_cons.1 hm with e | hm
  ·subst e
   rw[Nat.beq_refl]at h';cases h'.1
  ·exact rF h'.2 hm
noncomputable def nt(n:Nat):List Nat->Bool
 | []=>true
 | i::l=>Nat.blt i n&&(!(Aj i l)&&nt n l)
theorem BB{n:Nat} : ∀ {l:List Nat},nt n l=true->(∀ i ∈ l,i<n)/\l.Nodup
 | [],_=>⟨(λi h=>by cases h),List.nodup_nil⟩
 | i::l,h=>by
  have h':(Nat.blt i n&&(!(Aj i l)&&nt n l))=true:=h;simp only[Bool.and_eq_true,Bool.not_eq_true']at h';obtain⟨k1,k2⟩:=BB h'.2.2;refine⟨λj hj=>?_,List.nodup_cons.2 ⟨rF h'.2.1,k2⟩⟩;rcases List.mem_cons.1 hj with rfl | hj
  ·exact Nat.le_of_ble_eq_true h'.1
  ·exact k1 j hj
def sel(l:List aG)(idx:List Nat):List aG:=idx.map λi=>l.getD i I5
theorem vQ{l:List aG}{F:Nat->Prop}{w:World}(h:cG l F w)(idx:List Nat)(hi:nt l.length idx=true):∃ F',cG (sel l idx) F' w/\∀ j,F' j->F j:=by
 obtain⟨h1,h2⟩:=BB hi;obtain⟨⟨Fs,q⟩,lt⟩:=h;have key:∀ (i:Nat) f,(idx.map λi=>Fs.getD i (λ_=>False))[i]? = some f->∃ k,idx[i]? = some k/\Fs[k]? = some f:=by
  intro i f hf;rw[List.getElem?_map]at hf;cases hk:idx[i]? with
  | none=>rw[hk]at hf;cases hf
  | some k =>
   rw[hk]at hf;have hlt:k<Fs.length:=by rw[q.len];exact h1 k (List.mem_of_getElem? hk)
   refine⟨k,rfl,?_⟩;rw[List.getElem?_eq_getElem hlt];have:Fs.getD k (λ_=>False)=f:=Option.some.inj hf;rw[List.getD_eq_getElem?_getD,List.getElem?_eq_getElem hlt]at this;exact congrArg some this
 refine⟨λx=>∃ (i:Nat) (f:Nat->Prop),(idx.map λi=>Fs.getD i (λ_=>False))[i]? = some f/\f x,⟨⟨idx.map λi=>Fs.getD i (λ_=>False),by simp[sel],λi a f k1 k2=>?_,λi j f f' hij k1 k2 x hx hx'=>?_,λx=>Iff.rfl⟩,?_⟩,?_⟩
 ·obtain⟨k,e1,e2⟩:=key i f k2
  unfold sel at k1;rw[List.getElem?_map,e1]at k1;have hlt:k<l.length:=h1 k (List.mem_of_getElem? e1);have:l.getD k I5=a:=Option.some.inj k1;rw[List.getD_eq_getElem?_getD,List.getElem?_eq_getElem hlt]at this;exact q.holds k a f (by rw[List.getElem?_eq_getElem hlt];exact congrArg some this) e2
 ·obtain⟨k,e1,e2⟩:=key i f k1
  obtain⟨k',KX,e2'⟩:=key j f' k2;refine q.apart k k' f f' (λe=>hij ?_) e2 e2' x hx hx';subst e;exact(List.getElem?_inj (List.getElem?_eq_some_iff.1 e1).1 h2).1 (e1.trans KX.symm)
 ·rintro j ⟨i,f,k1,k2⟩
  obtain⟨k,e1,e2⟩:=key i f k1;exact lt j ((q.all j).2 ⟨k,f,e2,k2⟩)
 ·rintro j ⟨i,f,k1,k2⟩
  obtain⟨k,e1,e2⟩:=key i f k1;exact(q.all j).2 ⟨k,f,e2,k2⟩
structure af(c:dc)(l:List aG)(w:World):Prop where
 ex:∃ F,cG l F w/\Turn c.X c.W w/\∀ j,F j->c.X j\/c.W.heap.size<=j
theorem af.start{l:List aG}{F:Nat->Prop}{w:World}(h:cG l F w):af ⟨w,F⟩ l w:=⟨⟨F,h,⟨rfl,rfl,rfl,Nat.le_refl _,λ_ _ _=>rfl⟩,λ_ h=>.inl h⟩⟩
theorem af.sel{c:dc}{l:List aG}{w:World}(h:af c l w)(idx:List Nat)(hi:nt l.length idx=true:=by kernel_rfl):af c (Ev.sel l idx) w:=by
 obtain⟨F,h1,h2,h3⟩:=h.ex;obtain⟨F',k1,k2⟩:=vQ h1 idx hi;exact⟨⟨F',k1,h2,λj hj=>h3 j (k2 j hj)⟩⟩
theorem af.old{c:dc}{l:List aG}{w:World}(h:af c l w):oj c.W c.X w:=by
 obtain⟨F,h1,h2,h3⟩:=h.ex;exact λj hj hx=>h2.block j hj hx
theorem af.same{c:dc}{l:List aG}{w:World}(h:af c l w):Same c.W w:=by
 obtain⟨F,h1,h2,h3⟩:=h.ex;exact h2.same
theorem af.head{c:dc}{a b:aG}{l:List aG}{w:World}(h:af c (a::l) w)(hab:∀ f,a.p (λ_=>none) f w->b.p (λ_=>none) f w):af c (b::l) w:=by
 obtain⟨F,h1,h2,h3⟩:=h.ex;obtain⟨Fa,Fl,k1,k2,k3,k4⟩:=bI h1;exact⟨⟨F,cF (bP (hab Fa k1) k2 (λj hj=>h1.lt j ((k4 j).2 (.inl hj))) k3) (λj=>(k4 j).symm),h2,h3⟩⟩
theorem af.yi{c:dc}{a:aG}{l:List aG}{w:World}{β:Type}{b:β->aG}{p:β->Prop}(h:af c (a::l) w)(hab:∀ f,a.p (λ_=>none) f w->∃ x,p x/\(b x).p (λ_=>none) f w):∃ x,p x/\af c (b x::l) w:=by
 obtain⟨F,h1,h2,h3⟩:=h.ex;obtain⟨Fa,Fl,k1,k2,k3,k4⟩:=bI h1;obtain⟨x,hx,k1'⟩:=hab Fa k1;exact⟨x,hx,⟨⟨F,cF (bP k1' k2 (λj hj=>h1.lt j ((k4 j).2 (.inl hj))) k3) (λj=>(k4 j).symm),h2,h3⟩⟩⟩
theorem af.first{c:dc}{a:aG}{l:List aG}{w:World}(h:af c (a::l) w):∃ f,a.p (λ_=>none) f w:=by
 obtain⟨F,h1,h2,h3⟩:=h.ex;obtain⟨Fa,Fl,k1,k2,k3,k4⟩:=bI h1;exact⟨Fa,k1⟩
theorem af.into{c:dc}{l m:List aG}{F:Nat->Prop}{w w':World}(h:af ⟨w,F⟩ m w')(hc:Turn c.X c.W w)(hF:∀ j,F j->c.X j\/c.W.heap.size<=j):af c m w':=by
 obtain⟨G,h1,h2,h3⟩:=h.ex;refine⟨⟨G,h1,⟨h2.os.trans hc.os,h2.tape.trans hc.tape,h2.output.trans hc.output,Nat.le_trans hc.size h2.size,λj hj hn=>?_⟩,λj hj=>?_⟩⟩
 ·refine(h2.block j (Nat.lt_of_lt_of_le hj hc.size) (λhf=>?_)).trans (hc.block j hj hn)
  rcases hF j hf with h | h
  ·exact hn h
  ·omega
 ·rcases h3 j hj with h | h
  ·exact hF j h
  ·exact .inr (Nat.le_trans hc.size h)
theorem af.below{c:dc}{l:List aG}{w:World}(h:af c l w)(hX:∀ j,¬ c.X j):Below c.W.heap.size c.W w:=by
 obtain⟨F,h1,h2,h3⟩:=h.ex;exact⟨h2.os,h2.tape,h2.output,h2.size,λj hj=>h2.block j hj (hX j)⟩
def rG[bg](κ:am):Value->Value
 | .map (some id)=>.map (some ((κ id).getD 0))
 | .slice (some ⟨id,off,none⟩) n c=>.slice (some ⟨(κ id).getD 0,off,none⟩) n c
 | v=>sG κ v
def fE[bg]:Nat->am->Value->Value
 | 0,κ,v=>rG κ v
 | n+1,κ,v=>match v with
  | .agg f=>.agg (f.toList.map (fE n κ)).toArray
  | .tuple f=>.tuple (f.toList.map (fE n κ)).toArray
  | .iface t v=>.iface t (fE n κ v)
  | .func fn f c=>.func fn (f.toList.map (fE n κ)).toArray (c.toList.map (fE n κ)).toArray
  | v=>rG κ v
def mf:Fn->Bool
 | .yield _=>true
 | _=>false
def NA:Value->Bool
 | .map (some _)=>true
 | .slice (some ⟨id,_,none⟩) _ _=>!(iF id)
 | v=>Lt v
def ze:Nat->Value->Bool
 | 0,v=>NA v
 | n+1,v=>match v with
  | .agg f=>f.toList.all (ze n)
  | .tuple f=>f.toList.all (ze n)
  | .iface _ v=>ze n v
  | .func fn f c=>!(mf fn)&&(f.toList.all (ze n)&&c.toList.all (ze n))
  | v=>NA v
def OA(rn:List (Nat×Nat)):Value->Bool
 | .map (some id)=>(bE rn id).isSome
 | .pointer (some ⟨id,_,none⟩)=>(bE rn id).isSome
 | .pointer none | .slice none 0 0 | .map none | .nilFunc | .nilIface=>true
 | v=>eG v
def yj(rn:List (Nat×Nat)):Nat->Value->Bool
 | 0,v=>OA rn v
 | n+1,v=>match v with
  | .agg f=>f.toList.all (yj rn n)
  | .tuple f=>f.toList.all (yj rn n)
  | .iface _ v=>yj rn n v
  | .func fn f c=>!(mf fn)&&(f.toList.all (yj rn n)&&c.toList.all (yj rn n))
  | v=>OA rn v
theorem yk{κ:am}[bg]{v v':Value}(h:ao κ v v')(hk:NA v=true):v'=rG κ v:=by
 cases h with
 | map id b h=>simp[rG,h]
 | slice id off b n c c' h h0 h1 h2 h3 =>
  have hg:iF id=false:=by simpa[NA] using hk
  rw[← h0 hg];simp[rG,h]
 | dz id off b h h0=>simp[rG,h]
 | ptr id off b h=>exact od (.ptr id off b h) hk
 | oX=>rfl
 | dn=>rfl
 | mX=>rfl
 | nilFunc=>rfl
 | nilIface=>rfl
 | sym n m _ h=>exact od (κ:=κ) (.sym n m _ h) hk
 | dyn id c _ h h'=>exact od (.dyn id c _ h h') hk
 | qD id c j _ h h'=>exact od (.qD id c j _ h h') hk
 | bool=>rfl
 | int=>rfl
 | float=>rfl
 | string=>rfl
 | _=>first | cases hk | (simp[NA,Lt,eG]at hk)
theorem rH{κ:am}[bg]{n:Nat}{f f':Array Value}(hf:f.size=f'.size)(h:∀ (i:Nat) (v v':Value),f[i]? = some v->f'[i]? = some v'->ao κ v v')(hk:f.toList.all (ze n)=true)(ih:∀ v v',ao κ v v'->ze n v=true->v'=fE n κ v):f'=(f.toList.map (fE n κ)).toArray:=by
 rw[List.all_eq_true]at hk;apply Array.ext (by simp[hf]);intro i h1 h2;have h3:i<f.size:=by rw[hf];exact h1
 rw[ih f[i] f'[i] (h i _ _ (Array.getElem?_eq_getElem h3) (Array.getElem?_eq_getElem h1)) (hk _ (by simp))];simp
theorem rI{κ:am}[bg]:∀ (n:Nat) {v v':Value},ao κ v v'->ze n v=true->v'=fE n κ v:=by
 intro n
 induction n with
 | zero=>exact λh hk=>yk h hk
 | succ n ih =>
  intro v v' h hk;cases v with
  | agg f=>cases h with | agg _ f' hf h=>exact congrArg Value.agg (rH hf h hk (λv v'=>ih))
  | tuple f=>cases h with | tuple _ f' hf h=>exact congrArg Value.tuple (rH hf h hk (λv v'=>ih))
  | iface t v=>cases h with | iface _ _ v' h=>exact congrArg (Value.iface t) (ih h hk)
  | func fn f c =>
   have hk':(!(mf fn)&&(f.toList.all (ze n)&&c.toList.all (ze n)))=true:=hk;simp only[Bool.and_eq_true]at hk';cases h with
   | func _ _ f' _ c' hy hf hc h h' =>
    rw[rH hf h hk'.2.1 (λv v'=>ih),rH hc h' hk'.2.2 (λv v'=>ih)];rfl
   | yield=>exact absurd hk'.1 (by simp[mf])
  | _=>exact yk h hk
theorem BD{rn:List (Nat×Nat)}{id:Nat}(h:(bE rn id).isSome=true):bE rn id=some ((bE rn id).getD 0):=by
 cases hr:bE rn id with
 | none=>rw[hr]at h;cases h
 | some b=>rfl
theorem Kh{rn:List (Nat×Nat)}[bg]{v:Value}(hk:OA rn v=true):ao (bE rn) v (rG (bE rn) v):=by
 unfold OA at hk
 split at hk
 ·exact .map _ _ (BD hk)
 ·exact .ptr _ _ _ (BD hk)
 ·exact .oX
 ·exact .dn
 ·exact .mX
 ·exact .nilFunc
 ·exact .nilIface
 ·unfold eG at hk
  split at hk<;>first | exact .bool _ | exact .int _ _ | exact .float _ _ | exact .string _ | exact .sym _ _ _ rfl | contradiction | cases hk
theorem vR{rn:List (Nat×Nat)}[bg]{n:Nat}{f:Array Value}(hk:f.toList.all (yj rn n)=true)(ih:∀ v,yj rn n v=true->ao (bE rn) v (fE n (bE rn) v)):f.size=(f.toList.map (fE n (bE rn))).toArray.size/\∀ (i:Nat) (v v':Value),f[i]? = some v->(f.toList.map (fE n (bE rn))).toArray[i]? = some v'->ao (bE rn) v v':=by
 rw[List.all_eq_true]at hk;refine⟨by simp,λi v v' h1 h2=>?_⟩;simp[h1]at h2;subst h2;exact ih v (hk v (by obtain⟨h3,rfl⟩:=Array.getElem?_eq_some_iff.1 h1;simp))
theorem yl{rn:List (Nat×Nat)}[bg]:∀ (n:Nat) (v:Value),yj rn n v=true->ao (bE rn) v (fE n (bE rn) v):=by
 intro n
 induction n with
 | zero=>exact λv hk=>Kh hk
 | succ n ih =>
  intro v hk;cases v with
  | agg f=>obtain⟨h1,h2⟩:=vR hk ih;exact .agg _ _ h1 h2
  | tuple f=>obtain⟨h1,h2⟩:=vR hk ih;exact .tuple _ _ h1 h2
  | iface t v=>exact .iface _ _ _ (ih _ hk)
  | func fn f c =>
   have hk':(!(mf fn)&&(f.toList.all (yj rn n)&&c.toList.all (yj rn n)))=true:=hk;simp only[Bool.and_eq_true]at hk';obtain⟨h1,h2⟩:=vR hk'.2.1 ih;obtain⟨h3,h4⟩:=vR hk'.2.2 ih;exact .func fn _ _ _ _ (λl e=>by rw[e]at hk';simp[mf]at hk') h1 h3 h2 h4
  | _=>exact Kh hk
def Tm(l:List (Nat×Value))(A:Act):Prop:=∀ p ∈ l,A.tmps.getD p.1 undef=p.2
structure At(c:dc)(N:Nat)(tm:List (Nat×Value))(l:List aG)(A:Act)(w:World):Prop where
 sz:A.tmps.size=N
 df:A.defers=[]
 tm:Tm tm A
 hold:af c l w
def NB(P:Program)(f:FuncId)(p:List Nat)(i k N:Nat)(c:dc)(tm:List (Nat×Value))(l:List aG)(ex:Exit){α:Type}(tm':α->List (Nat×Value))(l':α->List aG):Prop :=
 ∀ (A:Act) (w:World) (Q:Exit->Act->World->Prop),At c N tm l A w->(∀ x A1 w1,At c N (tm' x) (l' x) A1 w1->Exit.then (og P (Ad P f p (i+k)) Q) Q ex A1 w1)->og P (Ad P f p i) Q A w
def ce(P:Program)(f:FuncId)(p:List Nat)(i N:Nat)(c:dc)(tm:List (Nat×Value))(l:List aG){α:Type}(r:α->Value)(l':α->List aG):Prop :=
 ∀ (A:Act) (w:World) (R:Ending->World->Prop),At c N tm l A w->(∀ x w1,af c (l' x) w1->R (.returned (r x)) w1)->og P (Ad P f p i) (bodyPostM Fence.wide 0 P (kJ P f) R) A w
def gT[bg](κ:am)(q:ic):aG:=aH ((κ q.1).getD 0) (q.2.1.map (fE 3 κ)) q.2.2
def H1[bg](κ:am)(p:Nat×Value):Nat×Value:=(p.1,fE 3 κ p.2)
noncomputable def FA:List Nat->Bool
 | []=>true
 | i::l=>!(Aj i l)&&FA l
theorem vS:∀ {l:List Nat},FA l=true->l.Nodup
 | [],_=>List.nodup_nil
 | i::l,h=>by
  have h':(!(Aj i l)&&FA l)=true:=h;simp only[Bool.and_eq_true,Bool.not_eq_true']at h';exact List.nodup_cons.2 ⟨rF h'.1,vS h'.2⟩
noncomputable def tY(rn:List (Nat×Nat))(dE:List (Nat×Value))(bl:List ic)(jx:List (Nat×Value))(fK:List ic):Bool :=
 MB (rn.map Prod.fst) (bl.map Prod.fst)&&(FA (rn.map Prod.fst)&&(FA (fK.map Prod.fst)&&(dE.all (λp=>yj rn 3 p.2)&&(bl.all (λq=>q.2.1.all (yj rn 3))&&(jx.all (λp=>ze 3 p.2)&&fK.all (λq=>q.2.1.all (ze 3)))))))
theorem oo:∀ {rn:List (Nat×Nat)},(rn.map Prod.fst).Nodup->∀ {p:Nat×Nat},p ∈ rn->bE rn p.1=some p.2
 | [],_,p,h=>by cases h
 | q::rn,hn,p,h=>by
  rw[List.map_cons,List.nodup_cons]at hn;unfold bE;rw[List.find?_cons];rcases List.mem_cons.1 h with e | h
  ·subst e
   simp
  ·have hne:(q.1==p.1)=false:=by
    have:q.1≠p.1:=λe=>hn.1 (by rw[e];exact List.mem_map_of_mem h)
    simpa using this
   rw[hne];exact oo hn.2 h
theorem I6{rn:List (Nat×Nat)}[bg]{bl:List ic}{gl:List aG}{F:Nat->Prop}{w:World}(Ah:rn.map Prod.fst=bl.map Prod.fst)(hn:(rn.map Prod.fst).Nodup)(hk:∀ q ∈ bl,∀ v ∈ q.2.1,yj rn 3 v=true)(h:cG (bl.map (gT (bE rn))++gl) F w) :
  ∃ F',vK rn bl F' w/\cG gl F' w/\∀ j,F j↔(∃ p ∈ rn,p.2=j)\/F' j:=by
 obtain⟨F1,F2,h1,h2,h3,h4⟩:=cL h;obtain⟨⟨Fs,q⟩,lt⟩:=h1;have hmem:∀ x ∈ bl,∃ b,(x.1,b) ∈ rn/\bE rn x.1=some b:=λx hx=>by
  have:x.1 ∈ rn.map Prod.fst:=by rw[Ah];exact List.mem_map_of_mem hx
  obtain⟨p,hp,e⟩:=List.mem_map.1 this;exact⟨p.2,by rw[← e];exact hp,by rw[← e];exact oo hn hp⟩
 have hback:∀ p ∈ rn,∃ x ∈ bl,x.1=p.1:=λp hp=>by
  have:p.1 ∈ bl.map Prod.fst:=by rw[← Ah];exact List.mem_map_of_mem hp
  obtain⟨x,hx,e⟩:=List.mem_map.1 this;exact⟨x,hx,e⟩
 have part:∀ (i:Nat) x,bl[i]? = some x->∃ f,Fs[i]? = some f/\(∀ j,f j↔j=(bE rn x.1).getD 0)/\w.heap[(bE rn x.1).getD 0]? = some (.cells (x.2.1.map (fE 3 (bE rn))).toArray x.2.2 (0,0)):=by
  intro i x hx;have hl:(bl.map (gT (bE rn)))[i]? = some (gT (bE rn) x):=by rw[List.getElem?_map,hx];rfl
  have hlt:i<Fs.length:=by rw[q.len];exact(List.getElem?_eq_some_iff.1 hl).1
  have:=q.holds i _ _ hl (List.getElem?_eq_getElem hlt);exact⟨_,List.getElem?_eq_getElem hlt,this.1,this.2⟩
 have hF1:∀ j,F1 j↔∃ p ∈ rn,p.2=j:=by
  intro j;rw[q.all];constructor
  ·rintro⟨i,f,k1,k2⟩
   have hlt:i<bl.length:=by have:=(List.getElem?_eq_some_iff.1 k1).1;rw[q.len]at this;simpa using this
   obtain⟨f',e1,e2,e3⟩:=part i bl[i] (List.getElem?_eq_getElem hlt);rw[k1]at e1;cases e1;obtain⟨b,m1,m2⟩:=hmem bl[i] (by simp);rw[m2]at e2;exact⟨_,m1,((e2 j).1 k2).symm⟩
  ·rintro⟨p,hp,e⟩
   obtain⟨x,hx,ex⟩:=hback p hp;obtain⟨i,hi,ei⟩:=List.getElem_of_mem hx;obtain⟨f',e1,e2,e3⟩:=part i x (by rw[List.getElem?_eq_getElem hi,ei]);refine⟨i,f',e1,(e2 j).2 ?_⟩;rw[ex,oo hn hp];exact e.symm
 refine⟨F2,⟨λx hx=>?_,λp hp p' hp' e=>?_,λp hp hf=>h3 p.2 ((hF1 _).2 ⟨p,hp,rfl⟩) hf⟩,h2,λj=>by rw[h4 j,hF1 j]⟩
 ·obtain⟨i,hi,ei⟩:=List.getElem_of_mem hx
  obtain⟨f',e1,e2,e3⟩:=part i x (by rw[List.getElem?_eq_getElem hi,ei]);obtain⟨b,m1,m2⟩:=hmem x hx;rw[m2]at e3;refine⟨b,x.2.1.map (fE 3 (bE rn)),m2,e3,by simp,λi v v' a1 a2=>?_⟩;rw[List.getElem?_map,a1]at a2;cases a2;exact yl 3 v (hk x hx v (List.mem_of_getElem? a1))
 ·obtain⟨x,hx,ex⟩:=hback p hp
  obtain⟨x',hx',ex'⟩:=hback p' hp';obtain⟨i,hi,ei⟩:=List.getElem_of_mem hx;obtain⟨i',hi',QE⟩:=List.getElem_of_mem hx';obtain⟨f,a1,a2,_⟩:=part i x (by rw[List.getElem?_eq_getElem hi,ei]);obtain⟨f',b1,b2,_⟩:=part i' x' (by rw[List.getElem?_eq_getElem hi',QE]);rw[ex,oo hn hp]at a2;rw[ex',oo hn hp']at b2
  by_cases hii:i=i'
  ·subst hii
   rw[← ex,← ex',← ei,← QE]
  ·exact(q.apart i i' f f' hii a1 b1 p.2 ((a2 _).2 rfl) ((b2 _).2 e)).elim
theorem ym[bg]{κ:am}{w:World} : ∀ (bl:List ic),(bl.map Prod.fst).Nodup->(∀ q ∈ bl,∀ v ∈ q.2.1,ze 3 v=true)->(∀ q ∈ bl,∃ b c',κ q.1=some b/\w.heap[b]? = some (.cells c' q.2.2 (0,0))/\bN κ q.2.1.toArray c')->(∀ q ∈ bl,∀ q' ∈ bl,κ q.1=κ q'.1->q.1=q'.1)->
  cG (bl.map (gT κ)) (λj=>∃ q ∈ bl,κ q.1=some j) w
 | [],_,_,_,_=>cF (kL w) (λj=>⟨λh=>h.elim,λ⟨q,h,_⟩=>by cases h⟩)
 | q::bl,hn,hk,hc,hi=>by
  rw[List.map_cons,List.nodup_cons]at hn;obtain⟨b,c',e1,e2,e3⟩:=hc q (List.mem_cons_self ..);have ih:=ym bl hn.2 (λx hx=>hk x (List.mem_cons_of_mem _ hx)) (λx hx=>hc x (List.mem_cons_of_mem _ hx)) (λx hx y hy=>hi x (List.mem_cons_of_mem _ hx) y (List.mem_cons_of_mem _ hy));have ec:c'=(q.2.1.map (fE 3 κ)).toArray:=by
   have:=rH (f:=q.2.1.toArray) (f':=c') (n:=3) e3.1 e3.2 (by rw[List.all_eq_true];exact λv hv=>hk q (List.mem_cons_self ..) v (by simpa using hv)) (λv v'=>rI 3);simpa using this
  subst ec;have eb:(κ q.1).getD 0=b:=by rw[e1];rfl
  refine cF (bP (a:=gT κ q) (Fa:=λj=>j=b) ⟨λj=>by rw[eb],by rw[eb];exact e2⟩ ih (λj hj=>by rw[hj];exact(Array.getElem?_eq_some_iff.1 e2).1) (λj hj ⟨x,hx,ex⟩=>?_)) (λj=>?_)
  ·rw[hj]at ex
   exact hn.1 (by rw[hi q (List.mem_cons_self ..) x (List.mem_cons_of_mem _ hx) (e1.trans ex.symm)];exact List.mem_map_of_mem hx)
  ·constructor
   ·rintro(h | ⟨x,hx,ex⟩)
    ·exact⟨q,List.mem_cons_self ..,by rw[h];exact e1⟩
    ·exact⟨x,List.mem_cons_of_mem _ hx,ex⟩
   ·rintro⟨x,hx,ex⟩
    rcases List.mem_cons.1 hx with e | hx
    ·subst e
     rw[e1]at ex;exact .inl (Option.some.inj ex).symm
    ·exact .inr ⟨x,hx,ex⟩
noncomputable def sm(gb:Nat->Value):Nat->Nat->List (Nat×Value)->List Value
 | 0,_,_=>[]
 | n+1,i,[]=>gb i::sm gb n (i+1) []
 | n+1,i,p::l=>@Bool.rec (λ_=>List Value) (gb i::sm gb n (i+1) (p::l)) (p.2::sm gb n (i+1) l) (Nat.beq p.1 i)
theorem qw(gb:Nat->Value):∀ (n i:Nat) (l:List (Nat×Value)),(sm gb n i l).length=n/\∀ (j:Nat) v,(sm gb n i l)[j]? = some v->v=gb (i+j)\/(i+j,v) ∈ l
 | 0,i,l=>⟨rfl,λj v h=>by cases h⟩
 | n+1,i,[]=>by
  obtain⟨h1,h2⟩:=qw gb n (i+1) [];refine⟨by show(gb i::sm gb n (i+1) []).length=_;rw[List.length_cons,h1],λj v h=>?_⟩
  match j with
  | 0=>cases h;exact .inl rfl
  | j+1 =>
   have:=h2 j v h;rw[show i+1+j=i+(j+1) by omega]at this;exact this
 | n+1,i,p::l=>by
  show(@Bool.rec (λ_=>List Value) (gb i::sm gb n (i+1) (p::l)) (p.2::sm gb n (i+1) l) (Nat.beq p.1 i)).length=_/\∀ (j:Nat) v,(@Bool.rec (λ_=>List Value) (gb i::sm gb n (i+1) (p::l)) (p.2::sm gb n (i+1) l) (Nat.beq p.1 i))[j]? = some v->_;cases hb:Nat.beq p.1 i with
  | true =>
   have e:=Nat.eq_of_beq_eq_true hb;obtain⟨h1,h2⟩:=qw gb n (i+1) l;refine⟨by show(p.2::sm gb n (i+1) l).length=_;rw[List.length_cons,h1],λj v h=>?_⟩
   match j with
   | 0=>cases h;exact .inr (by rw[Nat.add_zero,← e];exact List.mem_cons_self ..)
   | j+1 =>
    have:=h2 j v h;rw[show i+1+j=i+(j+1) by omega]at this;exact this.imp id (List.mem_cons_of_mem _)
  | false =>
   obtain⟨h1,h2⟩:=qw gb n (i+1) (p::l);refine⟨by show(gb i::sm gb n (i+1) (p::l)).length=_;rw[List.length_cons,h1],λj v h=>?_⟩
   match j with
   | 0=>cases h;exact .inl rfl
   | j+1 =>
    have:=h2 j v h;rw[show i+1+j=i+(j+1) by omega]at this;exact this
theorem I7[bg]{A:Act}{N:Nat}(hN:A.tmps.size=N){ι:am}(live:List (Nat×Value))(hl:∀ p ∈ live,ao ι p.2 (A.tmps.getD p.1 undef)):∃ gb:Nat->Value,dL ι (sm gb N 0 live) A.tmps.toList:=by
 have h:∀ i,∃ v:Value,∀ ι:am,ao ι v (A.tmps.getD i undef):=λi=>vL _
 obtain⟨k1,k2⟩:=qw (λi=>Classical.choose (h i)) N 0 live;refine⟨λi=>Classical.choose (h i),by rw[k1];simp[hN],λi v v' h1 h2=>?_⟩;have e:v'=A.tmps.getD i undef:=by
  rw[Array.getElem?_toList]at h2;rw[Array.getD_eq_getD_getElem?,h2];rfl
 rcases k2 i v h1 with hv | hv
 ·rw[hv,e,Nat.zero_add]
  exact Classical.choose_spec (h i) ι
 ·rw[e]
  have:=hl _ hv;rw[Nat.zero_add]at this;exact this
theorem yn{rn:List (Nat×Nat)}{dE jx:List (Nat×Value)}{bl fK:List ic}(h:tY rn dE bl jx fK=true) :
  rn.map Prod.fst=bl.map Prod.fst/\(rn.map Prod.fst).Nodup/\(fK.map Prod.fst).Nodup/\(∀ p ∈ dE,yj rn 3 p.2=true)/\(∀ q ∈ bl,∀ v ∈ q.2.1,yj rn 3 v=true)/\(∀ p ∈ jx,ze 3 p.2=true)/\∀ q ∈ fK,∀ v ∈ q.2.1,ze 3 v=true:=by
 unfold tY at h;simp only[Bool.and_eq_true,List.all_eq_true]at h;obtain⟨h1,h2,h3,h4,h5,h6,h7⟩:=h;exact⟨zU h1,vS h2,vS h3,h4,h5,h6,h7⟩
theorem BE(k:Kn){c:dc}{N g:Nat}{rn:List (Nat×Nat)}{bl:List ic}{gl:List aG}{dE:List (Nat×Value)}(hg:k.gs[g]? = some (star (fU c.W c.X::gl)))(Ah:rn.map Prod.fst=bl.map Prod.fst)(hn:(rn.map Prod.fst).Nodup)(hk0:∀ p ∈ dE,yj rn 3 p.2=true)(hkb:∀ q ∈ bl,∀ v ∈ q.2.1,yj rn 3 v=true)
  {A:Act} {w:World} (h:letI:bg:=k.sig;At c N (dE.map (H1 (bE rn))) (bl.map (gT (bE rn))++gl) A w):letI:bg:=k.sig;∃ F,vK rn bl F w/\bg.GR g (bE rn) F w/\(∀ j,F j->j<w.heap.size)/\∃ gb:Nat->Value,dL (bE rn) (sm gb N 0 dE) A.tmps.toList:=by
 letI:bg:=k.sig;obtain⟨sz,df,tm,hh⟩:=h;obtain⟨F,h1,h2,h3⟩:=hh.ex;obtain⟨F',b1,b2,b3⟩:=I6 Ah hn hkb h1
 have ho:cG (fU c.W c.X::gl) (λj=>(j<c.W.heap.size/\¬ c.X j)\/F' j) w:=bP ⟨λj=>Iff.rfl,λj hj hx=>h2.block j hj hx⟩ b2 (λj hj=>Nat.lt_of_lt_of_le hj.1 h2.size) (λj hj hf=>by
  rcases h3 j ((b3 j).2 (.inr hf)) with h | h
  ·exact hj.2 h
  ·omega)
 refine⟨_,⟨b1.there,b1.inj,λp hp hf=>?_⟩,⟨_,hg,(star _).mono (λ_=>none) _ _ w (λ_ _ e=>by cases e) ho.st⟩,ho.lt,I7 sz dE (λp hp=>?_)⟩
 ·rcases hf with hf | hf
  ·rcases h3 p.2 ((b3 _).2 (.inl ⟨p,hp,rfl⟩)) with h | h
   ·exact hf.2 h
   ·omega
  ·exact b1.out p hp hf
 ·have e:=tm (H1 (bE rn) p) (List.mem_map_of_mem hp)
  show ao _ p.2 (A.tmps.getD (H1 (bE rn) p).1 undef);rw[e];exact yl 3 p.2 (hk0 p hp)
theorem yo(k:Kn){c:dc}{g':Nat}{rn:List (Nat×Nat)}{fK:List ic}{wA:List aG}(hg':k.gs[g']? = some (star (fU c.W c.X::wA)))(hn1:(fK.map Prod.fst).Nodup)(hkb:∀ q ∈ fK,∀ v ∈ q.2.1,ze 3 v=true){F:Nat->Prop}{w w1:World}{κ:am}(hc:Same c.W w)(L:letI:bg:=k.sig;Left rn fK g' F w κ w1) :
  letI:bg:=k.sig;af c (fK.map (gT κ)++wA.map (yh κ)) w1:=by
 letI:bg:=k.sig;obtain⟨F',⟨a,q1,q2⟩,q3,q4⟩:=L.gh;rw[hg']at q1;cases q1;obtain⟨Fo,Fg,⟨o1,o2⟩,n1,n2,n3⟩:=bI (vP q2 (λj hj=>(q3 j hj).1));have nb:=ym fK hn1 hkb L.cls L.inj;have hnot:∀ j,¬ Fo j->c.X j\/c.W.heap.size<=j:=λj hj=>by
  rcases Nat.lt_or_ge j c.W.heap.size with h | h
  ·exact .inl (Classical.byContradiction λhx=>hj ((o1 j).2 ⟨h,hx⟩))
  ·exact .inr h
 have hs:=hc.trans L.turn.same;refine⟨⟨_,eQ nb n1 (λj ⟨q,hq,e⟩ hf=>q4 q hq j e ((n3 j).2 (.inr hf))),⟨hs.os,hs.tape,hs.output,hs.size,λj hj hx=>o2 j hj hx⟩,λj hj=>hnot j (λhf=>?_)⟩⟩;rcases hj with ⟨q,hq,e⟩ | hj
 ·exact q4 q hq j e ((n3 j).2 (.inl hf))
 ·exact n2 j hf hj
def vT(rn:List (Nat×Nat))(κ:am):am:=λid=>match bE rn id with | some b=>some b | none=>κ id
theorem Ak{rn:List (Nat×Nat)}{κ:am}(h:∀ id b,bE rn id=some b->κ id=some b):vT rn κ=κ:=by
 funext id
 unfold vT;cases hr:bE rn id with
 | none=>rfl
 | some b=>exact(h id b hr).symm
theorem Rv{P:Program}(hP:P.check=.ok ())(hm:P.follows .mixedOrders=true)(k:Kn)(dh:@dH k.sig P){n m N i kk:Nat}{f:FuncId}{p:List Nat}{c:dc}(rn:List (Nat×Nat))(bl fK:List ic)(g g':Nat)(gl wA:List aG)(hg:k.gs[g]? = some (star (fU c.W c.X::gl)))(hg':k.gs[g']? = some (star (fU c.W c.X::wA)))(dE jx:List (Nat×Value))(ex:Exit)(hk:tY rn dE bl jx fK=true)
  (run:∀ gb:Nat->Value,letI:bg:=k.sig;d9 P (λB=>nq B f p (λ_ c=>Nat.beq (sm gb N 0 dE).length N&&(Nat.ble N 4094&&(tu m rn bl&&yc ex jx fK g' (kY (sm gb N 0 dE) 0 .leaf (λt=>hJ B n N kk ((flat c).drop i) t (fi (eo bl g) m)))))))=true) :
  letI:bg:=k.sig;NB P f p i kk N c (dE.map (H1 (bE rn))) (bl.map (gT (bE rn))++gl) ex (λκ:am=>jx.map (H1 (vT rn κ))) (λκ:am=>fK.map (gT (vT rn κ))++wA.map (yh (vT rn κ))):=by
 letI:bg:=k.sig;intro A w Q hA hQ;obtain⟨k1,k2,k3,k4,k5,k6,k7⟩:=yn hk;obtain⟨F,b1,b2,b3,gb,b4⟩:=BE k hg k1 k2 k4 k5 hA
 refine IZ hP dh hm (run gb) b1 b2 b3 b4 hA.df (λκ A1 w1 sz df lv L=>hQ κ A1 w1 (by
  show At c N (jx.map (H1 (vT rn κ))) (fK.map (gT (vT rn κ))++wA.map (yh (vT rn κ))) A1 w1;rw[Ak L.old]
  exact⟨sz,df,λq hq=>by
   obtain⟨p0,hp0,rfl⟩:=List.mem_map.1 hq
   exact rI 3 (lv p0 hp0) (k6 p0 hp0),yo k hg' k3 k7 hA.hold.same L⟩))
theorem Py{P:Program}(hP:P.check=.ok ())(hm:P.follows .mixedOrders=true)(k:Kn)(dh:@dH k.sig P){n m N i kk:Nat}{f:FuncId}{p:List Nat}{c:dc}(rn:List (Nat×Nat))(bl fK:List ic)(g g':Nat)(gl wA:List aG)(hg:k.gs[g]? = some (star (fU c.W c.X::gl)))(hg':k.gs[g']? = some (star (fU c.W c.X::wA)))(dE:List (Nat×Value))(r:Value)(hk:tY rn dE bl [(0,r)] fK=true)
  (run:∀ gb:Nat->Value,letI:bg:=k.sig;d9 P (λB=>nq B f p (λfn c=>Nat.beq (sm gb N 0 dE).length N&&(Nat.beq fn.ntmps N&&(Nat.ble N 4094&&(tu m rn bl&&((fK.all (λq=>Nat.beq (q.1%4) 0)&&isNil ((flat c).drop (i+kk)))&&i7 r fK (some g') (kY (sm gb N 0 dE) 0 .leaf (λt=>vo B.P fn (hJ B n N kk ((flat c).drop i) t (fi (eo bl g) m))))))))))=true) :
  letI:bg:=k.sig;ce P f p i N c (dE.map (H1 (bE rn))) (bl.map (gT (bE rn))++gl) (λκ:am=>fE 3 (vT rn κ) r) (λκ:am=>fK.map (gT (vT rn κ))++wA.map (yh (vT rn κ))):=by
 letI:bg:=k.sig;intro A w R hA hQ;obtain⟨k1,k2,k3,k4,k5,k6,k7⟩:=yn hk;obtain⟨F,b1,b2,b3,gb,b4⟩:=BE k hg k1 k2 k4 k5 hA;refine I0 hP dh hm (run gb) b1 b2 b3 b4 hA.df (λκ v' w1 hv L=>?_);rw[rI 3 hv (k6 _ (List.mem_singleton.2 rfl)),← congrArg (λκ=>fE 3 κ r) (Ak L.old)]
 exact hQ κ w1 (by
  show af c (fK.map (gT (vT rn κ))++wA.map (yh (vT rn κ))) w1;rw[Ak L.old]
  exact yo k hg' k3 k7 hA.hold.same L)
theorem pB{P:Program}{f:FuncId}{N:Nat}{args:Array Value}{l:List aG}{F:Nat->Prop}{w:World}{R:Ending->World->Prop}{tm:List (Nat×Value)}(hN:d9 P (λB=>nq B f [] (λfn _=>Nat.beq fn.ntmps N))=true)(hn:cG l F w)(ha:args.size<=N)(ht:∀ p ∈ tm,args[p.1]? = some p.2)
  (h:∀ A,At ⟨w,F⟩ N tm l A w->og P (Ad P f [] 0) (bodyPostM Fence.wide 0 P (kJ P f) R) A w):Calls P f args w R :=
 Ae hN (h _ ⟨Ai ha,rfl,λp hp=>C1 (ht p hp),af.start hn⟩)
theorem At.ret{P:Program}{f:FuncId}{i N:Nat}{v:Value}{c:dc}{tm:List (Nat×Value)}{l:List aG}{A:Act}{w:World}(h:At c N tm l A w)(hr:d9 P (λB=>nq B f [] (λfn _=>oh fn.results.toList [i]))=true)(hv:(i,v) ∈ tm){R:Ending->World->Prop}(hR:af c l w->R (.returned v) w):bodyPostM Fence.wide 0 P (kJ P f) R .ret A w :=
 Fp hr h.df (by rw[show A.tmps.getD i undef=v from h.tm _ hv];exact hR h.hold)
def FB(w:World):List aG->List aG->Prop
 | [],[]=>True
 | a::l,b::m=>(∀ f,a.p (λ_=>none) f w->b.p (λ_=>none) f w)/\FB w l m
 | _,_=>False
theorem yp:∀ {l m:List aG} {F:Nat->Prop} {w:World},FB w l m->cG l F w->cG m F w
 | [],[],_,_,_,h=>h
 | a::l,b::m,F,w,⟨h1,h2⟩,h=>by
  obtain⟨Fa,Fl,k1,k2,k3,k4⟩:=bI h;exact cF (bP (h1 Fa k1) (yp h2 k2) (λj hj=>h.lt j ((k4 j).2 (.inl hj))) k3) (λj=>(k4 j).symm)
 | [],_::_,_,_,h,_=>h.elim
 | _::_,[],_,_,h,_=>h.elim
theorem af.conv{c:dc}{l m:List aG}{w:World}(h:af c l w)(hi:FB w l m):af c m w:=by
 obtain⟨F,h1,h2,h3⟩:=h.ex;exact⟨⟨F,yp hi h1,h2,h3⟩⟩
theorem NB.conv{P:Program}{f:FuncId}{p:List Nat}{i k N:Nat}{c:dc}{tm:List (Nat×Value)}{l:List aG}{ex:Exit}{α:Type}{tm':α->List (Nat×Value)}{l' l'':α->List aG}(h:NB P f p i k N c tm l ex tm' l')(hi:∀ x w,FB w (l' x) (l'' x)):NB P f p i k N c tm l ex tm' l'' :=
 λA w Q hA hQ=>h A w Q hA (λx A1 w1 h1=>hQ x A1 w1 ⟨h1.sz,h1.df,h1.tm,h1.hold.conv (hi x w1)⟩)
theorem ce.conv{P:Program}{f:FuncId}{p:List Nat}{i N:Nat}{c:dc}{tm:List (Nat×Value)}{l:List aG}{α:Type}{r:α->Value}{l' l'':α->List aG}(h:ce P f p i N c tm l r l')(hi:∀ x w,FB w (l' x) (l'' x)):ce P f p i N c tm l r l'' :=
 λA w R hA hR=>h A w R hA (λx w1 h1=>hR x w1 (h1.conv (hi x w1)))
theorem fW{κ:am}{d:Nat}{a:Value->aG}{f:Nat->Prop}{w:World}(ha:∀ v,Flat (a v))(h:(yh κ (jE d a)).p (λ_=>none) f w):(a (dec ((κ d).getD 0))).p (λ_=>none) f w:=by
 obtain⟨c,h1,h2⟩:=h;rw[h1];exact ha _ _ _ _ _ h2
def la:List aG->Prop
 | []=>True
 | a::l=>Flat a/\la l
theorem pC:∀ {l:List aG},la l->∀ a ∈ l,Flat a
 | [],_,a,h=>by cases h
 | b::l,⟨h1,h2⟩,a,h=>by
  rcases List.mem_cons.1 h with rfl | h
  ·exact h1
  ·exact pC h2 a h
theorem af.frame{m r:List aG}{F G:Nat->Prop}{w w':World}(h:af ⟨w,F⟩ m w')(hr:cG r G w)(hd:∀ j,F j->¬ G j):af ⟨w,λj=>F j\/G j⟩ (m++r) w':=by
 obtain⟨F',h1,h2,h3⟩:=h.ex;have hr':=fV hr (λj hj=>h2.block j (hr.lt j hj) (λhf=>hd j hf hj)) h2.size;refine⟨⟨_,eQ h1 hr' (λj hj hg=>?_),⟨h2.os,h2.tape,h2.output,h2.size,λj hj hn=>h2.block j hj (λhf=>hn (.inl hf))⟩,λj hj=>hj.elim (λhj=>(h3 j hj).imp .inl id) (λhj=>.inl (.inr hj))⟩⟩;rcases h3 j hj with h | h
 ·exact hd j h hg
 ·have h0:w.heap.size<=j:=h
  have:=hr.lt j hg;omega
theorem I8{l m:List aG}{κ:am}{F:Nat->Prop}{w:World}(h:cG l F w)(hl:m.length=l.length)(hm:∀ (i:Nat) a b f,l[i]? = some a->m[i]? = some b->a.p (λ_=>none) f w->b.p κ f w):(star m).p κ F w:=by
 obtain⟨⟨Fs,q⟩,lt⟩:=h;refine⟨Fs,by rw[q.len,hl],λi b f h1 h2=>?_,q.apart,q.all⟩;have hi:i<l.length:=by rw[← hl];exact(List.getElem?_eq_some_iff.1 h1).1
 exact hm i l[i] b f (List.getElem?_eq_getElem hi) h1 (q.holds i _ f (List.getElem?_eq_getElem hi) h2)
theorem BF(l:List aG)(idx:List Nat)(ι:am):sel (l.map (yh ι)) idx=(sel l idx).map (yh ι):=by
 unfold sel;rw[List.map_map];refine List.map_congr_left (λi _=>?_);simp only[Function.comp,List.getD_eq_getElem?_getD,List.getElem?_map];cases l[i]? <;> rfl
theorem FC{k:Kn}{P:Program}{c:dc}{f:FuncId}{abs args:List Value}{g g':Nat}{gl lp LQ:List aG}{d0:Option Nat}{r:Value}(idx rest:List Nat)(hg:k.gs[g]? = some (star (fU c.W c.X::gl)))(hg':k.gs[g']? = some (star (fU c.W c.X::(LQ++sel gl rest))))(hsel:nt gl.length (idx++rest)=true)(hp:sel gl idx=lp)(hf:la lp)
  (ha:∀ ι l',(letI:bg:=k.sig;dL ι abs l')->l'=args)
  (con:∀ (w:World) (F:Nat->Prop),oj c.W c.X w->cG lp F w->(∀ j,F j->c.X j\/c.W.heap.size<=j)->Calls P f args.toArray w λe w'=>∃ (v:Value) (cd:Nat) (lv:List aG),e=.returned v/\af ⟨w,F⟩ lv w'/\LQ.length=lv.length/\
   ∀ (ι:am) (d:Nat),(∀ y,d0=some y->y=d)->ι d=none->(letI:bg:=k.sig;ao (ι.upd d cd) r v)/\∀ (i:Nat) a b ff,lv[i]? = some a->LQ[i]? = some b->a.p (λ_=>none) ff w'->b.p (ι.upd d cd) ff w'):fm k P ⟨f,abs,g,d0,r,some g'⟩:=by
 letI:bg:=k.sig;intro ι args' F w d hl h1 h2 h3 h4;have e:=ha ι _ hl;have ea:args'=args.toArray:=by rw[← e]
 subst ea;obtain⟨b,q1,q2⟩:=h1;rw[hg]at q1;cases q1;have hd:ι d=none:=h3.elim id (λh=>by cases h);obtain⟨Fo,Fg,⟨o1,o2⟩,n1,n2,n3⟩:=bI (l:=gl.map (yh ι)) (vP q2 h2);obtain⟨F',s1,s2⟩:=vQ n1 (idx++rest) (by rw[List.length_map];exact hsel);have hsp:sel (gl.map (yh ι)) (idx++rest)=lp.map (yh ι)++(sel gl rest).map (yh ι):=by
  rw[BF,← hp,← List.map_append];unfold sel;rw[List.map_append]
 rw[hsp]at s1;obtain⟨F1,F2,p1,p2,p3,p4⟩:=cL s1
 have pl:cG lp F1 w:=BA p1 (by simp) (λi a b ff e1 e2 h=>by
  rw[List.getElem?_map,e2]at e1;cases e1
  exact pC hf b (List.mem_of_getElem? e2) ι _ ff w h)
 have hFg:∀ j,Fg j->c.X j\/c.W.heap.size<=j:=λj hj=>by
  rcases Nat.lt_or_ge j c.W.heap.size with h | h
  ·exact .inl (Classical.byContradiction λhx=>n2 j ((o1 j).2 ⟨h,hx⟩) hj)
  ·exact .inr h
 refine(con w F1 o2 pl (λj hj=>hFg j (s2 j ((p4 j).2 (.inl hj))))).mono ?_;rintro e' w' ⟨v,cd,lv,rfl,hh,hlen,hrel⟩;obtain⟨G,g1,g2,g3⟩:=hh.ex;obtain⟨r1,r2⟩:=hrel ι d h4 hd;have Ki:∀ j,Fo j->¬ F1 j:=λj ho hf1=>n2 j ho (s2 j ((p4 j).2 (.inl hf1)))
 have kr:cG ((sel gl rest).map (yh ι)) F2 w':=fV p2 (λj hj=>g2.block j (p2.lt j hj) (λh=>p3 j h hj)) g2.size;have Pz:∀ j,Fo j->j<w.heap.size:=λj hj=>h2 j ((n3 j).2 (.inl hj))
 have PA:∀ j,G j->¬ F2 j:=λj hj hf2=>by
  rcases g3 j hj with h | h
  ·exact p3 j h hf2
  ·have h0:w.heap.size<=j:=h
   have:=p2.lt j hf2;omega
 have all:=bP (a:=fU c.W c.X) (Fa:=Fo) ⟨o1,λj hj hx=>(g2.block j (Pz j ((o1 j).2 ⟨hj,hx⟩)) (Ki j ((o1 j).2 ⟨hj,hx⟩))).trans (o2 j hj hx)⟩ (eQ g1 kr PA) (λj hj=>Nat.lt_of_lt_of_le (Pz j hj) g2.size) (λj hj hx=>by
  rcases hx with hx | hx
  ·rcases g3 j hx with h | h
   ·exact Ki j hj h
   ·have h0:w.heap.size<=j:=h
    have:=Pz j hj;omega
  ·exact n2 j hj (s2 j ((p4 j).2 (.inr hx))))
 refine⟨v,rfl,cd,_,r1,⟨_,hg',I8 all (by simp[hlen]) (λi a b ff e1 e2 h=>?_)⟩,⟨g2.os,g2.tape,g2.output,g2.size,λj hj hn=>g2.block j hj (λhf=>hn ((n3 j).2 (.inr (s2 j ((p4 j).2 (.inl hf))))))⟩,λj hj=>⟨all.lt j hj,?_⟩⟩
 ·match i with
  | 0=>cases e1;cases e2;exact h
  | i+1 =>
   rw[List.getElem?_cons_succ]at e1 e2;rcases Nat.lt_or_ge i lv.length with hi | hi
   ·rw[List.getElem?_append_left hi]at e1
    rw[List.getElem?_append_left (by rw[hlen];exact hi)]at e2;exact r2 i a b ff e1 e2 h
   ·rw[List.getElem?_append_right hi,List.getElem?_map]at e1
    rw[List.getElem?_append_right (by rw[hlen];exact hi),hlen]at e2;rw[e2]at e1;cases e1;exact b.mono ι _ ff w' (am.gZ (b:=cd) hd) h
 ·rcases hj with hj | hj | hj
  ·exact .inl ((n3 j).2 (.inl hj))
  ·rcases g3 j hj with h | h
   ·exact .inl ((n3 j).2 (.inr (s2 j ((p4 j).2 (.inl h)))))
   ·exact .inr h
  ·exact .inl ((n3 j).2 (.inr (s2 j ((p4 j).2 (.inr hj)))))
theorem LR{k:Kn}{P:Program}{c:dc}{f:FuncId}{abs args:List Value}{g g':Nat}{gl lp lq:List aG}{r rv:Value}(idx rest:List Nat)(hg:k.gs[g]? = some (star (fU c.W c.X::gl)))(hg':k.gs[g']? = some (star (fU c.W c.X::(lq++sel gl rest))))(hsel:nt gl.length (idx++rest)=true)(hp:sel gl idx=lp)(hf:la lp)
  (ha:∀ ι l',(letI:bg:=k.sig;dL ι abs l')->l'=args) (hr:∀ ι,(letI:bg:=k.sig;ao ι r rv))
  (con:∀ (w:World) (F:Nat->Prop),oj c.W c.X w->cG lp F w->(∀ j,F j->c.X j\/c.W.heap.size<=j)->Calls P f args.toArray w λe w'=>e=.returned rv/\af ⟨w,F⟩ lq w'):fm k P ⟨f,abs,g,none,r,some g'⟩:=by
 letI:bg:=k.sig;refine FC idx rest hg hg' hsel hp hf ha (λw F h1 h2 h3=>(con w F h1 h2 h3).mono ?_);rintro e w' ⟨rfl,hh⟩;refine⟨rv,0,lq,rfl,hh,rfl,λι d _ hd=>⟨hr _,λi a b ff e1 e2 h=>?_⟩⟩;rw[e1]at e2;cases e2;exact a.mono _ _ ff w' (λ_ _ e=>by cases e) h
theorem FD{k:Kn}{P:Program}{c:dc}{f:FuncId}{abs args:List Value}{g g' d1:Nat}{gl lp LQ:List aG}{r:Value}{ret:Value->Value}{lq:Value->List aG}(idx rest:List Nat)(hg:k.gs[g]? = some (star (fU c.W c.X::gl)))(hg':k.gs[g']? = some (star (fU c.W c.X::(LQ++sel gl rest))))(hsel:nt gl.length (idx++rest)=true)(hp:sel gl idx=lp)(hf:la lp)
  (ha:∀ ι l',(letI:bg:=k.sig;dL ι abs l')->l'=args) (hr:∀ (ι:am) cd,ι d1=some cd->(letI:bg:=k.sig;ao ι r (ret (dec cd)))) (hq:∀ (ι:am) cd w',ι d1=some cd->LQ.length=(lq (dec cd)).length/\∀ (i:Nat) a b ff,(lq (dec cd))[i]? = some a->LQ[i]? = some b->a.p (λ_=>none) ff w'->b.p ι ff w')
  (con:∀ (w:World) (F:Nat->Prop),oj c.W c.X w->cG lp F w->(∀ j,F j->c.X j\/c.W.heap.size<=j)->Calls P f args.toArray w λe w'=>∃ v cd,dec cd=v/\e=.returned (ret v)/\af ⟨w,F⟩ (lq v) w'):fm k P ⟨f,abs,g,some d1,r,some g'⟩:=by
 letI:bg:=k.sig;refine FC idx rest hg hg' hsel hp hf ha (λw F h1 h2 h3=>(con w F h1 h2 h3).mono ?_);rintro e w' ⟨v,cd,rfl,rfl,hh⟩;have up:∀ (ι:am),(ι.upd d1 cd) d1=some cd:=λι=>by simp[am.upd]
 refine⟨_,cd,lq (dec cd),rfl,hh,(hq _ cd w' (up (λ_=>none))).1,λι d hd0 hd=>?_⟩;obtain rfl:=hd0 d1 rfl;exact⟨hr _ cd (up ι),(hq _ cd w' (up ι)).2⟩
def bQ(e:TypeId)(sz:Nat)(v:Value)(n:Nat)(xs:List Value):aG where
 p:=λ_ F w=>dQ e sz v n xs F w
 keep:=λ_ F w w' hk h=>h.keep hk
 mono:=λ_ _ _ _ _ h=>h
section rows
variable{k:Kn}{P:Program}{g g':Nat}{l:List aG}{ci:Nat}{t e:TypeId}{sL sI sP sQ sV n sz m:Nat}{v:Value}{xs:List Value}{i:TypeInfo}
theorem bx(hg:k.gs[g]? = some (star l))(hi:l[ci]? = some (bQ e sz v n xs))(ht:P.underlying t=some (.slice e))(hsz:i.size=sz)(hL:k.val sL=v)(hV:k.val sV=.int .i64 (n:Int)):aZ k P ⟨[10,t],[sy sL],none,g,none,sy sV,none⟩:=by
 subst hsz;refine aZ.len k ?_;letI:bg:=k.sig;intro ι F w d x' ty q hx;obtain⟨Fs,ff,hS,hf,h1⟩:=eP hg hi q;rw[jw hx,hL];exact⟨_,w,dQ.len h1 ht ty,oi hV,Below.refl _ _⟩
theorem BG{sz n m:Nat}{v:Value}{xs:List Value}{F:Nat->Prop}{w:World}(h:dQ e sz v n xs F w)(hm:m<n*sz):∃ b off c,v=.slice (some ⟨b,off,none⟩) n c/\cY v m=.pointer (some ⟨b,off+m,none⟩)/\F b/\w.cell? ⟨b,off+m,none⟩=xs[m]?/\w.frozen? ⟨b,off+m,none⟩=false:=by
 obtain⟨h1,⟨_,rfl,hF⟩ | ⟨b,off,c,arr,rfl,hF,hb0,hx,hsz,hnc⟩⟩:=h
 ·simp at hm
 ·exact⟨b,off,c,rfl,rfl,(hF b).2 rfl,by rw[← hx m hm];simp[World.cell?,hb0],by simp[World.frozen?,hb0]⟩
theorem aS{kd:IntKind}{j:Nat}(hg:k.gs[g]? = some (star l))(hi:l[ci]? = some (bQ e sz v n xs))(ht:P.underlying t=some (.slice e))(gw:P.info? e=some i)(hsz:i.size=sz)(hL:k.val sL=v)(hI:k.val sI=.int kd (j:Int))(hj:j<n)(hP:k.val sP=cY v (j*sz)):aZ k P ⟨[3,t],[sy sL,sy sI],none,g,none,sy sP,none⟩:=by
 subst hsz;refine aZ.index k ?_;letI:bg:=k.sig;intro ι F w d x' y' q hx hy;obtain⟨Fs,ff,hS,hf,h1⟩:=eP hg hi q;rw[jw hx,jw hy,hL,hI];obtain⟨b,off,c,e1,e2,_⟩:=dQ.at (kd:=kd) h1 ht gw hj;exact⟨_,w,e2,oi (by rw[hP,e1];rfl),Below.refl _ _⟩
theorem bB{x r:Value}(hg:k.gs[g]? = some (star l))(hi:l[ci]? = some (bQ e sz v n xs))(hL:Bz P t)(hm:xs[m]? = some x)(hn:m<n*sz)(hP:k.val sP=cY v m)(hV:∀ ι,(letI:bg:=k.sig;ao ι r x)):aZ k P ⟨[1,t],[sy sP],none,g,none,r,none⟩:=by
 refine aZ.load k ?_;letI:bg:=k.sig;intro ι F w d x' q hx;obtain⟨Fs,ff,hS,hf,h1⟩:=eP hg hi q;rw[jw hx,hP];obtain⟨b,off,c,_,e2,_,e3,_⟩:=BG h1 hn;rw[e2];exact⟨x,w,hL b (off+m) x w (by rw[e3,hm]),hV _,Below.refl _ _⟩
def yq(P:Program)(t:TypeId):Prop:=∀ b o x x0 (w:World),w.cell? ⟨b,o,none⟩=some x0->w.frozen? ⟨b,o,none⟩=false->x.oneCell'=true->(Instr.storeAt t (.pointer (some ⟨b,o,none⟩)) x).run P w=.ok () (w.setCell ⟨b,o,none⟩ x)
theorem yr{b o:Nat}{x:Value}{w:World}{F:Nat->Prop}(h:F b):Turn F w (w.setCell ⟨b,o,none⟩ x):=by
 have hs:=@da dk (base:=λ_=>False) (b:=b) (λh=>h) [x] o w;exact⟨hs.os,hs.tape,hs.output,by have:=@setCells_size dk b [x] o w;exact Nat.le_of_eq this.symm,λj hj hn=>@eK dk b [x] o w j (λ(e:j=b)=>hn (e▸h))⟩
theorem yu{x r:Value}(hg:k.gs[g]? = some (star l))(hi:l[ci]? = some (bQ e sz v n xs))(hg':k.gs[g']? = some (star (l.set ci (bQ e sz v n (xs.set m x)))))(hL:yq P t)(hn:m<n*sz)(hP:k.val sP=cY v m)(hV:∀ ι y,(letI:bg:=k.sig;ao ι r y)->y=x)(hc:x.oneCell'=true):aZ k P ⟨[2,t],[sy sP,r],none,g,none,undef,some g'⟩:=by
 refine aZ.store k ?_;letI:bg:=k.sig;intro ι F w d x' y' q hx hy;obtain⟨Fs,ff,hS,hf,h1⟩:=eP hg hi q;rw[jw hx,hP,hV _ _ hy];obtain⟨b,off,c,e1,e2,e0,e3,e4⟩:=BG h1 hn;rw[e2];have hlt:m<xs.length:=by rw[h1.1];exact hn
 rw[List.getElem?_eq_getElem hlt]at e3;have hset:=dQ.set (b:=b) (off:=off) (c:=c) h1 e1 hn x;exact⟨_,hL b (off+m) x _ w e3 e4 hc,vO hg' hS q.lt hf (iL q) 0 hset (yr e0) (λj hj=>⟨Nat.lt_of_lt_of_le (h1.lt j hj) (yr (x:=x) (o:=off+m) e0).size,.inl hj⟩) (eV _)⟩
end rows
section
variable{P:Program}{kT e:TypeId}{b r n cnt d:Nat}{f:Int->Option Int}{left:Int->Bool}{i:Int}{c:dc}{l:List aG}{w:World}{κ:am}
theorem af.next(h:af c (Nz P kT e b r n cnt f left::l) w):∃ i c',c'<cnt/\left i=true/\MD i/\(f i).isSome=true/\af c (LO P kT e b r n c' f (Fx left i) i::l) w:=by
 obtain⟨⟨i,c'⟩,⟨h1,h2,h3,h4⟩,hh⟩:=h.yi (b:=λx:Int×Nat=>LO P kT e b r n x.2 f (Fx left x.1) x.1) (p:=λx=>x.2<cnt/\left x.1=true/\MD x.1/\(f x.1).isSome=true) (λF ⟨h1,i,c',h2,h3,h4⟩=>⟨(i,c'),⟨h2,h3,h4.1,h4.2.1⟩,h1,h4⟩);exact⟨i,c',h1,h2,h3,h4,hh⟩
theorem af.cur(h:af c (LO P kT e b r n cnt f left i::l) w):af c (Pw P kT e b (.st (LN r)) n cnt f left::l) w :=
 h.head (λF ⟨h1,h2⟩=>⟨r,rfl,h1,h2.2.2.1⟩)
end
section
variable{k:Kn}{P:Program}{g g':Nat}{l:List aG}{ci:Nat}{t u e:TypeId}{sL sP sQ sV n sz m:Nat}{v:Value}{xs:List Value}{i:TypeInfo}{z:Value}
theorem vU{ι:am}{c c':List Value}(h:letI:bg:=k.sig;dL ι c c')(ho:c.all oneCell=true):∀ u ∈ c',u.oneCell'=true:=by
 letI:bg:=k.sig;intro u hu;rw[List.all_eq_true]at ho;obtain⟨i,hi⟩:=List.getElem?_of_mem hu;have hlt:i<c.length:=by
  rw[h.1];exact(List.getElem?_eq_some_iff.1 hi).1
 exact one_one ((h.2 i _ _ (List.getElem?_eq_getElem hlt) hi).one (ho _ (List.getElem_mem hlt)))
theorem jP{d1 e':Nat}{c cs:List Value}(hg:k.gs[g]? = some (star l))(hi:l[ci]? = some (bQ e sz v n xs))(hg':k.gs[g']? = some (star (l.set ci (jE d1 (λv'=>bQ e sz v' (n+m) (xs++cs))))))(ht:P.underlying t=some (.slice e))(hu:P.underlying u=some (.slice e'))(gw:P.info? e=some i)(hsz:i.size=sz)(h0:0<sz)(hz:i.zero=some z)(hzs:z.cells.size=i.size)
  (hb:(n+m)*i.bytes<=140737488355328) (hnm:n+m<=1000000000) (hL:k.val sL=v) (hm:c.length=m*sz) (hc:∀ ι c',(letI:bg:=k.sig;dL ι c c')->c'=cs):aZ k P ⟨[11,t,u],[sy sL],some (sz,1,c),g,some d1,.complex .f32 d1 0,some g'⟩:=by
 subst hsz;refine aZ.append k ?_;letI:bg:=k.sig;intro ι F w d x' y' c' m' ty q hx hcr hcm ho hr hl;obtain⟨Fs,ff,hS,hf,h1⟩:=eP hg hi q;have hmm:m'=m:=Nat.eq_of_mul_eq_mul_right h0 (by rw[← hcm,hm]);subst hmm;obtain rfl:=q.name d1 rfl;rw[jw hx,hL];have hs:Src P i.size u y' m' c' w:=⟨.inl ⟨_,hu⟩,hl,hr w rfl,hr w.drew rfl,by rw[← hcr.1];exact hm,vU hcr ho⟩;obtain⟨v2,w2,F2,r1,r2,r3,r4⟩:=dQ.append (ty:=ty) h1 ht gw hz hzs hs hb hnm;rw[hc _ _ hcr]at r2;obtain⟨cc,hcc⟩:=r2.code;have hup:(ι.upd d1 cc) d1=some cc:=by simp[am.upd]
 exact⟨v2,w2,r1,vO hg' hS q.lt hf (iL q) cc ⟨cc,hup,by rw[hcc];exact r2⟩ r3 r4 (.dyn d1 cc v2 hup hcc)⟩
theorem FE{w0:World}{X:Nat->Prop}{f:FuncId}{abs args:List Value}{r rv:Value}(hg:k.gs[g]? = some (star l))(hi:l[ci]? = some (fU w0 X))(hc:∀ w,oj w0 X w->Calls P f args.toArray w λe w'=>e=.returned rv/\Below w.heap.size w w')(hr:∀ ι,(letI:bg:=k.sig;ao ι r rv))
  (ha:∀ ι l',(letI:bg:=k.sig;dL ι abs l')->l'=args):fm k P ⟨f,abs,g,none,r,none⟩:=by
 letI:bg:=k.sig;intro ι args' F w d hl h1 h2 h3 h4;have e:=ha ι _ hl;obtain⟨b,q1,q2⟩:=h1;rw[hg]at q1;cases q1;obtain⟨Fs,q2⟩:=q2;have hlt:ci<Fs.length:=by rw[q2.len];exact(List.getElem?_eq_some_iff.1 hi).1
 obtain⟨_,o3⟩:=q2.holds ci _ _ hi (List.getElem?_eq_getElem hlt);have ea:args'=args.toArray:=by rw[← e]
 rw[ea];refine(hc w o3).mono ?_;rintro e w' ⟨rfl,hb⟩;exact⟨_,rfl,hr ι,hb⟩
theorem isAgg{k:Kn}{abs cs:List Value}(h:∀ ι l',(letI:bg:=k.sig;dL ι abs l')->l'=cs):DN k (.agg abs.toArray) (.agg cs.toArray):=λι x' hx=>by
 letI:bg:=k.sig;cases hx with
 | agg f f' hf hh =>
  have:=h ι f'.toList ⟨by simpa using hf,λi v v' e1 e2=>hh i v v' (by simpa using e1) (by simpa using e2)⟩;rw[← this]
theorem LS{k:Kn} : DN k (.slice none 0 0) (.slice none 0 0):=λι x' hx=>by
 letI:bg:=k.sig;cases hx with
 | dn=>rfl
variable{b:Nat}{cs:List Value}{T:TypeId}
end
theorem dQ.ro{e:TypeId}{sz n:Nat}{v:Value}{xs:List Value}{F:Nat->Prop}{w:World}(h:dQ e sz v n xs F w):jd sz v n xs w:=by
 obtain⟨h1,⟨he,h2,_⟩ | ⟨b,off,c,arr,rfl,hF,hb0,hx,hsz,hnc⟩⟩:=h
 ·obtain⟨a,rfl⟩:=he.base
  exact⟨h1,.inl ⟨h2,_,_,rfl⟩⟩
 ·refine⟨h1,.inr ⟨b,off,c,rfl,⟨(Array.getElem?_eq_some_iff.1 hb0).1,hnc⟩,λj hj=>?_⟩⟩
  rw[← hx j hj];simp[World.cell?,hb0]
theorem dQ.off{e:TypeId}{sz n:Nat}{v:Value}{xs:List Value}{F X:Nat->Prop}{w:World}(h:dQ e sz v n xs F w)(hd:∀ j,F j->¬ X j):I2 X v:=by
 obtain⟨h1,⟨he,h2,_⟩ | ⟨b,off,c,arr,rfl,hF,hb0,hx,hsz,hnc⟩⟩:=h
 ·rcases he with rfl | ⟨b,off,rfl⟩
  ·trivial
  ·exact λh0=>absurd h0 (Nat.lt_irrefl 0)
 ·exact λ_=>hd b ((hF b).2 rfl)
theorem af.eC{e:TypeId}{sz:Nat}{c:dc}{l:List aG}{w:World}(h:af c l w):af c (bQ e sz (.slice none 0 0) 0 []::l) w:=by
 obtain⟨F,h1,h2,h3⟩:=h.ex;refine⟨⟨_,bP (a:=bQ e sz (.slice none 0 0) 0 []) (dQ.nil e sz w) h1 (λj hj=>hj.elim) (λj hj=>hj.elim),h2,λj hj=>hj.elim (λh=>h.elim) (h3 j)⟩⟩
section
variable{k:Kn}{P:Program}{g g':Nat}{l:List aG}{t kT e:TypeId}
theorem grow_end{r:Value}{ι:am}{F f':Nat->Prop}{w w':World}{d:Nat}{a':aG}(hg':k.gs[g']? = some (star (l++[a'])))(hS:(star l).p ι F w)(lt:∀ x,F x->x<w.heap.size)(hd:ι d=none)(c:Nat){v':Value}(ha:a'.p (ι.upd d c) f' w')(hb:Below w.heap.size w w')(hs:∀ x,f' x->x<w'.heap.size/\w.heap.size<=x)(hv:letI:bg:=k.sig;ao (ι.upd d c) r v'):letI:bg:=k.sig;vi ι d F w r (some g') v' w':=by
 letI:bg:=k.sig;obtain⟨Fs,q⟩:=hS;refine⟨c,λj=>F j\/f' j,hv,⟨_,hg',Fs++[f'],by simp[q.len],λi a f h1 h2=>?_,λi j f f2 hij h1 h2 x hx hx'=>?_,λx=>⟨λh=>?_,λ⟨i,f,h1,h2⟩=>?_⟩⟩,Turn.below hb,λj hj=>?_⟩
 ·rcases Nat.lt_or_ge i l.length with hi | hi
  ·rw[List.getElem?_append_left hi]at h1
   rw[List.getElem?_append_left (by rw[q.len];exact hi)]at h2;refine a.mono ι _ f w' (am.gZ (b:=c) hd) (a.keep ι f w w' (λx hx=>hb.block x (lt x ((q.all x).2 ⟨i,f,h2,hx⟩))) (q.holds i a f h1 h2))
  ·rw[List.getElem?_append_right hi]at h1
   rw[List.getElem?_append_right (by rw[q.len];exact hi),q.len]at h2;cases hk:i-l.length with
   | zero=>rw[hk]at h1 h2;cases h1;cases h2;exact ha
   | succ m=>rw[hk]at h1;cases h1
 ·rcases Nat.lt_or_ge i Fs.length with hi | hi
  ·rw[List.getElem?_append_left hi]at h1
   rcases Nat.lt_or_ge j Fs.length with hj | hj
   ·rw[List.getElem?_append_left hj]at h2
    exact q.apart i j f f2 hij h1 h2 x hx hx'
   ·rw[List.getElem?_append_right hj]at h2
    cases hk:j-Fs.length with
    | zero =>
     rw[hk]at h2;cases h2;have h3:=lt x ((q.all x).2 ⟨i,f,h1,hx⟩);have h4:=(hs x hx').2;omega
    | succ m=>rw[hk]at h2;cases h2
  ·rw[List.getElem?_append_right hi]at h1
   cases hk:i-Fs.length with
   | succ m=>rw[hk]at h1;cases h1
   | zero =>
    rw[hk]at h1;cases h1;rcases Nat.lt_or_ge j Fs.length with hj | hj
    ·rw[List.getElem?_append_left hj]at h2
     have h3:=lt x ((q.all x).2 ⟨j,f2,h2,hx'⟩);have h4:=(hs x hx).2;omega
    ·rw[List.getElem?_append_right hj]at h2
     cases hk':j-Fs.length with
     | zero=>omega
     | succ m=>rw[hk']at h2;cases h2
 ·rcases h with h | h
  ·obtain⟨i,f,h1,h2⟩:=(q.all x).1 h
   exact⟨i,f,by rw[List.getElem?_append_left (List.getElem?_eq_some_iff.1 h1).1];exact h1,h2⟩
  ·exact⟨Fs.length,f',by simp,h⟩
 ·rcases Nat.lt_or_ge i Fs.length with hi | hi
  ·rw[List.getElem?_append_left hi]at h1
   exact .inl ((q.all x).2 ⟨i,f,h1,h2⟩)
  ·rw[List.getElem?_append_right hi]at h1
   cases hk:i-Fs.length with
   | zero=>rw[hk]at h1;cases h1;exact .inr h2
   | succ m=>rw[hk]at h1;cases h1
 ·rcases hj with hj | hj
  ·exact⟨Nat.lt_of_lt_of_le (lt j hj) hb.size,.inl hj⟩
  ·exact⟨(hs j hj).1,.inr (hs j hj).2⟩
end
theorem I9{k:Kn}{P:Program}{c:dc}{f:FuncId}{abs args:List Value}{g g' d1:Nat}{gl lp:List aG}{r:Value}{ret:Value->Value}(fs:List (Value->aG))(idx rest:List Nat)(hg:k.gs[g]? = some (star (fU c.W c.X::gl)))(hg':k.gs[g']? = some (star (fU c.W c.X::(fs.map (jE d1)++sel gl rest))))(hsel:nt gl.length (idx++rest)=true)(hp:sel gl idx=lp)(hf:la lp)
  (ha:∀ ι l',(letI:bg:=k.sig;dL ι abs l')->l'=args) (hr:∀ (ι:am) cd,ι d1=some cd->(letI:bg:=k.sig;ao ι r (ret (dec cd))))
  (con:∀ (w:World) (F:Nat->Prop),oj c.W c.X w->cG lp F w->(∀ j,F j->c.X j\/c.W.heap.size<=j)->Calls P f args.toArray w λe w'=>∃ v cd,dec cd=v/\e=.returned (ret v)/\af ⟨w,F⟩ (fs.map (λf=>f v)) w'):fm k P ⟨f,abs,g,some d1,r,some g'⟩:=by
 refine FD (lq:=λv=>fs.map (λf=>f v)) idx rest hg hg' hsel hp hf ha hr (λι cd w' hi=>⟨by simp,λi a b ff h1 h2 h=>?_⟩) con;rw[List.getElem?_map]at h1 h2;cases hfi:fs[i]? with
 | none=>rw[hfi]at h1;cases h1
 | some q =>
  rw[hfi]at h1 h2;cases h1;cases h2;exact⟨cd,hi,(q (dec cd)).mono _ _ ff w' (λ_ _ e=>by cases e) h⟩
def cutV(sz:Nat)(v:Value)(lo hi:Nat):Value :=
 match v with
 | .slice none _ c=>.slice none (hi-lo) (c-lo)
 | .slice (some a) _ c=>.slice (some (if c=lo then a else a.add (lo*sz))) (hi-lo) (c-lo)
 | v=>v
theorem gx{sz lo hi:Nat}{v:Value}(h:aV v=true):aV (cutV sz v lo hi)=true:=by
 unfold cutV
 split
 ·rfl
 ·rfl
 ·exact h
theorem jd.cut{sz n lo hi:Nat}{v:Value}{xs:List Value}{w0:World}(h:jd sz v n xs w0)(h1:lo<=hi)(h2:hi<=n):jd sz (cutV sz v lo hi) (hi-lo) ((xs.drop (lo*sz)).take ((hi-lo)*sz)) w0:=by
 obtain⟨hl,hv⟩:=h;have e1:=Nat.mul_le_mul_right sz h1;have e2:=Nat.mul_le_mul_right sz h2;have e3:(hi-lo)*sz=hi*sz-lo*sz:=Nat.sub_mul ..;have hlen:((xs.drop (lo*sz)).take ((hi-lo)*sz)).length=(hi-lo)*sz:=by
  rw[List.length_take,List.length_drop,hl];omega
 refine⟨hlen,?_⟩;rcases hv with ⟨rfl,a,c,rfl⟩ | ⟨b,off,c,rfl,⟨hb,hc⟩,hx⟩
 ·obtain rfl:hi=0:=by omega
  obtain rfl:lo=0:=by omega
  refine .inl ⟨rfl,?_⟩;cases a with
  | none=>exact⟨_,_,rfl⟩
  | some a=>exact⟨_,_,rfl⟩
 ·by_cases e0:hi-lo=0
  ·refine .inl ⟨e0,?_⟩
   unfold cutV;simp only[e0];exact⟨_,_,rfl⟩
  ·have hne:¬ c=lo:=by omega
   refine .inr ⟨b,off+lo*sz,c-lo,?_,⟨hb,by omega⟩,λj hj=>?_⟩
   ·unfold cutV
    simp only[if_neg hne,fB]
   ·rw[Nat.add_assoc,hx _ (by omega),List.getElem?_take,if_pos hj,List.getElem?_drop]
section cuts
variable{k:Kn}{P:Program}{g:Nat}{t e:TypeId}{sL sA sB sV n sz lo hi:Nat}{v:Value}{xs:List Value}{w0:World}{i:TypeInfo}{kd kd':IntKind}
theorem vV{ME hiv:Option Value}(hlo:ME=none/\lo=0\/ME=some (.int kd (lo:Int)))(hhi:hiv=some (.int kd' (hi:Int)))(hs:jd sz v n xs w0)(ht:P.underlying t=some (.slice e))(gw:P.info? e=some i)(hsz:i.size=sz)(h1:lo<=hi)(h2:hi<=n)(w:World) :
  (Instr.sliceAt t v ME hiv none).run P w=.ok (cutV sz v lo hi) w:=by
 subst hsz;subst hhi;have hbd:∀ c:Nat,n<=c->(Instr.sliceBounds true n c ME (some (.int kd' (hi:Int))) none).run P w=.ok (lo,hi,c) w:=by
  intro c hc;have e1:(hi:Int)<=(c:Int):=by omega
  have e2:(lo:Int)<=(hi:Int):=by omega
  rcases hlo with ⟨rfl,rfl⟩ | rfl
  ·simp[Instr.sliceBounds,run_sliceBound,e1]
  ·simp[Instr.sliceBounds,run_sliceBound,e1,e2]
 have hs':(Instr.sliceAt t v ME (some (.int kd' (hi:Int))) none).run P w=(Instr.slice t v ME (some (.int kd' (hi:Int))) none).run P w:=by
  simp[Instr.sliceAt,run_underlying ht]
 rw[hs'];obtain⟨hl,⟨rfl,a,c,rfl⟩ | ⟨b,off,c,rfl,⟨hb,hc⟩,hx⟩⟩:=hs
 ·obtain rfl:hi=0:=by omega
  obtain rfl:lo=0:=by omega
  cases a with
  | none =>
   simp only[Instr.slice,Sem.run_bind,run_underlying ht,Result.andThen];rw[hbd c (Nat.zero_le _)];simp[sizeOf,typeInfo,gw,cutV]
  | some a =>
   simp only[Instr.slice,Sem.run_bind,run_underlying ht,Result.andThen];rw[hbd c (Nat.zero_le _)]
   by_cases e0:c=0<;>simp[sizeOf,typeInfo,gw,cutV,e0]
 ·simp only[Instr.slice,Sem.run_bind,run_underlying ht,Result.andThen]
  rw[hbd c hc]
  by_cases e0:c=lo<;>simp[sizeOf,typeInfo,gw,cutV,e0]
end cuts
end Go.Ev
