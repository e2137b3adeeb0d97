/- Part of a proof: see the last text. -/
import Derived.Test.YtbcnbofkgkheeaaGreatZn13
set_option linter.unusedSectionVars false
set_option linter.unusedSimpArgs false
set_option linter.unusedVariables false
namespace Go.Ev
open Go.RowKit
structure fQ where
 W:World
 X:Nat->Prop
def ke(κ:ag)(a:aC):aC where
 p:=λ_ F w=>a.p κ F w
 keep:=λ_ F w w' hk h=>a.keep κ F w w' hk h
 mono:=λ_ _ _ _ _ h=>h
def aH(b:Nat)(cs:List Value)(T:TypeId):aC where
 p:=λ_ F w=>(∀ j,F j↔j=b)/\w.heap[b]? = some (.cells cs.toArray T (0,0))
 keep:=λ_ F w w' hk ⟨h1,h2⟩=>⟨h1,(hk b ((h1 b).2 rfl)).trans h2⟩
 mono:=λ_ _ _ _ _ h=>h
def bP(d:Nat)(a:Value->aC):aC where
 p:=λι F w=>∃ c,ι d=some c/\(a (dec c)).p ι F w
 keep:=λι F w w' hk ⟨c,h1,h2⟩=>⟨c,h1,(a (dec c)).keep ι F w w' hk h2⟩
 mono:=λι κ F w hle ⟨c,h1,h2⟩=>⟨c,hle _ _ h1,(a (dec c)).mono ι κ F w hle h2⟩
def R0:aC where
 p:=λ_ F _=>∀ j,¬ F j
 keep:=λ_ _ _ _ _ h=>h
 mono:=λ_ _ _ _ _ h=>h
theorem eA{l:List aC}{F G:Nat->Prop}{w:World}(h:bI l F w)(e:∀ j,F j↔G j):bI l G w:=by
 rw[← show F=G from funext λj=>propext (e j)];exact h
theorem eh:∀ {l m:List aC} {F G:Nat->Prop} {w:World},bI l F w->bI m G w->(∀ j,F j->¬ G j)->bI (l++m) (λj=>F j\/G j) w:=by
 intro l
 induction l with
 | nil =>
  intro m F G w h1 h2 hd;refine eA h2 (λj=>⟨.inr,λh=>h.elim (λh=>?_) id⟩);obtain⟨⟨Fs,e1,e2,e3,e4⟩,_⟩:=h1;obtain⟨i,f,k1,k2⟩:=(e4 j).1 h;have:Fs=[]:=List.eq_nil_of_length_eq_zero e1;rw[this]at k1;cases k1
 | cons a l ih =>
  intro m F G w h1 h2 hd;obtain⟨Fa,Fl,k1,k2,k3,k4⟩:=bD h1;refine eA (cb k1 (ih k2 h2 (λj hj=>hd j ((k4 j).2 (.inr hj)))) (λj hj=>h1.lt j ((k4 j).2 (.inl hj))) (λj hj hh=>hh.elim (k3 j hj) (hd j ((k4 j).2 (.inl hj))))) (λj=>?_);rw[k4 j];exact⟨λh=>h.elim (λh=>.inl (.inl h)) (λh=>h.elim (λh=>.inl (.inr h)) .inr),λh=>h.elim (λh=>h.elim .inl (λh=>.inr (.inl h))) (λh=>.inr (.inr h))⟩
theorem cy:∀ {l m:List aC} {F:Nat->Prop} {w:World},bI (l++m) F w->∃ F1 F2,bI l F1 w/\bI m F2 w/\(∀ j,F1 j->¬ F2 j)/\∀ j,F j↔F1 j\/F2 j:=by
 intro l
 induction l with
 | nil=>intro m F w h;exact⟨λ_=>False,F,iJ w,h,λ_ h=>h.elim,λj=>⟨.inr,λh=>h.elim False.elim id⟩⟩
 | cons a l ih =>
  intro m F w h;obtain⟨Fa,Fl,k1,k2,k3,k4⟩:=bD h;obtain⟨F1,F2,e1,e2,e3,e4⟩:=ih k2;refine⟨λj=>Fa j\/F1 j,F2,cb k1 e1 (λj hj=>h.lt j ((k4 j).2 (.inl hj))) (λj hj hh=>k3 j hj ((e4 j).2 (.inl hh))),e2,λj hj hh=>hj.elim (λhj=>k3 j hj ((e4 j).2 (.inr hh))) (λhj=>e3 j hj hh),λj=>?_⟩;rw[k4 j,e4 j];exact⟨λh=>h.elim (λh=>.inl (.inl h)) (λh=>h.elim (λh=>.inl (.inr h)) .inr),λh=>h.elim (λh=>h.elim .inl (λh=>.inr (.inl h))) (λh=>.inr (.inr h))⟩
theorem f6{l:List aC}{F:Nat->Prop}{w w':World}(h:bI l F w)(hk:∀ j,F j->w'.heap[j]? = w.heap[j]?)(hs:w.heap.size<=w'.heap.size):bI l F w' :=
 ⟨(star l).keep _ F w w' hk h.st,λj hj=>Nat.lt_of_lt_of_le (h.lt j hj) hs⟩
theorem lm{l m:List aC}{F:Nat->Prop}{w:World}(h:bI l F w)(hl:m.length=l.length)(hm:∀ (i:Nat) a b f,l[i]? = some a->m[i]? = some b->a.p (λ_=>none) f w->b.p (λ_=>none) f w):bI m F w:=by
 obtain⟨⟨Fs,q⟩,lt⟩:=h;refine⟨⟨Fs,by rw[q.len,hl],λi b f h1 h2=>?_,q.apart,q.all⟩,lt⟩;have hi:i<l.length:=by rw[← hl];exact(List.getElem?_eq_some_iff.1 h1).1
 exact hm i l[i] b f (List.getElem?_eq_getElem hi) h1 (q.holds i _ f (List.getElem?_eq_getElem hi) h2)
theorem jI{l:List aC}{κ:ag}{F:Nat->Prop}{w:World}(h:(star l).p κ F w)(lt:∀ j,F j->j<w.heap.size):bI (l.map (ke κ)) F w:=by
 obtain⟨Fs,q⟩:=h;refine⟨⟨Fs,by rw[q.len,List.length_map],λi b f h1 h2=>?_,q.apart,q.all⟩,lt⟩;rw[List.getElem?_map]at h1;cases hi:l[i]? with
 | none=>rw[hi]at h1;cases h1
 | some a =>
  rw[hi]at h1;cases h1;exact q.holds i a f hi h2
noncomputable def CS(i:Nat):List Nat->Bool
 | []=>false
 | j::l=>Nat.beq i j||CS i l
theorem tN{i:Nat} : ∀ {l:List Nat},CS i l=false->i ∉ l
 | [],_,h=>by cases h
 | j::l,h,hm=>by
  have h':(Nat.beq i j||CS i l)=false:=h;rw[Bool.or_eq_false_iff]at h';rcases List.mem_cons.1 hm with e | hm
  ·subst e
   rw[Nat.beq_refl]at h';cases h'.1
  ·exact tN h'.2 hm
noncomputable def ku(n:Nat):List Nat->Bool
 | []=>true
 | i::l=>Nat.blt i n&&(!(CS i l)&&ku n l)
theorem Es{n:Nat} : ∀ {l:List Nat},ku n l=true->(∀ i ∈ l,i<n)/\l.Nodup
 | [],_=>⟨(λi h=>by cases h),List.nodup_nil⟩
 | i::l,h=>by
  have h':(Nat.blt i n&&(!(CS i l)&&ku n l))=true:=h;simp only[Bool.and_eq_true,Bool.not_eq_true']at h';obtain⟨k1,k2⟩:=Es h'.2.2;refine⟨λj hj=>?_,List.nodup_cons.2 ⟨tN h'.2.1,k2⟩⟩;rcases List.mem_cons.1 hj with rfl | hj
  ·exact Nat.le_of_ble_eq_true h'.1
  ·exact k1 j hj
def sel(l:List aC)(idx:List Nat):List aC:=idx.map λi=>l.getD i R0
theorem jJ{l:List aC}{F:Nat->Prop}{w:World}(h:bI l F w)(idx:List Nat)(hi:ku l.length idx=true):∃ F',bI (sel l idx) F' w/\∀ j,F' j->F j:=by
 obtain⟨h1,h2⟩:=Es hi;obtain⟨⟨Fs,q⟩,lt⟩:=h;have key:∀ (i:Nat) f,(idx.map λi=>Fs.getD i (λ_=>False))[i]? = some f->∃ k,idx[i]? = some k/\Fs[k]? = some f:=by
  intro i f hf;rw[List.getElem?_map]at hf;cases hk:idx[i]? with
  | none=>rw[hk]at hf;cases hf
  | some k =>
   rw[hk]at hf;have hlt:k<Fs.length:=by rw[q.len];exact h1 k (List.mem_of_getElem? hk)
   refine⟨k,rfl,?_⟩;rw[List.getElem?_eq_getElem hlt];have:Fs.getD k (λ_=>False)=f:=Option.some.inj hf;rw[List.getD_eq_getElem?_getD,List.getElem?_eq_getElem hlt]at this;exact congrArg some this
 refine⟨λx=>∃ (i:Nat) (f:Nat->Prop),(idx.map λi=>Fs.getD i (λ_=>False))[i]? = some f/\f x,⟨⟨idx.map λi=>Fs.getD i (λ_=>False),by simp[sel],λi a f k1 k2=>?_,λi j f f' hij k1 k2 x hx hx'=>?_,λx=>Iff.rfl⟩,?_⟩,?_⟩
 ·obtain⟨k,e1,e2⟩:=key i f k2
  unfold sel at k1;rw[List.getElem?_map,e1]at k1;have hlt:k<l.length:=h1 k (List.mem_of_getElem? e1);have:l.getD k R0=a:=Option.some.inj k1;rw[List.getD_eq_getElem?_getD,List.getElem?_eq_getElem hlt]at this;exact q.holds k a f (by rw[List.getElem?_eq_getElem hlt];exact congrArg some this) e2
 ·obtain⟨k,e1,e2⟩:=key i f k1
  obtain⟨k',Rm,e2'⟩:=key j f' k2;refine q.apart k k' f f' (λe=>hij ?_) e2 e2' x hx hx';subst e;exact(List.getElem?_inj (List.getElem?_eq_some_iff.1 e1).1 h2).1 (e1.trans Rm.symm)
 ·rintro j ⟨i,f,k1,k2⟩
  obtain⟨k,e1,e2⟩:=key i f k1;exact lt j ((q.all j).2 ⟨k,f,e2,k2⟩)
 ·rintro j ⟨i,f,k1,k2⟩
  obtain⟨k,e1,e2⟩:=key i f k1;exact(q.all j).2 ⟨k,f,e2,k2⟩
structure ah(c:fQ)(l:List aC)(w:World):Prop where
 ex:∃ F,bI l F w/\Turn c.X c.W w/\∀ j,F j->c.X j\/c.W.heap.size<=j
theorem ah.start{l:List aC}{F:Nat->Prop}{w:World}(h:bI l F w):ah ⟨w,F⟩ l w:=⟨⟨F,h,⟨rfl,rfl,rfl,Nat.le_refl _,λ_ _ _=>rfl⟩,λ_ h=>.inl h⟩⟩
theorem ah.sel{c:fQ}{l:List aC}{w:World}(h:ah c l w)(idx:List Nat)(hi:ku l.length idx=true:=by kernel_rfl):ah c (Ev.sel l idx) w:=by
 obtain⟨F,h1,h2,h3⟩:=h.ex;obtain⟨F',k1,k2⟩:=jJ h1 idx hi;exact⟨⟨F',k1,h2,λj hj=>h3 j (k2 j hj)⟩⟩
theorem ah.old{c:fQ}{l:List aC}{w:World}(h:ah c l w):jZ c.W c.X w:=by
 obtain⟨F,h1,h2,h3⟩:=h.ex;exact λj hj hx=>h2.block j hj hx
theorem ah.same{c:fQ}{l:List aC}{w:World}(h:ah c l w):Same c.W w:=by
 obtain⟨F,h1,h2,h3⟩:=h.ex;exact h2.same
theorem ah.head{c:fQ}{a b:aC}{l:List aC}{w:World}(h:ah c (a::l) w)(hab:∀ f,a.p (λ_=>none) f w->b.p (λ_=>none) f w):ah c (b::l) w:=by
 obtain⟨F,h1,h2,h3⟩:=h.ex;obtain⟨Fa,Fl,k1,k2,k3,k4⟩:=bD h1;exact⟨⟨F,eA (cb (hab Fa k1) k2 (λj hj=>h1.lt j ((k4 j).2 (.inl hj))) k3) (λj=>(k4 j).symm),h2,h3⟩⟩
theorem ah.Ix{c:fQ}{a:aC}{l:List aC}{w:World}{β:Type}{b:β->aC}{p:β->Prop}(h:ah c (a::l) w)(hab:∀ f,a.p (λ_=>none) f w->∃ x,p x/\(b x).p (λ_=>none) f w):∃ x,p x/\ah c (b x::l) w:=by
 obtain⟨F,h1,h2,h3⟩:=h.ex;obtain⟨Fa,Fl,k1,k2,k3,k4⟩:=bD h1;obtain⟨x,hx,k1'⟩:=hab Fa k1;exact⟨x,hx,⟨⟨F,eA (cb k1' k2 (λj hj=>h1.lt j ((k4 j).2 (.inl hj))) k3) (λj=>(k4 j).symm),h2,h3⟩⟩⟩
theorem ah.first{c:fQ}{a:aC}{l:List aC}{w:World}(h:ah c (a::l) w):∃ f,a.p (λ_=>none) f w:=by
 obtain⟨F,h1,h2,h3⟩:=h.ex;obtain⟨Fa,Fl,k1,k2,k3,k4⟩:=bD h1;exact⟨Fa,k1⟩
theorem ah.into{c:fQ}{l m:List aC}{F:Nat->Prop}{w w':World}(h:ah ⟨w,F⟩ m w')(hc:Turn c.X c.W w)(hF:∀ j,F j->c.X j\/c.W.heap.size<=j):ah c m w':=by
 obtain⟨G,h1,h2,h3⟩:=h.ex;refine⟨⟨G,h1,⟨h2.os.trans hc.os,h2.tape.trans hc.tape,h2.output.trans hc.output,Nat.le_trans hc.size h2.size,λj hj hn=>?_⟩,λj hj=>?_⟩⟩
 ·refine(h2.block j (Nat.lt_of_lt_of_le hj hc.size) (λhf=>?_)).trans (hc.block j hj hn)
  rcases hF j hf with h | h
  ·exact hn h
  ·omega
 ·rcases h3 j hj with h | h
  ·exact hF j h
  ·exact .inr (Nat.le_trans hc.size h)
theorem ah.below{c:fQ}{l:List aC}{w:World}(h:ah c l w)(hX:∀ j,¬ c.X j):Below c.W.heap.size c.W w:=by
 obtain⟨F,h1,h2,h3⟩:=h.ex;exact⟨h2.os,h2.tape,h2.output,h2.size,λj hj=>h2.block j hj (hX j)⟩
def tO[aP](κ:ag):Value->Value
 | .map (some id)=>.map (some ((κ id).getD 0))
 | .slice (some ⟨id,off,none⟩) n c=>.slice (some ⟨(κ id).getD 0,off,none⟩) n c
 | v=>u3 κ v
def fO[aP]:Nat->ag->Value->Value
 | 0,κ,v=>tO κ v
 | n+1,κ,v=>match v with
  | .agg f=>.agg (f.toList.map (fO n κ)).toArray
  | .tuple f=>.tuple (f.toList.map (fO n κ)).toArray
  | .iface t v=>.iface t (fO n κ v)
  | .func fn f c=>.func fn (f.toList.map (fO n κ)).toArray (c.toList.map (fO n κ)).toArray
  | v=>tO κ v
def m5:Fn->Bool
 | .yield _=>true
 | _=>false
def CT:Value->Bool
 | .map (some _)=>true
 | .slice (some ⟨id,_,none⟩) _ _=>!(iQ id)
 | v=>PH v
def v7:Nat->Value->Bool
 | 0,v=>CT v
 | n+1,v=>match v with
  | .agg f=>f.toList.all (v7 n)
  | .tuple f=>f.toList.all (v7 n)
  | .iface _ v=>v7 n v
  | .func fn f c=>!(m5 fn)&&(f.toList.all (v7 n)&&c.toList.all (v7 n))
  | v=>CT v
def Tp(rn:List (Nat×Nat)):Value->Bool
 | .map (some id)=>(aY rn id).isSome
 | .pointer (some ⟨id,_,none⟩)=>(aY rn id).isSome
 | .pointer none | .slice none 0 0 | .map none | .nilFunc | .nilIface=>true
 | v=>ep v
def AY(rn:List (Nat×Nat)):Nat->Value->Bool
 | 0,v=>Tp rn v
 | n+1,v=>match v with
  | .agg f=>f.toList.all (AY rn n)
  | .tuple f=>f.toList.all (AY rn n)
  | .iface _ v=>AY rn n v
  | .func fn f c=>!(m5 fn)&&(f.toList.all (AY rn n)&&c.toList.all (AY rn n))
  | v=>Tp rn v
theorem AZ{κ:ag}[aP]{v v':Value}(h:ao κ v v')(hk:CT v=true):v'=tO κ v:=by
 cases h with
 | map id b h=>simp[tO,h]
 | slice id off b n c c' h h0 h1 h2 h3 =>
  have hg:iQ id=false:=by simpa[CT] using hk
  rw[← h0 hg];simp[tO,h]
 | de id off b h h0=>simp[tO,h]
 | ptr id off b h=>exact pk (.ptr id off b h) hk
 | oM=>rfl
 | c8=>rfl
 | n9=>rfl
 | nilFunc=>rfl
 | nilIface=>rfl
 | sym n m _ h=>exact pk (κ:=κ) (.sym n m _ h) hk
 | dyn id c _ h h'=>exact pk (.dyn id c _ h h') hk
 | sE id c j _ h h'=>exact pk (.sE id c j _ h h') hk
 | bool=>rfl
 | int=>rfl
 | float=>rfl
 | string=>rfl
 | _=>first | cases hk | (simp[CT,PH,ep]at hk)
theorem tP{κ:ag}[aP]{n:Nat}{f f':Array Value}(hf:f.size=f'.size)(h:∀ (i:Nat) (v v':Value),f[i]? = some v->f'[i]? = some v'->ao κ v v')(hk:f.toList.all (v7 n)=true)(ih:∀ v v',ao κ v v'->v7 n v=true->v'=fO n κ v):f'=(f.toList.map (fO n κ)).toArray:=by
 rw[List.all_eq_true]at hk;apply Array.ext (by simp[hf]);intro i h1 h2;have h3:i<f.size:=by rw[hf];exact h1
 rw[ih f[i] f'[i] (h i _ _ (Array.getElem?_eq_getElem h3) (Array.getElem?_eq_getElem h1)) (hk _ (by simp))];simp
theorem tQ{κ:ag}[aP]:∀ (n:Nat) {v v':Value},ao κ v v'->v7 n v=true->v'=fO n κ v:=by
 intro n
 induction n with
 | zero=>exact λh hk=>AZ h hk
 | succ n ih =>
  intro v v' h hk;cases v with
  | agg f=>cases h with | agg _ f' hf h=>exact congrArg Value.agg (tP hf h hk (λv v'=>ih))
  | tuple f=>cases h with | tuple _ f' hf h=>exact congrArg Value.tuple (tP hf h hk (λv v'=>ih))
  | iface t v=>cases h with | iface _ _ v' h=>exact congrArg (Value.iface t) (ih h hk)
  | func fn f c =>
   have hk':(!(m5 fn)&&(f.toList.all (v7 n)&&c.toList.all (v7 n)))=true:=hk;simp only[Bool.and_eq_true]at hk';cases h with
   | func _ _ f' _ c' hy hf hc h h' =>
    rw[tP hf h hk'.2.1 (λv v'=>ih),tP hc h' hk'.2.2 (λv v'=>ih)];rfl
   | yield=>exact absurd hk'.1 (by simp[m5])
  | _=>exact AZ h hk
theorem Et{rn:List (Nat×Nat)}{id:Nat}(h:(aY rn id).isSome=true):aY rn id=some ((aY rn id).getD 0):=by
 cases hr:aY rn id with
 | none=>rw[hr]at h;cases h
 | some b=>rfl
theorem Ov{rn:List (Nat×Nat)}[aP]{v:Value}(hk:Tp rn v=true):ao (aY rn) v (tO (aY rn) v):=by
 unfold Tp at hk
 split at hk
 ·exact .map _ _ (Et hk)
 ·exact .ptr _ _ _ (Et hk)
 ·exact .oM
 ·exact .c8
 ·exact .n9
 ·exact .nilFunc
 ·exact .nilIface
 ·unfold ep at hk
  split at hk<;>first | exact .bool _ | exact .int _ _ | exact .float _ _ | exact .string _ | exact .sym _ _ _ rfl | contradiction | cases hk
theorem xV{rn:List (Nat×Nat)}[aP]{n:Nat}{f:Array Value}(hk:f.toList.all (AY rn n)=true)(ih:∀ v,AY rn n v=true->ao (aY rn) v (fO n (aY rn) v)):f.size=(f.toList.map (fO n (aY rn))).toArray.size/\∀ (i:Nat) (v v':Value),f[i]? = some v->(f.toList.map (fO n (aY rn))).toArray[i]? = some v'->ao (aY rn) v v':=by
 rw[List.all_eq_true]at hk;refine⟨by simp,λi v v' h1 h2=>?_⟩;simp[h1]at h2;subst h2;exact ih v (hk v (by obtain⟨h3,rfl⟩:=Array.getElem?_eq_some_iff.1 h1;simp))
theorem A_{rn:List (Nat×Nat)}[aP]:∀ (n:Nat) (v:Value),AY rn n v=true->ao (aY rn) v (fO n (aY rn) v):=by
 intro n
 induction n with
 | zero=>exact λv hk=>Ov hk
 | succ n ih =>
  intro v hk;cases v with
  | agg f=>obtain⟨h1,h2⟩:=xV hk ih;exact .agg _ _ h1 h2
  | tuple f=>obtain⟨h1,h2⟩:=xV hk ih;exact .tuple _ _ h1 h2
  | iface t v=>exact .iface _ _ _ (ih _ hk)
  | func fn f c =>
   have hk':(!(m5 fn)&&(f.toList.all (AY rn n)&&c.toList.all (AY rn n)))=true:=hk;simp only[Bool.and_eq_true]at hk';obtain⟨h1,h2⟩:=xV hk'.2.1 ih;obtain⟨h3,h4⟩:=xV hk'.2.2 ih;exact .func fn _ _ _ _ (λl e=>by rw[e]at hk';simp[m5]at hk') h1 h3 h2 h4
  | _=>exact Ov hk
def Tm(l:List (Nat×Value))(A:Act):Prop:=∀ p ∈ l,A.tmps.getD p.1 undef=p.2
structure At(c:fQ)(N:Nat)(tm:List (Nat×Value))(l:List aC)(A:Act)(w:World):Prop where
 sz:A.tmps.size=N
 df:A.defers=[]
 tm:Tm tm A
 hold:ah c l w
def bV(P:Program)(f:FuncId)(p:List Nat)(i k N:Nat)(c:fQ)(tm:List (Nat×Value))(l:List aC)(ex:Exit){α:Type}(tm':α->List (Nat×Value))(l':α->List aC):Prop :=
 ∀ (A:Act) (w:World) (Q:Exit->Act->World->Prop),At c N tm l A w->(∀ x A1 w1,At c N (tm' x) (l' x) A1 w1->Exit.then (dL P (fM P f p (i+k)) Q) Q ex A1 w1)->dL P (fM P f p i) Q A w
def aK(P:Program)(f:FuncId)(p:List Nat)(i N:Nat)(c:fQ)(tm:List (Nat×Value))(l:List aC){α:Type}(r:α->Value)(l':α->List aC):Prop :=
 ∀ (A:Act) (w:World) (R:Ending->World->Prop),At c N tm l A w->(∀ x w1,ah c (l' x) w1->R (.returned (r x)) w1)->dL P (fM P f p i) (bodyPostM Fence.wide 0 P (jt P f) R) A w
def g_[aP](κ:ag)(q:dZ):aC:=aH ((κ q.1).getD 0) (q.2.1.map (fO 3 κ)) q.2.2
def Md[aP](κ:ag)(p:Nat×Value):Nat×Value:=(p.1,fO 3 κ p.2)
noncomputable def Iy:List Nat->Bool
 | []=>true
 | i::l=>!(CS i l)&&Iy l
theorem xX:∀ {l:List Nat},Iy l=true->l.Nodup
 | [],_=>List.nodup_nil
 | i::l,h=>by
  have h':(!(CS i l)&&Iy l)=true:=h;simp only[Bool.and_eq_true,Bool.not_eq_true']at h';exact List.nodup_cons.2 ⟨tN h'.1,xX h'.2⟩
noncomputable def v8(rn:List (Nat×Nat))(dp:List (Nat×Value))(bl:List dZ)(jK:List (Nat×Value))(fR:List dZ):Bool :=
 Q' (rn.map Prod.fst) (bl.map Prod.fst)&&(Iy (rn.map Prod.fst)&&(Iy (fR.map Prod.fst)&&(dp.all (λp=>AY rn 3 p.2)&&(bl.all (λq=>q.2.1.all (AY rn 3))&&(jK.all (λp=>v7 3 p.2)&&fR.all (λq=>q.2.1.all (v7 3)))))))
theorem pu:∀ {rn:List (Nat×Nat)},(rn.map Prod.fst).Nodup->∀ {p:Nat×Nat},p ∈ rn->aY rn p.1=some p.2
 | [],_,p,h=>by cases h
 | q::rn,hn,p,h=>by
  rw[List.map_cons,List.nodup_cons]at hn;unfold aY;rw[List.find?_cons];rcases List.mem_cons.1 h with e | h
  ·subst e
   simp
  ·have hne:(q.1==p.1)=false:=by
    have:q.1≠p.1:=λe=>hn.1 (by rw[e];exact List.mem_map_of_mem h)
    simpa using this
   rw[hne];exact pu hn.2 h
theorem Nb{rn:List (Nat×Nat)}[aP]{bl:List dZ}{gl:List aC}{F:Nat->Prop}{w:World}(CQ:rn.map Prod.fst=bl.map Prod.fst)(hn:(rn.map Prod.fst).Nodup)(hk:∀ q ∈ bl,∀ v ∈ q.2.1,AY rn 3 v=true)(h:bI (bl.map (g_ (aY rn))++gl) F w) :
  ∃ F',xR rn bl F' w/\bI gl F' w/\∀ j,F j↔(∃ p ∈ rn,p.2=j)\/F' j:=by
 obtain⟨F1,F2,h1,h2,h3,h4⟩:=cy h;obtain⟨⟨Fs,q⟩,lt⟩:=h1;have hmem:∀ x ∈ bl,∃ b,(x.1,b) ∈ rn/\aY rn x.1=some b:=λx hx=>by
  have:x.1 ∈ rn.map Prod.fst:=by rw[CQ];exact List.mem_map_of_mem hx
  obtain⟨p,hp,e⟩:=List.mem_map.1 this;exact⟨p.2,by rw[← e];exact hp,by rw[← e];exact pu hn hp⟩
 have hback:∀ p ∈ rn,∃ x ∈ bl,x.1=p.1:=λp hp=>by
  have:p.1 ∈ bl.map Prod.fst:=by rw[← CQ];exact List.mem_map_of_mem hp
  obtain⟨x,hx,e⟩:=List.mem_map.1 this;exact⟨x,hx,e⟩
 have part:∀ (i:Nat) x,bl[i]? = some x->∃ f,Fs[i]? = some f/\(∀ j,f j↔j=(aY rn x.1).getD 0)/\w.heap[(aY rn x.1).getD 0]? = some (.cells (x.2.1.map (fO 3 (aY rn))).toArray x.2.2 (0,0)):=by
  intro i x hx;have hl:(bl.map (g_ (aY rn)))[i]? = some (g_ (aY rn) x):=by rw[List.getElem?_map,hx];rfl
  have hlt:i<Fs.length:=by rw[q.len];exact(List.getElem?_eq_some_iff.1 hl).1
  have:=q.holds i _ _ hl (List.getElem?_eq_getElem hlt);exact⟨_,List.getElem?_eq_getElem hlt,this.1,this.2⟩
 have hF1:∀ j,F1 j↔∃ p ∈ rn,p.2=j:=by
  intro j;rw[q.all];constructor
  ·rintro⟨i,f,k1,k2⟩
   have hlt:i<bl.length:=by have:=(List.getElem?_eq_some_iff.1 k1).1;rw[q.len]at this;simpa using this
   obtain⟨f',e1,e2,e3⟩:=part i bl[i] (List.getElem?_eq_getElem hlt);rw[k1]at e1;cases e1;obtain⟨b,m1,m2⟩:=hmem bl[i] (by simp);rw[m2]at e2;exact⟨_,m1,((e2 j).1 k2).symm⟩
  ·rintro⟨p,hp,e⟩
   obtain⟨x,hx,ex⟩:=hback p hp;obtain⟨i,hi,ei⟩:=List.getElem_of_mem hx;obtain⟨f',e1,e2,e3⟩:=part i x (by rw[List.getElem?_eq_getElem hi,ei]);refine⟨i,f',e1,(e2 j).2 ?_⟩;rw[ex,pu hn hp];exact e.symm
 refine⟨F2,⟨λx hx=>?_,λp hp p' hp' e=>?_,λp hp hf=>h3 p.2 ((hF1 _).2 ⟨p,hp,rfl⟩) hf⟩,h2,λj=>by rw[h4 j,hF1 j]⟩
 ·obtain⟨i,hi,ei⟩:=List.getElem_of_mem hx
  obtain⟨f',e1,e2,e3⟩:=part i x (by rw[List.getElem?_eq_getElem hi,ei]);obtain⟨b,m1,m2⟩:=hmem x hx;rw[m2]at e3;refine⟨b,x.2.1.map (fO 3 (aY rn)),m2,e3,by simp,λi v v' a1 a2=>?_⟩;rw[List.getElem?_map,a1]at a2;cases a2;exact A_ 3 v (hk x hx v (List.mem_of_getElem? a1))
 ·obtain⟨x,hx,ex⟩:=hback p hp
  obtain⟨x',hx',ex'⟩:=hback p' hp';obtain⟨i,hi,ei⟩:=List.getElem_of_mem hx;obtain⟨i',hi',VP⟩:=List.getElem_of_mem hx';obtain⟨f,a1,a2,_⟩:=part i x (by rw[List.getElem?_eq_getElem hi,ei]);obtain⟨f',b1,b2,_⟩:=part i' x' (by rw[List.getElem?_eq_getElem hi',VP]);rw[ex,pu hn hp]at a2;rw[ex',pu hn hp']at b2
  by_cases hii:i=i'
  ·subst hii
   rw[← ex,← ex',← ei,← VP]
  ·exact(q.apart i i' f f' hii a1 b1 p.2 ((a2 _).2 rfl) ((b2 _).2 e)).elim
theorem Ba[aP]{κ:ag}{w:World} : ∀ (bl:List dZ),(bl.map Prod.fst).Nodup->(∀ q ∈ bl,∀ v ∈ q.2.1,v7 3 v=true)->(∀ q ∈ bl,∃ b c',κ q.1=some b/\w.heap[b]? = some (.cells c' q.2.2 (0,0))/\bh κ q.2.1.toArray c')->(∀ q ∈ bl,∀ q' ∈ bl,κ q.1=κ q'.1->q.1=q'.1)->
  bI (bl.map (g_ κ)) (λj=>∃ q ∈ bl,κ q.1=some j) w
 | [],_,_,_,_=>eA (iJ w) (λj=>⟨λh=>h.elim,λ⟨q,h,_⟩=>by cases h⟩)
 | q::bl,hn,hk,hc,hi=>by
  rw[List.map_cons,List.nodup_cons]at hn;obtain⟨b,c',e1,e2,e3⟩:=hc q (List.mem_cons_self ..);have ih:=Ba bl hn.2 (λx hx=>hk x (List.mem_cons_of_mem _ hx)) (λx hx=>hc x (List.mem_cons_of_mem _ hx)) (λx hx y hy=>hi x (List.mem_cons_of_mem _ hx) y (List.mem_cons_of_mem _ hy));have ec:c'=(q.2.1.map (fO 3 κ)).toArray:=by
   have:=tP (f:=q.2.1.toArray) (f':=c') (n:=3) e3.1 e3.2 (by rw[List.all_eq_true];exact λv hv=>hk q (List.mem_cons_self ..) v (by simpa using hv)) (λv v'=>tQ 3);simpa using this
  subst ec;have eb:(κ q.1).getD 0=b:=by rw[e1];rfl
  refine eA (cb (a:=g_ κ q) (Fa:=λj=>j=b) ⟨λj=>by rw[eb],by rw[eb];exact e2⟩ ih (λj hj=>by rw[hj];exact(Array.getElem?_eq_some_iff.1 e2).1) (λj hj ⟨x,hx,ex⟩=>?_)) (λj=>?_)
  ·rw[hj]at ex
   exact hn.1 (by rw[hi q (List.mem_cons_self ..) x (List.mem_cons_of_mem _ hx) (e1.trans ex.symm)];exact List.mem_map_of_mem hx)
  ·constructor
   ·rintro(h | ⟨x,hx,ex⟩)
    ·exact⟨q,List.mem_cons_self ..,by rw[h];exact e1⟩
    ·exact⟨x,List.mem_cons_of_mem _ hx,ex⟩
   ·rintro⟨x,hx,ex⟩
    rcases List.mem_cons.1 hx with e | hx
    ·subst e
     rw[e1]at ex;exact .inl (Option.some.inj ex).symm
    ·exact .inr ⟨x,hx,ex⟩
noncomputable def uV(gb:Nat->Value):Nat->Nat->List (Nat×Value)->List Value
 | 0,_,_=>[]
 | n+1,i,[]=>gb i::uV gb n (i+1) []
 | n+1,i,p::l=>@Bool.rec (λ_=>List Value) (gb i::uV gb n (i+1) (p::l)) (p.2::uV gb n (i+1) l) (Nat.beq p.1 i)
theorem rZ(gb:Nat->Value):∀ (n i:Nat) (l:List (Nat×Value)),(uV gb n i l).length=n/\∀ (j:Nat) v,(uV gb n i l)[j]? = some v->v=gb (i+j)\/(i+j,v) ∈ l
 | 0,i,l=>⟨rfl,λj v h=>by cases h⟩
 | n+1,i,[]=>by
  obtain⟨h1,h2⟩:=rZ gb n (i+1) [];refine⟨by show(gb i::uV gb n (i+1) []).length=_;rw[List.length_cons,h1],λj v h=>?_⟩
  match j with
  | 0=>cases h;exact .inl rfl
  | j+1 =>
   have:=h2 j v h;rw[show i+1+j=i+(j+1) by omega]at this;exact this
 | n+1,i,p::l=>by
  show(@Bool.rec (λ_=>List Value) (gb i::uV gb n (i+1) (p::l)) (p.2::uV gb n (i+1) l) (Nat.beq p.1 i)).length=_/\∀ (j:Nat) v,(@Bool.rec (λ_=>List Value) (gb i::uV gb n (i+1) (p::l)) (p.2::uV gb n (i+1) l) (Nat.beq p.1 i))[j]? = some v->_;cases hb:Nat.beq p.1 i with
  | true =>
   have e:=Nat.eq_of_beq_eq_true hb;obtain⟨h1,h2⟩:=rZ gb n (i+1) l;refine⟨by show(p.2::uV gb n (i+1) l).length=_;rw[List.length_cons,h1],λj v h=>?_⟩
   match j with
   | 0=>cases h;exact .inr (by rw[Nat.add_zero,← e];exact List.mem_cons_self ..)
   | j+1 =>
    have:=h2 j v h;rw[show i+1+j=i+(j+1) by omega]at this;exact this.imp id (List.mem_cons_of_mem _)
  | false =>
   obtain⟨h1,h2⟩:=rZ gb n (i+1) (p::l);refine⟨by show(gb i::uV gb n (i+1) (p::l)).length=_;rw[List.length_cons,h1],λj v h=>?_⟩
   match j with
   | 0=>cases h;exact .inl rfl
   | j+1 =>
    have:=h2 j v h;rw[show i+1+j=i+(j+1) by omega]at this;exact this
theorem Nc[aP]{A:Act}{N:Nat}(hN:A.tmps.size=N){ι:ag}(live:List (Nat×Value))(hl:∀ p ∈ live,ao ι p.2 (A.tmps.getD p.1 undef)):∃ gb:Nat->Value,cN ι (uV gb N 0 live) A.tmps.toList:=by
 have h:∀ i,∃ v:Value,∀ ι:ag,ao ι v (A.tmps.getD i undef):=λi=>xS _
 obtain⟨k1,k2⟩:=rZ (λi=>Classical.choose (h i)) N 0 live;refine⟨λi=>Classical.choose (h i),by rw[k1];simp[hN],λi v v' h1 h2=>?_⟩;have e:v'=A.tmps.getD i undef:=by
  rw[Array.getElem?_toList]at h2;rw[Array.getD_eq_getD_getElem?,h2];rfl
 rcases k2 i v h1 with hv | hv
 ·rw[hv,e,Nat.zero_add]
  exact Classical.choose_spec (h i) ι
 ·rw[e]
  have:=hl _ hv;rw[Nat.zero_add]at this;exact this
theorem Bb{rn:List (Nat×Nat)}{dp jK:List (Nat×Value)}{bl fR:List dZ}(h:v8 rn dp bl jK fR=true) :
  rn.map Prod.fst=bl.map Prod.fst/\(rn.map Prod.fst).Nodup/\(fR.map Prod.fst).Nodup/\(∀ p ∈ dp,AY rn 3 p.2=true)/\(∀ q ∈ bl,∀ v ∈ q.2.1,AY rn 3 v=true)/\(∀ p ∈ jK,v7 3 p.2=true)/\∀ q ∈ fR,∀ v ∈ q.2.1,v7 3 v=true:=by
 unfold v8 at h;simp only[Bool.and_eq_true,List.all_eq_true]at h;obtain⟨h1,h2,h3,h4,h5,h6,h7⟩:=h;exact⟨HY h1,xX h2,xX h3,h4,h5,h6,h7⟩
theorem Eu(k:Kn){c:fQ}{N g:Nat}{rn:List (Nat×Nat)}{bl:List dZ}{gl:List aC}{dp:List (Nat×Value)}(hg:k.gs[g]? = some (star (dn c.W c.X::gl)))(CQ:rn.map Prod.fst=bl.map Prod.fst)(hn:(rn.map Prod.fst).Nodup)(hk0:∀ p ∈ dp,AY rn 3 p.2=true)(hkb:∀ q ∈ bl,∀ v ∈ q.2.1,AY rn 3 v=true)
  {A:Act} {w:World} (h:letI:aP:=k.sig;At c N (dp.map (Md (aY rn))) (bl.map (g_ (aY rn))++gl) A w):letI:aP:=k.sig;∃ F,xR rn bl F w/\aP.GR g (aY rn) F w/\(∀ j,F j->j<w.heap.size)/\∃ gb:Nat->Value,cN (aY rn) (uV gb N 0 dp) A.tmps.toList:=by
 letI:aP:=k.sig;obtain⟨sz,df,tm,hh⟩:=h;obtain⟨F,h1,h2,h3⟩:=hh.ex;obtain⟨F',b1,b2,b3⟩:=Nb CQ hn hkb h1
 have ho:bI (dn c.W c.X::gl) (λj=>(j<c.W.heap.size/\¬ c.X j)\/F' j) w:=cb ⟨λj=>Iff.rfl,λj hj hx=>h2.block j hj hx⟩ b2 (λj hj=>Nat.lt_of_lt_of_le hj.1 h2.size) (λj hj hf=>by
  rcases h3 j ((b3 j).2 (.inr hf)) with h | h
  ·exact hj.2 h
  ·omega)
 refine⟨_,⟨b1.there,b1.inj,λp hp hf=>?_⟩,⟨_,hg,(star _).mono (λ_=>none) _ _ w (λ_ _ e=>by cases e) ho.st⟩,ho.lt,Nc sz dp (λp hp=>?_)⟩
 ·rcases hf with hf | hf
  ·rcases h3 p.2 ((b3 _).2 (.inl ⟨p,hp,rfl⟩)) with h | h
   ·exact hf.2 h
   ·omega
  ·exact b1.out p hp hf
 ·have e:=tm (Md (aY rn) p) (List.mem_map_of_mem hp)
  show ao _ p.2 (A.tmps.getD (Md (aY rn) p).1 undef);rw[e];exact A_ 3 p.2 (hk0 p hp)
theorem Bc(k:Kn){c:fQ}{g':Nat}{rn:List (Nat×Nat)}{fR:List dZ}{y_:List aC}(hg':k.gs[g']? = some (star (dn c.W c.X::y_)))(hn1:(fR.map Prod.fst).Nodup)(hkb:∀ q ∈ fR,∀ v ∈ q.2.1,v7 3 v=true){F:Nat->Prop}{w w1:World}{κ:ag}(hc:Same c.W w)(L:letI:aP:=k.sig;Left rn fR g' F w κ w1) :
  letI:aP:=k.sig;ah c (fR.map (g_ κ)++y_.map (ke κ)) w1:=by
 letI:aP:=k.sig;obtain⟨F',⟨a,q1,q2⟩,q3,q4⟩:=L.gh;rw[hg']at q1;cases q1;obtain⟨Fo,Fg,⟨o1,o2⟩,n1,n2,n3⟩:=bD (jI q2 (λj hj=>(q3 j hj).1));have nb:=Ba fR hn1 hkb L.cls L.inj;have hnot:∀ j,¬ Fo j->c.X j\/c.W.heap.size<=j:=λj hj=>by
  rcases Nat.lt_or_ge j c.W.heap.size with h | h
  ·exact .inl (Classical.byContradiction λhx=>hj ((o1 j).2 ⟨h,hx⟩))
  ·exact .inr h
 have hs:=hc.trans L.turn.same;refine⟨⟨_,eh nb n1 (λj ⟨q,hq,e⟩ hf=>q4 q hq j e ((n3 j).2 (.inr hf))),⟨hs.os,hs.tape,hs.output,hs.size,λj hj hx=>o2 j hj hx⟩,λj hj=>hnot j (λhf=>?_)⟩⟩;rcases hj with ⟨q,hq,e⟩ | hj
 ·exact q4 q hq j e ((n3 j).2 (.inl hf))
 ·exact n2 j hf hj
def xY(rn:List (Nat×Nat))(κ:ag):ag:=λid=>match aY rn id with | some b=>some b | none=>κ id
theorem CU{rn:List (Nat×Nat)}{κ:ag}(h:∀ id b,aY rn id=some b->κ id=some b):xY rn κ=κ:=by
 funext id
 unfold xY;cases hr:aY rn id with
 | none=>rfl
 | some b=>exact(h id b hr).symm
theorem Wv{P:Program}(hP:P.check=.ok ())(hm:P.follows .mixedOrders=true)(k:Kn)(cY:@di k.sig P){n m N i kk:Nat}{f:FuncId}{p:List Nat}{c:fQ}(rn:List (Nat×Nat))(bl fR:List dZ)(g g':Nat)(gl y_:List aC)(hg:k.gs[g]? = some (star (dn c.W c.X::gl)))(hg':k.gs[g']? = some (star (dn c.W c.X::y_)))(dp jK:List (Nat×Value))(ex:Exit)(hk:v8 rn dp bl jK fR=true)
  (run:∀ gb:Nat->Value,letI:aP:=k.sig;cZ P (λB=>kp B f p (λ_ c=>Nat.beq (uV gb N 0 dp).length N&&(Nat.ble N 4094&&(vr m rn bl&&AQ ex jK fR g' (lO (uV gb N 0 dp) 0 .leaf (λt=>ij B n N kk ((flat c).drop i) t (fB (ef bl g) m)))))))=true) :
  letI:aP:=k.sig;bV P f p i kk N c (dp.map (Md (aY rn))) (bl.map (g_ (aY rn))++gl) ex (λκ:ag=>jK.map (Md (xY rn κ))) (λκ:ag=>fR.map (g_ (xY rn κ))++y_.map (ke (xY rn κ))):=by
 letI:aP:=k.sig;intro A w Q hA hQ;obtain⟨k1,k2,k3,k4,k5,k6,k7⟩:=Bb hk;obtain⟨F,b1,b2,b3,gb,b4⟩:=Eu k hg k1 k2 k4 k5 hA
 refine M9 hP cY hm (run gb) b1 b2 b3 b4 hA.df (λκ A1 w1 sz df lv L=>hQ κ A1 w1 (by
  show At c N (jK.map (Md (xY rn κ))) (fR.map (g_ (xY rn κ))++y_.map (ke (xY rn κ))) A1 w1;rw[CU L.old]
  exact⟨sz,df,λq hq=>by
   obtain⟨p0,hp0,rfl⟩:=List.mem_map.1 hq
   exact tQ 3 (lv p0 hp0) (k6 p0 hp0),Bc k hg' k3 k7 hA.hold.same L⟩))
theorem Uj{P:Program}(hP:P.check=.ok ())(hm:P.follows .mixedOrders=true)(k:Kn)(cY:@di k.sig P){n m N i kk:Nat}{f:FuncId}{p:List Nat}{c:fQ}(rn:List (Nat×Nat))(bl fR:List dZ)(g g':Nat)(gl y_:List aC)(hg:k.gs[g]? = some (star (dn c.W c.X::gl)))(hg':k.gs[g']? = some (star (dn c.W c.X::y_)))(dp:List (Nat×Value))(r:Value)(hk:v8 rn dp bl [(0,r)] fR=true)
  (run:∀ gb:Nat->Value,letI:aP:=k.sig;cZ P (λB=>kp B f p (λfn c=>Nat.beq (uV gb N 0 dp).length N&&(Nat.beq fn.ntmps N&&(Nat.ble N 4094&&(vr m rn bl&&((fR.all (λq=>Nat.beq (q.1%4) 0)&&isNil ((flat c).drop (i+kk)))&&ji r fR (some g') (lO (uV gb N 0 dp) 0 .leaf (λt=>xD B.P fn (ij B n N kk ((flat c).drop i) t (fB (ef bl g) m))))))))))=true) :
  letI:aP:=k.sig;aK P f p i N c (dp.map (Md (aY rn))) (bl.map (g_ (aY rn))++gl) (λκ:ag=>fO 3 (xY rn κ) r) (λκ:ag=>fR.map (g_ (xY rn κ))++y_.map (ke (xY rn κ))):=by
 letI:aP:=k.sig;intro A w R hA hQ;obtain⟨k1,k2,k3,k4,k5,k6,k7⟩:=Bb hk;obtain⟨F,b1,b2,b3,gb,b4⟩:=Eu k hg k1 k2 k4 k5 hA;refine M_ hP cY hm (run gb) b1 b2 b3 b4 hA.df (λκ v' w1 hv L=>?_);rw[tQ 3 hv (k6 _ (List.mem_singleton.2 rfl)),← congrArg (λκ=>fO 3 κ r) (CU L.old)]
 exact hQ κ w1 (by
  show ah c (fR.map (g_ (xY rn κ))++y_.map (ke (xY rn κ))) w1;rw[CU L.old]
  exact Bc k hg' k3 k7 hA.hold.same L)
theorem cF{P:Program}{f:FuncId}{N:Nat}{args:Array Value}{l:List aC}{F:Nat->Prop}{w:World}{R:Ending->World->Prop}{tm:List (Nat×Value)}(hN:cZ P (λB=>kp B f [] (λfn _=>Nat.beq fn.ntmps N))=true)(hn:bI l F w)(ha:args.size<=N)(ht:∀ p ∈ tm,args[p.1]? = some p.2)
  (h:∀ A,At ⟨w,F⟩ N tm l A w->dL P (fM P f [] 0) (bodyPostM Fence.wide 0 P (jt P f) R) A w):Calls P f args w R :=
 CP hN (h _ ⟨CR ha,rfl,λp hp=>Gq (ht p hp),ah.start hn⟩)
theorem At.ret{P:Program}{f:FuncId}{i N:Nat}{v:Value}{c:fQ}{tm:List (Nat×Value)}{l:List aC}{A:Act}{w:World}(h:At c N tm l A w)(hr:cZ P (λB=>kp B f [] (λfn _=>pq fn.results.toList [i]))=true)(hv:(i,v) ∈ tm){R:Ending->World->Prop}(hR:ah c l w->R (.returned v) w):bodyPostM Fence.wide 0 P (jt P f) R .ret A w :=
 Ip hr h.df (by rw[show A.tmps.getD i undef=v from h.tm _ hv];exact hR h.hold)
theorem At.to{N:Nat}{c:fQ}{tm tm':List (Nat×Value)}{l l':List aC}{A:Act}{w:World}(h:At c N tm l A w)(ht:∀ p ∈ tm',p ∈ tm)(hl:ah c l w->ah c l' w):At c N tm' l' A w:=⟨h.sz,h.df,λp hp=>h.tm p (ht p hp),hl h.hold⟩
theorem ek{P:Program}{f:FuncId}{p:List Nat}{i:Nat}{Q:Exit->Act->World->Prop}{β:Type}(hl:cZ P (λB=>kp B f p (λ_ c=>CO ((flat c).drop i)))=true)(I:β->Act->World->Prop)(μ:β->Nat){x:β}{A:Act}{w:World}(h0:I x A w)
  (step:∀ x A w,I x A w->dL P (fM P f (p++[2*i]) 0) (Exit.then (λA w=>∃ y,I y A w/\μ y<μ x) (Exit.then (dL P (fM P f p (i+1)) Q) Q)) A w):dL P (fM P f p i) Q A w:=by
 refine M8 hl ?_;have key:∀ n x A w,μ x<=n->I x A w->Code.roundsIn Fence.wide 0 P (place P f (p++[2*i])) (Exit.then (dL P (fM P f p (i+1)) Q) Q) (n+1) A w:=by
  intro n
  induction n with
  | zero =>
   intro x A w hx h;rw[roundsIn_succ];refine wpIn_mono (pn (step x A w h)) (λe a w h=>?_);cases e with
   | normal=>obtain⟨y,_,h2⟩:=h;omega
   | _=>exact h
  | succ n ih =>
   intro x A w hx h;rw[roundsIn_succ];refine wpIn_mono (pn (step x A w h)) (λe a w h=>?_);cases e with
   | normal=>obtain⟨y,h1,h2⟩:=h;exact ih y a w (by omega) h1
   | _=>exact h
 exact wpIn_loop_rounds _ (key (μ x) x A w (Nat.le_refl _) h0)
def Iz(w:World):List aC->List aC->Prop
 | [],[]=>True
 | a::l,b::m=>(∀ f,a.p (λ_=>none) f w->b.p (λ_=>none) f w)/\Iz w l m
 | _,_=>False
theorem Bd:∀ {l m:List aC} {F:Nat->Prop} {w:World},Iz w l m->bI l F w->bI m F w
 | [],[],_,_,_,h=>h
 | a::l,b::m,F,w,⟨h1,h2⟩,h=>by
  obtain⟨Fa,Fl,k1,k2,k3,k4⟩:=bD h;exact eA (cb (h1 Fa k1) (Bd h2 k2) (λj hj=>h.lt j ((k4 j).2 (.inl hj))) k3) (λj=>(k4 j).symm)
 | [],_::_,_,_,h,_=>h.elim
 | _::_,[],_,_,h,_=>h.elim
theorem ah.conv{c:fQ}{l m:List aC}{w:World}(h:ah c l w)(hi:Iz w l m):ah c m w:=by
 obtain⟨F,h1,h2,h3⟩:=h.ex;exact⟨⟨F,Bd hi h1,h2,h3⟩⟩
theorem bV.conv{P:Program}{f:FuncId}{p:List Nat}{i k N:Nat}{c:fQ}{tm:List (Nat×Value)}{l:List aC}{ex:Exit}{α:Type}{tm':α->List (Nat×Value)}{l' l'':α->List aC}(h:bV P f p i k N c tm l ex tm' l')(hi:∀ x w,Iz w (l' x) (l'' x)):bV P f p i k N c tm l ex tm' l'' :=
 λA w Q hA hQ=>h A w Q hA (λx A1 w1 h1=>hQ x A1 w1 ⟨h1.sz,h1.df,h1.tm,h1.hold.conv (hi x w1)⟩)
theorem aK.conv{P:Program}{f:FuncId}{p:List Nat}{i N:Nat}{c:fQ}{tm:List (Nat×Value)}{l:List aC}{α:Type}{r:α->Value}{l' l'':α->List aC}(h:aK P f p i N c tm l r l')(hi:∀ x w,Iz w (l' x) (l'' x)):aK P f p i N c tm l r l'' :=
 λA w R hA hR=>h A w R hA (λx w1 h1=>hR x w1 (h1.conv (hi x w1)))
theorem aS{κ:ag}{d:Nat}{a:Value->aC}{f:Nat->Prop}{w:World}(ha:∀ v,Flat (a v))(h:(ke κ (bP d a)).p (λ_=>none) f w):(a (dec ((κ d).getD 0))).p (λ_=>none) f w:=by
 obtain⟨c,h1,h2⟩:=h;rw[h1];exact ha _ _ _ _ _ h2
def lP:List aC->Prop
 | []=>True
 | a::l=>Flat a/\lP l
theorem qC:∀ {l:List aC},lP l->∀ a ∈ l,Flat a
 | [],_,a,h=>by cases h
 | b::l,⟨h1,h2⟩,a,h=>by
  rcases List.mem_cons.1 h with rfl | h
  ·exact h1
  ·exact qC h2 a h
theorem ah.frame{m r:List aC}{F G:Nat->Prop}{w w':World}(h:ah ⟨w,F⟩ m w')(hr:bI r G w)(hd:∀ j,F j->¬ G j):ah ⟨w,λj=>F j\/G j⟩ (m++r) w':=by
 obtain⟨F',h1,h2,h3⟩:=h.ex;have hr':=f6 hr (λj hj=>h2.block j (hr.lt j hj) (λhf=>hd j hf hj)) h2.size;refine⟨⟨_,eh h1 hr' (λj hj hg=>?_),⟨h2.os,h2.tape,h2.output,h2.size,λj hj hn=>h2.block j hj (λhf=>hn (.inl hf))⟩,λj hj=>hj.elim (λhj=>(h3 j hj).imp .inl id) (λhj=>.inl (.inr hj))⟩⟩;rcases h3 j hj with h | h
 ·exact hd j h hg
 ·have h0:w.heap.size<=j:=h
  have:=hr.lt j hg;omega
theorem m6{l m:List aC}{κ:ag}{F:Nat->Prop}{w:World}(h:bI l F w)(hl:m.length=l.length)(hm:∀ (i:Nat) a b f,l[i]? = some a->m[i]? = some b->a.p (λ_=>none) f w->b.p κ f w):(star m).p κ F w:=by
 obtain⟨⟨Fs,q⟩,lt⟩:=h;refine⟨Fs,by rw[q.len,hl],λi b f h1 h2=>?_,q.apart,q.all⟩;have hi:i<l.length:=by rw[← hl];exact(List.getElem?_eq_some_iff.1 h1).1
 exact hm i l[i] b f (List.getElem?_eq_getElem hi) h1 (q.holds i _ f (List.getElem?_eq_getElem hi) h2)
theorem ln(l:List aC)(idx:List Nat)(ι:ag):sel (l.map (ke ι)) idx=(sel l idx).map (ke ι):=by
 unfold sel;rw[List.map_map];refine List.map_congr_left (λi _=>?_);simp only[Function.comp,List.getD_eq_getElem?_getD,List.getElem?_map];cases l[i]? <;> rfl
theorem IA{k:Kn}{P:Program}{c:fQ}{f:FuncId}{abs args:List Value}{g g':Nat}{gl lp P3:List aC}{d0:Option Nat}{r:Value}(idx rest:List Nat)(hg:k.gs[g]? = some (star (dn c.W c.X::gl)))(hg':k.gs[g']? = some (star (dn c.W c.X::(P3++sel gl rest))))(hsel:ku gl.length (idx++rest)=true)(hp:sel gl idx=lp)(hf:lP lp)
  (ha:∀ ι l',(letI:aP:=k.sig;cN ι abs l')->l'=args)
  (con:∀ (w:World) (F:Nat->Prop),jZ c.W c.X w->bI lp F w->(∀ j,F j->c.X j\/c.W.heap.size<=j)->Calls P f args.toArray w λe w'=>∃ (v:Value) (cd:Nat) (lv:List aC),e=.returned v/\ah ⟨w,F⟩ lv w'/\P3.length=lv.length/\
   ∀ (ι:ag) (d:Nat),(∀ y,d0=some y->y=d)->ι d=none->(letI:aP:=k.sig;ao (ι.upd d cd) r v)/\∀ (i:Nat) a b ff,lv[i]? = some a->P3[i]? = some b->a.p (λ_=>none) ff w'->b.p (ι.upd d cd) ff w'):dQ k P ⟨f,abs,g,d0,r,some g'⟩:=by
 letI:aP:=k.sig;intro ι args' F w d hl h1 h2 h3 h4;have e:=ha ι _ hl;have ea:args'=args.toArray:=by rw[← e]
 subst ea;obtain⟨b,q1,q2⟩:=h1;rw[hg]at q1;cases q1;have hd:ι d=none:=h3.elim id (λh=>by cases h);obtain⟨Fo,Fg,⟨o1,o2⟩,n1,n2,n3⟩:=bD (l:=gl.map (ke ι)) (jI q2 h2);obtain⟨F',s1,s2⟩:=jJ n1 (idx++rest) (by rw[List.length_map];exact hsel);have hsp:sel (gl.map (ke ι)) (idx++rest)=lp.map (ke ι)++(sel gl rest).map (ke ι):=by
  rw[ln,← hp,← List.map_append];unfold sel;rw[List.map_append]
 rw[hsp]at s1;obtain⟨F1,F2,p1,p2,p3,p4⟩:=cy s1
 have pl:bI lp F1 w:=lm p1 (by simp) (λi a b ff e1 e2 h=>by
  rw[List.getElem?_map,e2]at e1;cases e1
  exact qC hf b (List.mem_of_getElem? e2) ι _ ff w h)
 have hFg:∀ j,Fg j->c.X j\/c.W.heap.size<=j:=λj hj=>by
  rcases Nat.lt_or_ge j c.W.heap.size with h | h
  ·exact .inl (Classical.byContradiction λhx=>n2 j ((o1 j).2 ⟨h,hx⟩) hj)
  ·exact .inr h
 refine(con w F1 o2 pl (λj hj=>hFg j (s2 j ((p4 j).2 (.inl hj))))).mono ?_;rintro e' w' ⟨v,cd,lv,rfl,hh,hlen,hrel⟩;obtain⟨G,g1,g2,g3⟩:=hh.ex;obtain⟨r1,r2⟩:=hrel ι d h4 hd;have hH:∀ j,Fo j->¬ F1 j:=λj ho hf1=>n2 j ho (s2 j ((p4 j).2 (.inl hf1)))
 have kr:bI ((sel gl rest).map (ke ι)) F2 w':=f6 p2 (λj hj=>g2.block j (p2.lt j hj) (λh=>p3 j h hj)) g2.size;have tR:∀ j,Fo j->j<w.heap.size:=λj hj=>h2 j ((n3 j).2 (.inl hj))
 have tS:∀ j,G j->¬ F2 j:=λj hj hf2=>by
  rcases g3 j hj with h | h
  ·exact p3 j h hf2
  ·have h0:w.heap.size<=j:=h
   have:=p2.lt j hf2;omega
 have all:=cb (a:=dn c.W c.X) (Fa:=Fo) ⟨o1,λj hj hx=>(g2.block j (tR j ((o1 j).2 ⟨hj,hx⟩)) (hH j ((o1 j).2 ⟨hj,hx⟩))).trans (o2 j hj hx)⟩ (eh g1 kr tS) (λj hj=>Nat.lt_of_lt_of_le (tR j hj) g2.size) (λj hj hx=>by
  rcases hx with hx | hx
  ·rcases g3 j hx with h | h
   ·exact hH j hj h
   ·have h0:w.heap.size<=j:=h
    have:=tR j hj;omega
  ·exact n2 j hj (s2 j ((p4 j).2 (.inr hx))))
 refine⟨v,rfl,cd,_,r1,⟨_,hg',m6 all (by simp[hlen]) (λi a b ff e1 e2 h=>?_)⟩,⟨g2.os,g2.tape,g2.output,g2.size,λj hj hn=>g2.block j hj (λhf=>hn ((n3 j).2 (.inr (s2 j ((p4 j).2 (.inl hf))))))⟩,λj hj=>⟨all.lt j hj,?_⟩⟩
 ·match i with
  | 0=>cases e1;cases e2;exact h
  | i+1 =>
   rw[List.getElem?_cons_succ]at e1 e2;rcases Nat.lt_or_ge i lv.length with hi | hi
   ·rw[List.getElem?_append_left hi]at e1
    rw[List.getElem?_append_left (by rw[hlen];exact hi)]at e2;exact r2 i a b ff e1 e2 h
   ·rw[List.getElem?_append_right hi,List.getElem?_map]at e1
    rw[List.getElem?_append_right (by rw[hlen];exact hi),hlen]at e2;rw[e2]at e1;cases e1;exact b.mono ι _ ff w' (ag.dE (b:=cd) hd) h
 ·rcases hj with hj | hj | hj
  ·exact .inl ((n3 j).2 (.inl hj))
  ·rcases g3 j hj with h | h
   ·exact .inl ((n3 j).2 (.inr (s2 j ((p4 j).2 (.inl h)))))
   ·exact .inr h
  ·exact .inl ((n3 j).2 (.inr (s2 j ((p4 j).2 (.inr hj)))))
theorem P4{k:Kn}{P:Program}{c:fQ}{f:FuncId}{abs args:List Value}{g g':Nat}{gl lp lq:List aC}{r rv:Value}(idx rest:List Nat)(hg:k.gs[g]? = some (star (dn c.W c.X::gl)))(hg':k.gs[g']? = some (star (dn c.W c.X::(lq++sel gl rest))))(hsel:ku gl.length (idx++rest)=true)(hp:sel gl idx=lp)(hf:lP lp)
  (ha:∀ ι l',(letI:aP:=k.sig;cN ι abs l')->l'=args) (hr:∀ ι,(letI:aP:=k.sig;ao ι r rv))
  (con:∀ (w:World) (F:Nat->Prop),jZ c.W c.X w->bI lp F w->(∀ j,F j->c.X j\/c.W.heap.size<=j)->Calls P f args.toArray w λe w'=>e=.returned rv/\ah ⟨w,F⟩ lq w'):dQ k P ⟨f,abs,g,none,r,some g'⟩:=by
 letI:aP:=k.sig;refine IA idx rest hg hg' hsel hp hf ha (λw F h1 h2 h3=>(con w F h1 h2 h3).mono ?_);rintro e w' ⟨rfl,hh⟩;refine⟨rv,0,lq,rfl,hh,rfl,λι d _ hd=>⟨hr _,λi a b ff e1 e2 h=>?_⟩⟩;rw[e1]at e2;cases e2;exact a.mono _ _ ff w' (λ_ _ e=>by cases e) h
theorem IB{k:Kn}{P:Program}{c:fQ}{f:FuncId}{abs args:List Value}{g g' d1:Nat}{gl lp P3:List aC}{r:Value}{ret:Value->Value}{lq:Value->List aC}(idx rest:List Nat)(hg:k.gs[g]? = some (star (dn c.W c.X::gl)))(hg':k.gs[g']? = some (star (dn c.W c.X::(P3++sel gl rest))))(hsel:ku gl.length (idx++rest)=true)(hp:sel gl idx=lp)(hf:lP lp)
  (ha:∀ ι l',(letI:aP:=k.sig;cN ι abs l')->l'=args) (hr:∀ (ι:ag) cd,ι d1=some cd->(letI:aP:=k.sig;ao ι r (ret (dec cd)))) (hq:∀ (ι:ag) cd w',ι d1=some cd->P3.length=(lq (dec cd)).length/\∀ (i:Nat) a b ff,(lq (dec cd))[i]? = some a->P3[i]? = some b->a.p (λ_=>none) ff w'->b.p ι ff w')
  (con:∀ (w:World) (F:Nat->Prop),jZ c.W c.X w->bI lp F w->(∀ j,F j->c.X j\/c.W.heap.size<=j)->Calls P f args.toArray w λe w'=>∃ v cd,dec cd=v/\e=.returned (ret v)/\ah ⟨w,F⟩ (lq v) w'):dQ k P ⟨f,abs,g,some d1,r,some g'⟩:=by
 letI:aP:=k.sig;refine IA idx rest hg hg' hsel hp hf ha (λw F h1 h2 h3=>(con w F h1 h2 h3).mono ?_);rintro e w' ⟨v,cd,rfl,rfl,hh⟩;have up:∀ (ι:ag),(ι.upd d1 cd) d1=some cd:=λι=>by simp[ag.upd]
 refine⟨_,cd,lq (dec cd),rfl,hh,(hq _ cd w' (up (λ_=>none))).1,λι d hd0 hd=>?_⟩;obtain rfl:=hd0 d1 rfl;exact⟨hr _ cd (up ι),(hq _ cd w' (up ι)).2⟩
def aD(e:TypeId)(sz:Nat)(v:Value)(n:Nat)(xs:List Value):aC where
 p:=λ_ F w=>fh e sz v n xs F w
 keep:=λ_ F w w' hk h=>h.keep hk
 mono:=λ_ _ _ _ _ h=>h
section rows
variable{k:Kn}{P:Program}{g g':Nat}{l:List aC}{ci:Nat}{t e:TypeId}{sL sI sP sQ sV n sz m:Nat}{v:Value}{xs:List Value}{i:TypeInfo}
theorem bT(hg:k.gs[g]? = some (star l))(hi:l[ci]? = some (aD e sz v n xs))(ht:P.underlying t=some (.slice e))(hsz:i.size=sz)(hL:k.val sL=v)(hV:k.val sV=.int .i64 (n:Int)):aR k P ⟨[10,t],[sy sL],none,g,none,sy sV,none⟩:=by
 subst hsz;refine aR.len k ?_;letI:aP:=k.sig;intro ι F w d x' ty q hx;obtain⟨Fs,ff,hS,hf,h1⟩:=dC hg hi q;rw[fN hx,hL];exact⟨_,w,fh.len h1 ht ty,mA hV,Below.refl _ _⟩
theorem Ew{sz n m:Nat}{v:Value}{xs:List Value}{F:Nat->Prop}{w:World}(h:fh e sz v n xs F w)(hm:m<n*sz):∃ b off c,v=.slice (some ⟨b,off,none⟩) n c/\dx v m=.pointer (some ⟨b,off+m,none⟩)/\F b/\w.cell? ⟨b,off+m,none⟩=xs[m]?/\w.frozen? ⟨b,off+m,none⟩=false:=by
 obtain⟨h1,⟨_,rfl,hF⟩ | ⟨b,off,c,arr,rfl,hF,hb0,hx,hsz,hnc⟩⟩:=h
 ·simp at hm
 ·exact⟨b,off,c,rfl,rfl,(hF b).2 rfl,by rw[← hx m hm];simp[World.cell?,hb0],by simp[World.frozen?,hb0]⟩
theorem bJ{kd:IntKind}{j:Nat}(hg:k.gs[g]? = some (star l))(hi:l[ci]? = some (aD e sz v n xs))(ht:P.underlying t=some (.slice e))(jl:P.info? e=some i)(hsz:i.size=sz)(hL:k.val sL=v)(hI:k.val sI=.int kd (j:Int))(hj:j<n)(hP:k.val sP=dx v (j*sz)):aR k P ⟨[3,t],[sy sL,sy sI],none,g,none,sy sP,none⟩:=by
 subst hsz;refine aR.index k ?_;letI:aP:=k.sig;intro ι F w d x' y' q hx hy;obtain⟨Fs,ff,hS,hf,h1⟩:=dC hg hi q;rw[fN hx,fN hy,hL,hI];obtain⟨b,off,c,e1,e2,_⟩:=fh.at (kd:=kd) h1 ht jl hj;exact⟨_,w,e2,mA (by rw[hP,e1];rfl),Below.refl _ _⟩
theorem fi{x r:Value}(hg:k.gs[g]? = some (star l))(hi:l[ci]? = some (aD e sz v n xs))(hL:lj P t)(hm:xs[m]? = some x)(hn:m<n*sz)(hP:k.val sP=dx v m)(hV:∀ ι,(letI:aP:=k.sig;ao ι r x)):aR k P ⟨[1,t],[sy sP],none,g,none,r,none⟩:=by
 refine aR.load k ?_;letI:aP:=k.sig;intro ι F w d x' q hx;obtain⟨Fs,ff,hS,hf,h1⟩:=dC hg hi q;rw[fN hx,hP];obtain⟨b,off,c,_,e2,_,e3,_⟩:=Ew h1 hn;rw[e2];exact⟨x,w,hL b (off+m) x w (by rw[e3,hm]),hV _,Below.refl _ _⟩
def pw(P:Program)(t:TypeId):Prop:=∀ b o x x0 (w:World),w.cell? ⟨b,o,none⟩=some x0->w.frozen? ⟨b,o,none⟩=false->x.oneCell'=true->(Instr.storeAt t (.pointer (some ⟨b,o,none⟩)) x).run P w=.ok () (w.setCell ⟨b,o,none⟩ x)
theorem Be{b o:Nat}{x:Value}{w:World}{F:Nat->Prop}(h:F b):Turn F w (w.setCell ⟨b,o,none⟩ x):=by
 have hs:=@eV dY (base:=λ_=>False) (b:=b) (λh=>h) [x] o w;exact⟨hs.os,hs.tape,hs.output,by have:=@setCells_size dY b [x] o w;exact Nat.le_of_eq this.symm,λj hj hn=>@fV dY b [x] o w j (λ(e:j=b)=>hn (e▸h))⟩
theorem c6{x r:Value}(hg:k.gs[g]? = some (star l))(hi:l[ci]? = some (aD e sz v n xs))(hg':k.gs[g']? = some (star (l.set ci (aD e sz v n (xs.set m x)))))(hL:pw P t)(hn:m<n*sz)(hP:k.val sP=dx v m)(hV:∀ ι y,(letI:aP:=k.sig;ao ι r y)->y=x)(hc:x.oneCell'=true):aR k P ⟨[2,t],[sy sP,r],none,g,none,undef,some g'⟩:=by
 refine aR.store k ?_;letI:aP:=k.sig;intro ι F w d x' y' q hx hy;obtain⟨Fs,ff,hS,hf,h1⟩:=dC hg hi q;rw[fN hx,hP,hV _ _ hy];obtain⟨b,off,c,e1,e2,e0,e3,e4⟩:=Ew h1 hn;rw[e2];have hlt:m<xs.length:=by rw[h1.1];exact hn
 rw[List.getElem?_eq_getElem hlt]at e3;have hset:=fh.set (b:=b) (off:=off) (c:=c) h1 e1 hn x;exact⟨_,hL b (off+m) x _ w e3 e4 hc,rX hg' hS q.lt hf (gE q) 0 hset (Be e0) (λj hj=>⟨Nat.lt_of_lt_of_le (h1.lt j hj) (Be (x:=x) (o:=off+m) e0).size,.inl hj⟩) (e9 _)⟩
end rows
section
variable{P:Program}{kT e:TypeId}{b r n cnt d:Nat}{f:Int->Option Int}{left:Int->Bool}{i:Int}{c:fQ}{l:List aC}{w:World}{κ:ag}
theorem ah.next(h:ah c (RZ P kT e b r n cnt f left::l) w):∃ i c',c'<cnt/\left i=true/\Rb i/\(f i).isSome=true/\ah c (P2 P kT e b r n c' f (Iw left i) i::l) w:=by
 obtain⟨⟨i,c'⟩,⟨h1,h2,h3,h4⟩,hh⟩:=h.Ix (b:=λx:Int×Nat=>P2 P kT e b r n x.2 f (Iw left x.1) x.1) (p:=λx=>x.2<cnt/\left x.1=true/\Rb x.1/\(f x.1).isSome=true) (λF ⟨h1,i,c',h2,h3,h4⟩=>⟨(i,c'),⟨h2,h3,h4.1,h4.2.1⟩,h1,h4⟩);exact⟨i,c',h1,h2,h3,h4,hh⟩
theorem ah.cur(h:ah c (P2 P kT e b r n cnt f left i::l) w):ah c (Uh P kT e b (.st (P1 r)) n cnt f left::l) w :=
 h.head (λF ⟨h1,h2⟩=>⟨r,rfl,h1,h2.2.2.1⟩)
end
section
variable{k:Kn}{P:Program}{g g':Nat}{l:List aC}{ci:Nat}{t u e:TypeId}{sL sP sQ sV n sz m:Nat}{v:Value}{xs:List Value}{i:TypeInfo}{z:Value}
theorem Ex{ι:ag}{c c':List Value}(h:letI:aP:=k.sig;cN ι c c')(ho:c.all oneCell=true):∀ u ∈ c',u.oneCell'=true:=by
 letI:aP:=k.sig;intro u hu;rw[List.all_eq_true]at ho;obtain⟨i,hi⟩:=List.getElem?_of_mem hu;have hlt:i<c.length:=by
  rw[h.1];exact(List.getElem?_eq_some_iff.1 hi).1
 exact one_one ((h.2 i _ _ (List.getElem?_eq_getElem hlt) hi).one (ho _ (List.getElem_mem hlt)))
theorem eG{d1 e':Nat}{c cs:List Value}(hg:k.gs[g]? = some (star l))(hi:l[ci]? = some (aD e sz v n xs))(hg':k.gs[g']? = some (star (l.set ci (bP d1 (λv'=>aD e sz v' (n+m) (xs++cs))))))(ht:P.underlying t=some (.slice e))(hu:P.underlying u=some (.slice e'))(jl:P.info? e=some i)(hsz:i.size=sz)(h0:0<sz)(hz:i.zero=some z)(hzs:z.cells.size=i.size)
  (hb:(n+m)*i.bytes<=140737488355328) (hnm:n+m<=1000000000) (hL:k.val sL=v) (hm:c.length=m*sz) (hc:∀ ι c',(letI:aP:=k.sig;cN ι c c')->c'=cs):aR k P ⟨[11,t,u],[sy sL],some (sz,1,c),g,some d1,.complex .f32 d1 0,some g'⟩:=by
 subst hsz;refine aR.append k ?_;letI:aP:=k.sig;intro ι F w d x' y' c' m' ty q hx hcr hcm ho hr hl;obtain⟨Fs,ff,hS,hf,h1⟩:=dC hg hi q;have hmm:m'=m:=Nat.eq_of_mul_eq_mul_right h0 (by rw[← hcm,hm]);subst hmm;obtain rfl:=q.name d1 rfl;rw[fN hx,hL];have hs:Src P i.size u y' m' c' w:=⟨.inl ⟨_,hu⟩,hl,hr w rfl,hr w.drew rfl,by rw[← hcr.1];exact hm,Ex hcr ho⟩;obtain⟨v2,w2,F2,r1,r2,r3,r4⟩:=fh.append (ty:=ty) h1 ht jl hz hzs hs hb hnm;rw[hc _ _ hcr]at r2;obtain⟨cc,hcc⟩:=r2.code;have hup:(ι.upd d1 cc) d1=some cc:=by simp[ag.upd]
 exact⟨v2,w2,r1,rX hg' hS q.lt hf (gE q) cc ⟨cc,hup,by rw[hcc];exact r2⟩ r3 r4 (.dyn d1 cc v2 hup hcc)⟩
theorem IC{w0:World}{X:Nat->Prop}{f:FuncId}{abs args:List Value}{r rv:Value}(hg:k.gs[g]? = some (star l))(hi:l[ci]? = some (dn w0 X))(hc:∀ w,jZ w0 X w->Calls P f args.toArray w λe w'=>e=.returned rv/\Below w.heap.size w w')(hr:∀ ι,(letI:aP:=k.sig;ao ι r rv))
  (ha:∀ ι l',(letI:aP:=k.sig;cN ι abs l')->l'=args):dQ k P ⟨f,abs,g,none,r,none⟩:=by
 letI:aP:=k.sig;intro ι args' F w d hl h1 h2 h3 h4;have e:=ha ι _ hl;obtain⟨b,q1,q2⟩:=h1;rw[hg]at q1;cases q1;obtain⟨Fs,q2⟩:=q2;have hlt:ci<Fs.length:=by rw[q2.len];exact(List.getElem?_eq_some_iff.1 hi).1
 obtain⟨_,o3⟩:=q2.holds ci _ _ hi (List.getElem?_eq_getElem hlt);have ea:args'=args.toArray:=by rw[← e]
 rw[ea];refine(hc w o3).mono ?_;rintro e w' ⟨rfl,hb⟩;exact⟨_,rfl,hr ι,hb⟩
theorem IE:∀ ι l',(letI:aP:=k.sig;cN ι [] l')->l'=[]:=by
 letI:aP:=k.sig;intro ι l' h;exact List.eq_nil_of_length_eq_zero h.1.symm
theorem iY{x v:Value}{abs args:List Value}(hx:AX k x v)(h:∀ ι l',(letI:aP:=k.sig;cN ι abs l')->l'=args):∀ ι l',(letI:aP:=k.sig;cN ι (x::abs) l')->l'=v::args:=by
 letI:aP:=k.sig;intro ι l' hl
 match l',hl with
 | [],hl=>exact absurd hl.1 (by simp)
 | y::l',hl =>
  rw[hx ι y (hl.2 0 x y rfl rfl),h ι l' ⟨by simpa using hl.1,λi a b e1 e2=>hl.2 (i+1) a b (by simpa using e1) (by simpa using e2)⟩]
theorem isAgg{k:Kn}{abs cs:List Value}(h:∀ ι l',(letI:aP:=k.sig;cN ι abs l')->l'=cs):AX k (.agg abs.toArray) (.agg cs.toArray):=λι x' hx=>by
 letI:aP:=k.sig;cases hx with
 | agg f f' hf hh =>
  have:=h ι f'.toList ⟨by simpa using hf,λi v v' e1 e2=>hh i v v' (by simpa using e1) (by simpa using e2)⟩;rw[← this]
theorem P5{k:Kn} : AX k (.pointer none) (.pointer none):=λι x' hx=>by
 letI:aP:=k.sig;cases hx with
 | oM=>rfl
theorem ou{k:Kn} : AX k (.slice none 0 0) (.slice none 0 0):=λι x' hx=>by
 letI:aP:=k.sig;cases hx with
 | c8=>rfl
variable{b:Nat}{cs:List Value}{T:TypeId}
end
theorem fh.ro{e:TypeId}{sz n:Nat}{v:Value}{xs:List Value}{F:Nat->Prop}{w:World}(h:fh e sz v n xs F w):lT sz v n xs w:=by
 obtain⟨h1,⟨he,h2,_⟩ | ⟨b,off,c,arr,rfl,hF,hb0,hx,hsz,hnc⟩⟩:=h
 ·obtain⟨a,rfl⟩:=he.base
  exact⟨h1,.inl ⟨h2,_,_,rfl⟩⟩
 ·refine⟨h1,.inr ⟨b,off,c,rfl,⟨(Array.getElem?_eq_some_iff.1 hb0).1,hnc⟩,λj hj=>?_⟩⟩
  rw[← hx j hj];simp[World.cell?,hb0]
theorem fh.off{e:TypeId}{sz n:Nat}{v:Value}{xs:List Value}{F X:Nat->Prop}{w:World}(h:fh e sz v n xs F w)(hd:∀ j,F j->¬ X j):qA X v:=by
 obtain⟨h1,⟨he,h2,_⟩ | ⟨b,off,c,arr,rfl,hF,hb0,hx,hsz,hnc⟩⟩:=h
 ·rcases he with rfl | ⟨b,off,rfl⟩
  ·trivial
  ·exact λh0=>absurd h0 (Nat.lt_irrefl 0)
 ·exact λ_=>hd b ((hF b).2 rfl)
theorem lT.R1{sz n:Nat}{v:Value}{xs:List Value}{w0:World}{X Y:Nat->Prop}(h:lT sz v n xs w0)(hX:qA X v)(hY:∀ j,j<w0.heap.size->¬ X j->¬ Y j):qA Y v:=by
 obtain⟨h1,⟨rfl,a,c,rfl⟩ | ⟨b,off,c,rfl,⟨hb,_⟩,_⟩⟩:=h
 ·cases a with
  | none=>trivial
  | some a=>exact λh0=>absurd h0 (Nat.lt_irrefl 0)
 ·exact λh0=>hY b hb (hX h0)
end Go.Ev
