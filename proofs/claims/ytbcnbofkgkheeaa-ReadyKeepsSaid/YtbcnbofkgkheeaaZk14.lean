/- Part of a proof: see the last text. -/
import Derived.Test.YtbcnbofkgkheeaaZk13
namespace Go.Ev
open Go.RowKit
set_option linter.unusedVariables false
set_option linter.unusedSimpArgs false
set_option linter.unusedSectionVars false
def oldX (w0:World) (X:Nat→Prop) : Asr where
 p:=fun _ F w=>(∀ j,F j↔j < w0.heap.size∧¬ X j)∧∀ j,j < w0.heap.size→¬ X j→w.heap[j]? = w0.heap[j]?
 keep:=fun ι F w w' hk ⟨h1,h3⟩=>⟨h1,fun j hj hx=>(hk j ((h1 j).2 ⟨hj,hx⟩)).trans (h3 j hj hx)⟩
 mono:=fun _ _ _ _ _ h=>h
abbrev oldA (w0:World) : Asr:=oldX w0 (fun _=>False)
def OffX (X:Nat→Prop) : Value→Prop
 | .slice (some ⟨b,_,_⟩) n _=>0 < n→¬ X b
 | _=>True
theorem offNone (v:Value) : OffX (fun _=>False) v:=by
 unfold OffX
 split
 ·exact fun _ h=>h
 ·trivial
def SlR (sz:Nat) (v:Value) (n:Nat) (xs:List Value) (w0:World) : Prop :=
 xs.length=n * sz∧((n=0∧∃ a c,v=.slice a 0 c)∨∃ b off c,v=.slice (some ⟨b,off,none⟩) n c∧(b < w0.heap.size∧n≤c)∧∀ j,j < n * sz→w0.cell? ⟨b,off+j,none⟩=xs[j]?)
def ptrR (v:Value) (m:Nat) : Value :=
 match v with
 | .slice (some ⟨b,off,_⟩) _ _=>.pointer (some ⟨b,off+m,none⟩)
 | _=>.pointer none
theorem ptrR_leaf (v:Value) (m:Nat) : leafV (ptrR v m)=true:=by
 unfold ptrR
 split <;> rfl
theorem SlR.leaf {sz n:Nat} {v:Value} {xs:List Value} {w0:World} (h:SlR sz v n xs w0) : leafV v=true:=by
 obtain ⟨_,⟨_,a,c,rfl⟩ | ⟨b,off,c,rfl,_⟩⟩:=h <;> rfl
theorem old_cell {w w0:World} {X:Nat→Prop} {b o:Nat} (hb:b < w0.heap.size) (hx:¬ X b) (h:∀ j,j < w0.heap.size→¬ X j→w.heap[j]? = w0.heap[j]?) : w.cell? ⟨b,o,none⟩=w0.cell? ⟨b,o,none⟩:=by
 simp only [World.cell?,h b hb hx]
section rows
variable {k:Kn} {P:Program} {g:Nat} {l:List Asr} {ci:Nat} {w0:World} {X:Nat→Prop} {t e:TypeId} {sL sI sP sQ sV n sz m:Nat} {v:Value} {xs:List Value}
theorem vsymR {ι:Ren} {m:Nat} {x':Value} (h:letI:Sig:=k.sig; VRel ι (sy m) x') : x'=k.val m:=by
 letI:Sig:=k.sig
 cases h with
 | sym n m' _ h=>exact h.symm
theorem rsymR {ι:Ren} {m:Nat} {x':Value} (h:k.val m=x') : letI:Sig:=k.sig; VRel ι (sy m) x':=by
 letI:Sig:=k.sig
 exact .sym m 0 x' h
theorem ro_len (hg:k.gs[g]? = some (star l)) (hi:l[ci]? = some (oldX w0 X)) (hs:SlR sz v n xs w0) (ht:P.underlying t=some (.slice e)) (hL:k.val sL=v) (hV:k.val sV=.int .i64 (n:Int)) : GTrue k P ⟨[10,t],[sy sL],none,g,none,sy sV,none⟩:=by
 refine GTrue.len k ?_
 letI:Sig:=k.sig
 intro ι F w d x' ty q hx
 rw [vsymR hx,hL]
 have:(Builtin.len_ #[t] ty #[v]).run P w=.ok (.int .i64 n) w:=by
  obtain ⟨h1,⟨rfl,a,c,rfl⟩ | ⟨b,off,c,rfl,_⟩⟩:=hs <;> simp [Builtin.len_,run_underlying ht,goInt]
 exact ⟨_,w,this,rsymR hV,Below.refl _ _⟩
theorem ro_index {kd:IntKind} {j:Nat} {i:TypeInfo} (hg:k.gs[g]? = some (star l)) (hi:l[ci]? = some (oldX w0 X)) (hs:SlR sz v n xs w0) (ht:P.underlying t=some (.slice e)) (hinf:P.info? e=some i) (hsz:i.size=sz) (hL:k.val sL=v) (hI:k.val sI=.int kd (j:Int)) (hj:j < n) (hP:k.val sP=ptrR v (j * sz)) : GTrue k P ⟨[3,t],[sy sL,sy sI],none,g,none,sy sP,none⟩:=by
 refine GTrue.index k ?_
 letI:Sig:=k.sig
 intro ι F w d x' y' q hx hy
 rw [vsymR hx,vsymR hy,hL,hI]
 obtain ⟨h1,⟨rfl,_⟩ | ⟨b,off,c,rfl,⟨hb,_⟩,hc⟩⟩:=hs
 ·omega
 ·refine ⟨.pointer (some ⟨b,off+j * sz,none⟩),w,?_,rsymR hP,Below.refl _ _⟩
  have hc:(0:Int)≤(j:Int)∧(j:Int) < (n:Int):=⟨by omega,by omega⟩
  simp [Instr.indexAt,run_underlying ht,hc,sizeOf,typeInfo,hinf,hsz,addMk,asIntOf]
  intro h
  omega
def LoadOne (P:Program) (t:TypeId) : Prop:=∀ b o x (w:World),w.cell? ⟨b,o,none⟩=some x→(Instr.loadAt t (.pointer (some ⟨b,o,none⟩))).run P w=.ok x w
theorem ro_load {x:Value} (hg:k.gs[g]? = some (star l)) (hi:l[ci]? = some (oldX w0 X)) (hs:SlR sz v n xs w0) (hL:LoadOne P t) (hm:xs[m]? = some x) (hP:k.val sP=ptrR v m) (hV:k.val sV=x) (hX:OffX X v:=by first | assumption | exact Go.Ev.offNone _) : GTrue k P ⟨[1,t],[sy sP],none,g,none,sy sV,none⟩:=by
 refine GTrue.load k ?_
 letI:Sig:=k.sig
 intro ι F w d x' q hx
 obtain ⟨Fs,ff,hS,hf,h1,h3⟩:=star_ask hg hi q
 rw [vsymR hx,hP]
 have hlt:=(List.getElem?_eq_some_iff.1 hm).1
 obtain ⟨e1,⟨rfl,_⟩ | ⟨b,off,c,rfl,⟨hb,_⟩,hc⟩⟩:=hs
 ·omega
 ·exact ⟨x,w,hL b (off+m) x w (by rw [old_cell hb (hX (Nat.pos_of_ne_zero (fun h0=>by rw [h0,Nat.zero_mul] at e1; omega))) h3,hc m (by omega),hm]),rsymR hV,Below.refl _ _⟩
end rows
def OldW (w0:World) (X:Nat→Prop) (w:World) : Prop:=∀ j,j < w0.heap.size→¬ X j→w.heap[j]? = w0.heap[j]?
theorem SlR.old {sz n:Nat} {v:Value} {xs:List Value} {w0 w:World} {X:Nat→Prop} (h:SlR sz v n xs w0) (ho:OldW w0 X w) (hX:OffX X v:=by first | assumption | exact Go.Ev.offNone _) : SlR sz v n xs w:=by
 obtain ⟨h1,h2 | ⟨b,off,c,e,⟨hb,hcap⟩,hc⟩⟩:=h
 ·exact ⟨h1,.inl h2⟩
 ·subst e
  rcases Nat.eq_zero_or_pos n with h0 | h0
  ·subst h0
   exact ⟨h1,.inl ⟨rfl,_,_,rfl⟩⟩
  have hX:=hX h0
  have hlt:b < w.heap.size:=by
   have e1:=ho b hb hX
   rw [Array.getElem?_eq_getElem hb] at e1
   exact (Array.getElem?_eq_some_iff.1 e1).1
  exact ⟨h1,.inr ⟨b,off,c,rfl,⟨hlt,hcap⟩,fun j hj=>by rw [old_cell hb hX ho]; exact hc j hj⟩⟩
def IsV (k:Kn) (x v:Value) : Prop:=∀ ι x',(letI:Sig:=k.sig; VRel ι x x')→x'=v
theorem isSym {k:Kn} {m:Nat} {v:Value} (h:k.val m=v) : IsV k (sy m) v:=fun ι x' hx=>by rw [vsymR hx,h]
theorem isInt {k:Kn} {kd:IntKind} {m:Int} : IsV k (.int kd m) (.int kd m):=fun ι x' hx=>by
 letI:Sig:=k.sig
 cases hx with
 | int=>rfl
theorem row_min {k:Kn} {P:Program} {g:Nat} {t u:TypeId} {x y:Value} {sV:Nat} {kd:IntKind} {a b:Int} (hx:IsV k x (.int kd a)) (hy:IsV k y (.int kd b)) (hV:k.val sV=.int kd (min a b)) : GTrue k P ⟨[16,t,u],[x,y],none,g,none,sy sV,none⟩:=by
 refine GTrue.min k ?_
 letI:Sig:=k.sig
 intro ι F w d x' y' ty q h1 h2
 rw [hx _ _ h1,hy _ _ h2]
 refine ⟨_,w,?_,rsymR hV,Below.refl _ _⟩
 simp [Builtin.min_,Builtin.min2]
 try (by_cases h:a≤b <;> simp [h,Int.min_def] <;> omega)
theorem row_max {k:Kn} {P:Program} {g:Nat} {t u:TypeId} {x y:Value} {sV:Nat} {kd:IntKind} {a b:Int} (hx:IsV k x (.int kd a)) (hy:IsV k y (.int kd b)) (hV:k.val sV=.int kd (max a b)) : GTrue k P ⟨[17,t,u],[x,y],none,g,none,sy sV,none⟩:=by
 refine GTrue.max k ?_
 letI:Sig:=k.sig
 intro ι F w d x' y' ty q h1 h2
 rw [hx _ _ h1,hy _ _ h2]
 refine ⟨_,w,?_,rsymR hV,Below.refl _ _⟩
 simp [Builtin.max_,Builtin.max2]
 try (by_cases h:a≤b <;> simp [h,Int.max_def] <;> omega)
def Flat (a:Asr) : Prop:=∀ ι κ F w,a.p ι F w→a.p κ F w
theorem flat_star {l:List Asr} (h:∀ a ∈ l,Flat a) : Flat (star l):=fun ι κ F w ⟨Fs,q⟩=>⟨Fs,q.len,fun i a f h1 h2=>h a (List.mem_of_getElem? h1) ι κ f w (q.holds i a f h1 h2),q.apart,q.all⟩
structure Same (W w:World) : Prop where
 os:w.os=W.os
 tape:w.tape=W.tape
 output:w.output=W.output
 size:W.heap.size≤w.heap.size
theorem Same.refl (W:World) : Same W W:=⟨rfl,rfl,rfl,Nat.le_refl _⟩
theorem Same.trans {a b c:World} (h:Same a b) (k:Same b c) : Same a c:=⟨k.os.trans h.os,k.tape.trans h.tape,k.output.trans h.output,Nat.le_trans h.size k.size⟩
theorem Turn.same {F:Nat→Prop} {w w':World} (h:Turn F w w') : Same w w':=⟨h.os,h.tape,h.output,h.size⟩
structure Now (l:List Asr) (F:Nat→Prop) (w:World) : Prop where
 st:(star l).p (fun _=>none) F w
 lt:∀ j,F j→j < w.heap.size
theorem Now.gr {k:Kn} {g:Nat} {l:List Asr} {F:Nat→Prop} {w:World} (h:Now l F w) (hl:∀ a ∈ l,Flat a) (hg:k.gs[g]? = some (star l)) (ι:Ren) : letI:Sig:=k.sig; Sig.GR g ι F w:=⟨_,hg,flat_star hl _ _ F w h.st⟩
theorem Left.now {k:Kn} {g:Nat} {l:List Asr} {rn:List (Nat×Nat)} {bl:List Blk} {F:Nat→Prop} {w w1:World} {κ:Ren} (h:letI:Sig:=k.sig; Left rn bl g F w κ w1) (hl:∀ a ∈ l,Flat a) (hg:k.gs[g]? = some (star l)) : ∃ F',Now l F' w1∧Same w w1:=by
 letI:Sig:=k.sig
 obtain ⟨F',⟨a,q1,q2⟩,q3,q4⟩:=h.gh
 rw [hg] at q1
 cases q1
 exact ⟨F',⟨flat_star hl _ _ F' w1 q2,fun j hj=>(q3 j hj).1⟩,h.turn.same⟩
theorem Now.part {l:List Asr} {F:Nat→Prop} {w:World} (h:Now l F w) {i:Nat} {a:Asr} (hi:l[i]? = some a) : ∃ f,a.p (fun _=>none) f w:=by
 obtain ⟨Fs,q⟩:=h.st
 have hlt:i < Fs.length:=by rw [q.len]; exact (List.getElem?_eq_some_iff.1 hi).1
 exact ⟨_,q.holds i a _ hi (List.getElem?_eq_getElem hlt)⟩
theorem Now.below {l:List Asr} {F:Nat→Prop} {w W:World} (h:Now l F w) {i:Nat} (hi:l[i]? = some (oldA W)) (hs:Same W w) : Below W.heap.size W w:=by
 obtain ⟨f,h1,h3⟩:=h.part hi
 exact ⟨hs.os,hs.tape,hs.output,hs.size,fun j hj=>h3 j hj (fun h=>h)⟩
theorem now_nil (w:World) : Now [] (fun _=>False) w :=
 ⟨⟨[],rfl,(fun i a f h=>by cases h),(fun i j f f' _ h=>by cases h),fun x=>⟨fun h=>h.elim,fun ⟨i,f,h,_⟩=>by cases h⟩⟩,fun j h=>h.elim⟩
theorem now_cons {a:Asr} {l:List Asr} {Fa F:Nat→Prop} {w:World} (ha:a.p (fun _=>none) Fa w) (hl:Now l F w) (hlt:∀ j,Fa j→j < w.heap.size) (hd:∀ j,Fa j→¬ F j) : Now (a::l) (fun j=>Fa j∨F j) w:=by
 obtain ⟨⟨Fs,h1,h2,h3,h4⟩,h5⟩:=hl
 refine ⟨⟨Fa::Fs,by simp [h1],fun i b f k1 k2=>?_,fun i j f f' hij k1 k2 x hx hx'=>?_,fun x=>⟨fun h=>?_,fun ⟨i,f,k1,k2⟩=>?_⟩⟩,fun j hj=>hj.elim (hlt j) (h5 j)⟩
 ·cases i with
  | zero=>cases k1; cases k2; exact ha
  | succ i=>exact h2 i b f (by simpa using k1) (by simpa using k2)
 ·cases i with
  | zero =>
   cases j with
   | zero=>exact hij rfl
   | succ j =>
    cases k1
    exact hd x hx ((h4 x).2 ⟨j,f',by simpa using k2,hx'⟩)
  | succ i =>
   cases j with
   | zero =>
    cases k2
    exact hd x hx' ((h4 x).2 ⟨i,f,by simpa using k1,hx⟩)
   | succ j=>exact h3 i j f f' (fun e=>hij (by rw [e])) (by simpa using k1) (by simpa using k2) x hx hx'
 ·rcases h with h | h
  ·exact ⟨0,Fa,rfl,h⟩
  ·obtain ⟨i,f,k1,k2⟩:=(h4 x).1 h
   exact ⟨i+1,f,by simpa using k1,k2⟩
 ·cases i with
  | zero=>cases k1; exact .inl k2
  | succ i=>exact .inr ((h4 x).2 ⟨i,f,by simpa using k1,k2⟩)
theorem now_uncons {a:Asr} {l:List Asr} {F:Nat→Prop} {w:World} (h:Now (a::l) F w) : ∃ Fa Fl,a.p (fun _=>none) Fa w∧Now l Fl w∧(∀ j,Fa j→¬ Fl j)∧∀ j,F j↔Fa j∨Fl j:=by
 obtain ⟨⟨Fs,h1,h2,h3,h4⟩,h5⟩:=h
 match Fs,h1 with
 | Fa::Fs,h1 =>
  refine ⟨Fa,fun j=>∃ (i:Nat) (f:Nat→Prop),Fs[i]? = some f∧f j,h2 0 a Fa rfl rfl,⟨⟨Fs,by simpa using h1,fun i b f k1 k2=>h2 (i+1) b f (by simpa using k1) (by simpa using k2),fun i j f f' hij k1 k2=>h3 (i+1) (j+1) f f' (by omega) (by simpa using k1) (by simpa using k2),fun x=>Iff.rfl⟩,fun j ⟨i,f,k1,k2⟩=>h5 j ((h4 j).2 ⟨i+1,f,by simpa using k1,k2⟩)⟩,fun j hj ⟨i,f,k1,k2⟩=>h3 0 (i+1) Fa f (by omega) rfl (by simpa using k1) j hj k2,fun j=>⟨fun hj=>?_,fun hj=>?_⟩⟩
  ·obtain ⟨i,f,k1,k2⟩:=(h4 j).1 hj
   cases i with
   | zero=>cases k1; exact .inl k2
   | succ i=>exact .inr ⟨i,f,by simpa using k1,k2⟩
  ·rcases hj with hj | ⟨i,f,k1,k2⟩
   ·exact (h4 j).2 ⟨0,Fa,rfl,hj⟩
   ·exact (h4 j).2 ⟨i+1,f,by simpa using k1,k2⟩
theorem Now.of {l:List Asr} {F:Nat→Prop} {w:World} {κ:Ren} (hl:∀ a ∈ l,Flat a) (h:(star l).p κ F w) (hlt:∀ j,F j→j < w.heap.size) : Now l F w:=⟨flat_star hl _ _ F w h,hlt⟩
theorem start_size {args:Array Value} {N:Nat} (h:args.size≤N) : (args++Array.replicate (N - args.size) undef).size=N:=by
 simp
 omega
theorem start_get {args:Array Value} {N i:Nat} {v:Value} (h:args[i]? = some v) : (args++Array.replicate (N - args.size) undef).getD i undef=v:=by
 have hi:=(Array.getElem?_eq_some_iff.1 h).1
 rw [Array.getD_eq_getD_getElem?,Array.getElem?_append_left hi,h]
 rfl
end Go.Ev
namespace Go.Ev
open Go.RowKit
set_option linter.unusedVariables false
set_option linter.unusedSimpArgs false
set_option linter.unusedSectionVars false
structure Ctx where
 W:World
 X:Nat→Prop
def frz (κ:Ren) (a:Asr) : Asr where
 p:=fun _ F w=>a.p κ F w
 keep:=fun _ F w w' hk h=>a.keep κ F w w' hk h
 mono:=fun _ _ _ _ _ h=>h
def blkA (b:Nat) (cs:List Value) (T:TypeId) : Asr where
 p:=fun _ F w=>(∀ j,F j↔j=b)∧w.heap[b]? = some (.cells cs.toArray T (0,0))
 keep:=fun _ F w w' hk ⟨h1,h2⟩=>⟨h1,(hk b ((h1 b).2 rfl)).trans h2⟩
 mono:=fun _ _ _ _ _ h=>h
def atD (d:Nat) (a:Value→Asr) : Asr where
 p:=fun ι F w=>∃ c,ι d=some c∧(a (dec c)).p ι F w
 keep:=fun ι F w w' hk ⟨c,h1,h2⟩=>⟨c,h1,(a (dec c)).keep ι F w w' hk h2⟩
 mono:=fun ι κ F w hle ⟨c,h1,h2⟩=>⟨c,hle _ _ h1,(a (dec c)).mono ι κ F w hle h2⟩
def nilA:Asr where
 p:=fun _ F _=>∀ j,¬ F j
 keep:=fun _ _ _ _ _ h=>h
 mono:=fun _ _ _ _ _ h=>h
theorem now_same {l:List Asr} {F G:Nat→Prop} {w:World} (h:Now l F w) (e:∀ j,F j↔G j) : Now l G w:=by
 rw [← show F=G from funext fun j=>propext (e j)]
 exact h
theorem now_append:∀ {l m:List Asr} {F G:Nat→Prop} {w:World},Now l F w→Now m G w→(∀ j,F j→¬ G j)→Now (l++m) (fun j=>F j∨G j) w:=by
 intro l
 induction l with
 | nil =>
  intro m F G w h1 h2 hd
  refine now_same h2 (fun j=>⟨.inr,fun h=>h.elim (fun h=>?_) id⟩)
  obtain ⟨⟨Fs,e1,e2,e3,e4⟩,_⟩:=h1
  obtain ⟨i,f,k1,k2⟩:=(e4 j).1 h
  have:Fs=[]:=List.eq_nil_of_length_eq_zero e1
  rw [this] at k1
  cases k1
 | cons a l ih =>
  intro m F G w h1 h2 hd
  obtain ⟨Fa,Fl,k1,k2,k3,k4⟩:=now_uncons h1
  refine now_same (now_cons k1 (ih k2 h2 (fun j hj=>hd j ((k4 j).2 (.inr hj)))) (fun j hj=>h1.lt j ((k4 j).2 (.inl hj))) (fun j hj hh=>hh.elim (k3 j hj) (hd j ((k4 j).2 (.inl hj))))) (fun j=>?_)
  rw [k4 j]
  exact ⟨fun h=>h.elim (fun h=>.inl (.inl h)) (fun h=>h.elim (fun h=>.inl (.inr h)) .inr),fun h=>h.elim (fun h=>h.elim .inl (fun h=>.inr (.inl h))) (fun h=>.inr (.inr h))⟩
theorem now_split:∀ {l m:List Asr} {F:Nat→Prop} {w:World},Now (l++m) F w→∃ F1 F2,Now l F1 w∧Now m F2 w∧(∀ j,F1 j→¬ F2 j)∧∀ j,F j↔F1 j∨F2 j:=by
 intro l
 induction l with
 | nil=>intro m F w h; exact ⟨fun _=>False,F,now_nil w,h,fun _ h=>h.elim,fun j=>⟨.inr,fun h=>h.elim False.elim id⟩⟩
 | cons a l ih =>
  intro m F w h
  obtain ⟨Fa,Fl,k1,k2,k3,k4⟩:=now_uncons h
  obtain ⟨F1,F2,e1,e2,e3,e4⟩:=ih k2
  refine ⟨fun j=>Fa j∨F1 j,F2,now_cons k1 e1 (fun j hj=>h.lt j ((k4 j).2 (.inl hj))) (fun j hj hh=>k3 j hj ((e4 j).2 (.inl hh))),e2,fun j hj hh=>hj.elim (fun hj=>k3 j hj ((e4 j).2 (.inr hh))) (fun hj=>e3 j hj hh),fun j=>?_⟩
  rw [k4 j,e4 j]
  exact ⟨fun h=>h.elim (fun h=>.inl (.inl h)) (fun h=>h.elim (fun h=>.inl (.inr h)) .inr),fun h=>h.elim (fun h=>h.elim .inl (fun h=>.inr (.inl h))) (fun h=>.inr (.inr h))⟩
theorem now_keep {l:List Asr} {F:Nat→Prop} {w w':World} (h:Now l F w) (hk:∀ j,F j→w'.heap[j]? = w.heap[j]?) (hs:w.heap.size≤w'.heap.size) : Now l F w' :=
 ⟨(star l).keep _ F w w' hk h.st,fun j hj=>Nat.lt_of_lt_of_le (h.lt j hj) hs⟩
theorem now_map {l m:List Asr} {F:Nat→Prop} {w:World} (h:Now l F w) (hl:m.length=l.length) (hm:∀ (i:Nat) a b f,l[i]? = some a→m[i]? = some b→a.p (fun _=>none) f w→b.p (fun _=>none) f w) : Now m F w:=by
 obtain ⟨⟨Fs,q⟩,lt⟩:=h
 refine ⟨⟨Fs,by rw [q.len,hl],fun i b f h1 h2=>?_,q.apart,q.all⟩,lt⟩
 have hi:i < l.length:=by rw [← hl]; exact (List.getElem?_eq_some_iff.1 h1).1
 exact hm i l[i] b f (List.getElem?_eq_getElem hi) h1 (q.holds i _ f (List.getElem?_eq_getElem hi) h2)
theorem now_frz {l:List Asr} {κ:Ren} {F:Nat→Prop} {w:World} (h:(star l).p κ F w) (lt:∀ j,F j→j < w.heap.size) : Now (l.map (frz κ)) F w:=by
 obtain ⟨Fs,q⟩:=h
 refine ⟨⟨Fs,by rw [q.len,List.length_map],fun i b f h1 h2=>?_,q.apart,q.all⟩,lt⟩
 rw [List.getElem?_map] at h1
 cases hi:l[i]? with
 | none=>rw [hi] at h1; cases h1
 | some a =>
  rw [hi] at h1
  cases h1
  exact q.holds i a f hi h2
noncomputable def memB (i:Nat) : List Nat→Bool
 | []=>false
 | j::l=>Nat.beq i j || memB i l
theorem memB_mem {i:Nat} : ∀ {l:List Nat},memB i l=false→i ∉ l
 | [],_,h=>by cases h
 | j::l,h,hm=>by
  have h':(Nat.beq i j || memB i l)=false:=h
  rw [Bool.or_eq_false_iff] at h'
  rcases List.mem_cons.1 hm with e | hm
  ·subst e
   rw [Nat.beq_refl] at h'
   cases h'.1
  ·exact memB_mem h'.2 hm
noncomputable def selB (n:Nat) : List Nat→Bool
 | []=>true
 | i::l=>Nat.blt i n && (!(memB i l) && selB n l)
theorem selB_ok {n:Nat} : ∀ {l:List Nat},selB n l=true→(∀ i ∈ l,i < n)∧l.Nodup
 | [],_=>⟨(fun i h=>by cases h),List.nodup_nil⟩
 | i::l,h=>by
  have h':(Nat.blt i n && (!(memB i l) && selB n l))=true:=h
  simp only [Bool.and_eq_true,Bool.not_eq_true'] at h'
  obtain ⟨k1,k2⟩:=selB_ok h'.2.2
  refine ⟨fun j hj=>?_,List.nodup_cons.2 ⟨memB_mem h'.2.1,k2⟩⟩
  rcases List.mem_cons.1 hj with rfl | hj
  ·exact Nat.le_of_ble_eq_true h'.1
  ·exact k1 j hj
def sel (l:List Asr) (idx:List Nat) : List Asr:=idx.map fun i=>l.getD i nilA
theorem now_sel {l:List Asr} {F:Nat→Prop} {w:World} (h:Now l F w) (idx:List Nat) (hi:selB l.length idx=true) : ∃ F',Now (sel l idx) F' w∧∀ j,F' j→F j:=by
 obtain ⟨h1,h2⟩:=selB_ok hi
 obtain ⟨⟨Fs,q⟩,lt⟩:=h
 have key:∀ (i:Nat) f,(idx.map fun i=>Fs.getD i (fun _=>False))[i]? = some f→∃ k,idx[i]? = some k∧Fs[k]? = some f:=by
  intro i f hf
  rw [List.getElem?_map] at hf
  cases hk:idx[i]? with
  | none=>rw [hk] at hf; cases hf
  | some k =>
   rw [hk] at hf
   have hlt:k < Fs.length:=by rw [q.len]; exact h1 k (List.mem_of_getElem? hk)
   refine ⟨k,rfl,?_⟩
   rw [List.getElem?_eq_getElem hlt]
   have:Fs.getD k (fun _=>False)=f:=Option.some.inj hf
   rw [List.getD_eq_getElem?_getD,List.getElem?_eq_getElem hlt] at this
   exact congrArg some this
 refine ⟨fun x=>∃ (i:Nat) (f:Nat→Prop),(idx.map fun i=>Fs.getD i (fun _=>False))[i]? = some f∧f x,⟨⟨idx.map fun i=>Fs.getD i (fun _=>False),by simp [sel],fun i a f k1 k2=>?_,fun i j f f' hij k1 k2 x hx hx'=>?_,fun x=>Iff.rfl⟩,?_⟩,?_⟩
 ·obtain ⟨k,e1,e2⟩:=key i f k2
  unfold sel at k1
  rw [List.getElem?_map,e1] at k1
  have hlt:k < l.length:=h1 k (List.mem_of_getElem? e1)
  have:l.getD k nilA=a:=Option.some.inj k1
  rw [List.getD_eq_getElem?_getD,List.getElem?_eq_getElem hlt] at this
  exact q.holds k a f (by rw [List.getElem?_eq_getElem hlt]; exact congrArg some this) e2
 ·obtain ⟨k,e1,e2⟩:=key i f k1
  obtain ⟨k',e1',e2'⟩:=key j f' k2
  refine q.apart k k' f f' (fun e=>hij ?_) e2 e2' x hx hx'
  subst e
  exact (List.getElem?_inj (List.getElem?_eq_some_iff.1 e1).1 h2).1 (e1.trans e1'.symm)
 ·rintro j ⟨i,f,k1,k2⟩
  obtain ⟨k,e1,e2⟩:=key i f k1
  exact lt j ((q.all j).2 ⟨k,f,e2,k2⟩)
 ·rintro j ⟨i,f,k1,k2⟩
  obtain ⟨k,e1,e2⟩:=key i f k1
  exact (q.all j).2 ⟨k,f,e2,k2⟩
structure Hold (c:Ctx) (l:List Asr) (w:World) : Prop where
 ex:∃ F,Now l F w∧Turn c.X c.W w∧∀ j,F j→c.X j∨c.W.heap.size≤j
theorem Hold.start {l:List Asr} {F:Nat→Prop} {w:World} (h:Now l F w) : Hold ⟨w,F⟩ l w:=⟨⟨F,h,⟨rfl,rfl,rfl,Nat.le_refl _,fun _ _ _=>rfl⟩,fun _ h=>.inl h⟩⟩
theorem Hold.sel {c:Ctx} {l:List Asr} {w:World} (h:Hold c l w) (idx:List Nat) (hi:selB l.length idx=true) : Hold c (Ev.sel l idx) w:=by
 obtain ⟨F,h1,h2,h3⟩:=h.ex
 obtain ⟨F',k1,k2⟩:=now_sel h1 idx hi
 exact ⟨⟨F',k1,h2,fun j hj=>h3 j (k2 j hj)⟩⟩
theorem Hold.old {c:Ctx} {l:List Asr} {w:World} (h:Hold c l w) : OldW c.W c.X w:=by
 obtain ⟨F,h1,h2,h3⟩:=h.ex
 exact fun j hj hx=>h2.block j hj hx
theorem Hold.same {c:Ctx} {l:List Asr} {w:World} (h:Hold c l w) : Same c.W w:=by
 obtain ⟨F,h1,h2,h3⟩:=h.ex
 exact h2.same
theorem Hold.head {c:Ctx} {a b:Asr} {l:List Asr} {w:World} (h:Hold c (a::l) w) (hab:∀ f,a.p (fun _=>none) f w→b.p (fun _=>none) f w) : Hold c (b::l) w:=by
 obtain ⟨F,h1,h2,h3⟩:=h.ex
 obtain ⟨Fa,Fl,k1,k2,k3,k4⟩:=now_uncons h1
 exact ⟨⟨F,now_same (now_cons (hab Fa k1) k2 (fun j hj=>h1.lt j ((k4 j).2 (.inl hj))) k3) (fun j=>(k4 j).symm),h2,h3⟩⟩
theorem Hold.headE {c:Ctx} {a:Asr} {l:List Asr} {w:World} {β:Type} {b:β→Asr} {p:β→Prop} (h:Hold c (a::l) w) (hab:∀ f,a.p (fun _=>none) f w→∃ x,p x∧(b x).p (fun _=>none) f w) : ∃ x,p x∧Hold c (b x::l) w:=by
 obtain ⟨F,h1,h2,h3⟩:=h.ex
 obtain ⟨Fa,Fl,k1,k2,k3,k4⟩:=now_uncons h1
 obtain ⟨x,hx,k1'⟩:=hab Fa k1
 exact ⟨x,hx,⟨⟨F,now_same (now_cons k1' k2 (fun j hj=>h1.lt j ((k4 j).2 (.inl hj))) k3) (fun j=>(k4 j).symm),h2,h3⟩⟩⟩
theorem Hold.first {c:Ctx} {a:Asr} {l:List Asr} {w:World} (h:Hold c (a::l) w) : ∃ f,a.p (fun _=>none) f w:=by
 obtain ⟨F,h1,h2,h3⟩:=h.ex
 obtain ⟨Fa,Fl,k1,k2,k3,k4⟩:=now_uncons h1
 exact ⟨Fa,k1⟩
theorem Hold.into {c:Ctx} {l m:List Asr} {F:Nat→Prop} {w w':World} (h:Hold ⟨w,F⟩ m w') (hc:Turn c.X c.W w) (hF:∀ j,F j→c.X j∨c.W.heap.size≤j) : Hold c m w':=by
 obtain ⟨G,h1,h2,h3⟩:=h.ex
 refine ⟨⟨G,h1,⟨h2.os.trans hc.os,h2.tape.trans hc.tape,h2.output.trans hc.output,Nat.le_trans hc.size h2.size,fun j hj hn=>?_⟩,fun j hj=>?_⟩⟩
 ·refine (h2.block j (Nat.lt_of_lt_of_le hj hc.size) (fun hf=>?_)).trans (hc.block j hj hn)
  rcases hF j hf with h | h
  ·exact hn h
  ·omega
 ·rcases h3 j hj with h | h
  ·exact hF j h
  ·exact .inr (Nat.le_trans hc.size h)
theorem Hold.below {c:Ctx} {l:List Asr} {w:World} (h:Hold c l w) (hX:∀ j,¬ c.X j) : Below c.W.heap.size c.W w:=by
 obtain ⟨F,h1,h2,h3⟩:=h.ex
 exact ⟨h2.os,h2.tape,h2.output,h2.size,fun j hj=>h2.block j hj (hX j)⟩
def concB [Sig] (κ:Ren) : Value→Value
 | .map (some id)=>.map (some ((κ id).getD 0))
 | .slice (some ⟨id,off,none⟩) n c=>.slice (some ⟨(κ id).getD 0,off,none⟩) n c
 | v=>conc κ v
def concF [Sig] : Nat→Ren→Value→Value
 | 0,κ,v=>concB κ v
 | n+1,κ,v=>match v with
  | .agg f=>.agg (f.toList.map (concF n κ)).toArray
  | .tuple f=>.tuple (f.toList.map (concF n κ)).toArray
  | .iface t v=>.iface t (concF n κ v)
  | .func fn f c=>.func fn (f.toList.map (concF n κ)).toArray (c.toList.map (concF n κ)).toArray
  | v=>concB κ v
def isYield:Fn→Bool
 | .yield _=>true
 | _=>false
def knB:Value→Bool
 | .map (some _)=>true
 | .slice (some ⟨id,_,none⟩) _ _=>!(gro id)
 | v=>knV v
def knF:Nat→Value→Bool
 | 0,v=>knB v
 | n+1,v=>match v with
  | .agg f=>f.toList.all (knF n)
  | .tuple f=>f.toList.all (knF n)
  | .iface _ v=>knF n v
  | .func fn f c=>!(isYield fn) && (f.toList.all (knF n) && c.toList.all (knF n))
  | v=>knB v
def knJ (rn:List (Nat×Nat)) : Value→Bool
 | .map (some id)=>(renOf rn id).isSome
 | .pointer (some ⟨id,_,none⟩)=>(renOf rn id).isSome
 | .pointer none | .slice none 0 0 | .map none | .nilFunc | .nilIface=>true
 | v=>symV v
def knI (rn:List (Nat×Nat)) : Nat→Value→Bool
 | 0,v=>knJ rn v
 | n+1,v=>match v with
  | .agg f=>f.toList.all (knI rn n)
  | .tuple f=>f.toList.all (knI rn n)
  | .iface _ v=>knI rn n v
  | .func fn f c=>!(isYield fn) && (f.toList.all (knI rn n) && c.toList.all (knI rn n))
  | v=>knJ rn v
theorem concB_eq {κ:Ren} [Sig] {v v':Value} (h:VRel κ v v') (hk:knB v=true) : v'=concB κ v:=by
 cases h with
 | map id b h=>simp [concB,h]
 | slice id off b n c c' h h0 h1 h2 h3 =>
  have hg:gro id=false:=by simpa [knB] using hk
  rw [← h0 hg]
  simp [concB,h]
 | sliceE id off b h h0=>simp [concB,h]
 | ptr id off b h=>exact conc_eq (.ptr id off b h) hk
 | ptr0=>rfl
 | slice0=>rfl
 | map0=>rfl
 | nilFunc=>rfl
 | nilIface=>rfl
 | sym n m _ h=>exact conc_eq (κ:=κ) (.sym n m _ h) hk
 | dyn id c _ h h'=>exact conc_eq (.dyn id c _ h h') hk
 | dyn3 id c j _ h h'=>exact conc_eq (.dyn3 id c j _ h h') hk
 | bool=>rfl
 | int=>rfl
 | float=>rfl
 | string=>rfl
 | _=>first | cases hk | (simp [knB,knV,symV] at hk)
theorem arr_of {κ:Ren} [Sig] {n:Nat} {f f':Array Value} (hf:f.size=f'.size) (h:∀ (i:Nat) (v v':Value),f[i]? = some v→f'[i]? = some v'→VRel κ v v') (hk:f.toList.all (knF n)=true) (ih:∀ v v',VRel κ v v'→knF n v=true→v'=concF n κ v) : f'=(f.toList.map (concF n κ)).toArray:=by
 rw [List.all_eq_true] at hk
 apply Array.ext (by simp [hf])
 intro i h1 h2
 have h3:i < f.size:=by rw [hf]; exact h1
 rw [ih f[i] f'[i] (h i _ _ (Array.getElem?_eq_getElem h3) (Array.getElem?_eq_getElem h1)) (hk _ (by simp))]
 simp
theorem concF_eq {κ:Ren} [Sig] : ∀ (n:Nat) {v v':Value},VRel κ v v'→knF n v=true→v'=concF n κ v:=by
 intro n
 induction n with
 | zero=>exact fun h hk=>concB_eq h hk
 | succ n ih =>
  intro v v' h hk
  cases v with
  | agg f=>cases h with | agg _ f' hf h=>exact congrArg Value.agg (arr_of hf h hk (fun v v'=>ih))
  | tuple f=>cases h with | tuple _ f' hf h=>exact congrArg Value.tuple (arr_of hf h hk (fun v v'=>ih))
  | iface t v=>cases h with | iface _ _ v' h=>exact congrArg (Value.iface t) (ih h hk)
  | func fn f c =>
   have hk':(!(isYield fn) && (f.toList.all (knF n) && c.toList.all (knF n)))=true:=hk
   simp only [Bool.and_eq_true] at hk'
   cases h with
   | func _ _ f' _ c' hy hf hc h h' =>
    rw [arr_of hf h hk'.2.1 (fun v v'=>ih),arr_of hc h' hk'.2.2 (fun v v'=>ih)]
    rfl
   | yield=>exact absurd hk'.1 (by simp [isYield])
  | _=>exact concB_eq h hk
theorem ren_get {rn:List (Nat×Nat)} {id:Nat} (h:(renOf rn id).isSome=true) : renOf rn id=some ((renOf rn id).getD 0):=by
 cases hr:renOf rn id with
 | none=>rw [hr] at h; cases h
 | some b=>rfl
theorem concJ {rn:List (Nat×Nat)} [Sig] {v:Value} (hk:knJ rn v=true) : VRel (renOf rn) v (concB (renOf rn) v):=by
 unfold knJ at hk
 split at hk
 ·exact .map _ _ (ren_get hk)
 ·exact .ptr _ _ _ (ren_get hk)
 ·exact .ptr0
 ·exact .slice0
 ·exact .map0
 ·exact .nilFunc
 ·exact .nilIface
 ·unfold symV at hk
  split at hk <;> first | exact .bool _ | exact .int _ _ | exact .float _ _ | exact .string _ | exact .sym _ _ _ rfl | contradiction | cases hk
theorem arr_to {rn:List (Nat×Nat)} [Sig] {n:Nat} {f:Array Value} (hk:f.toList.all (knI rn n)=true) (ih:∀ v,knI rn n v=true→VRel (renOf rn) v (concF n (renOf rn) v)) : f.size=(f.toList.map (concF n (renOf rn))).toArray.size∧∀ (i:Nat) (v v':Value),f[i]? = some v→(f.toList.map (concF n (renOf rn))).toArray[i]? = some v'→VRel (renOf rn) v v':=by
 rw [List.all_eq_true] at hk
 refine ⟨by simp,fun i v v' h1 h2=>?_⟩
 simp [h1] at h2
 subst h2
 exact ih v (hk v (by obtain ⟨h3,rfl⟩:=Array.getElem?_eq_some_iff.1 h1; simp))
theorem concF_to {rn:List (Nat×Nat)} [Sig] : ∀ (n:Nat) (v:Value),knI rn n v=true→VRel (renOf rn) v (concF n (renOf rn) v):=by
 intro n
 induction n with
 | zero=>exact fun v hk=>concJ hk
 | succ n ih =>
  intro v hk
  cases v with
  | agg f=>obtain ⟨h1,h2⟩:=arr_to hk ih; exact .agg _ _ h1 h2
  | tuple f=>obtain ⟨h1,h2⟩:=arr_to hk ih; exact .tuple _ _ h1 h2
  | iface t v=>exact .iface _ _ _ (ih _ hk)
  | func fn f c =>
   have hk':(!(isYield fn) && (f.toList.all (knI rn n) && c.toList.all (knI rn n)))=true:=hk
   simp only [Bool.and_eq_true] at hk'
   obtain ⟨h1,h2⟩:=arr_to hk'.2.1 ih
   obtain ⟨h3,h4⟩:=arr_to hk'.2.2 ih
   exact .func fn _ _ _ _ (fun l e=>by rw [e] at hk'; simp [isYield] at hk') h1 h3 h2 h4
  | _=>exact concJ hk
end Go.Ev
namespace Go.Ev
open Go.RowKit
set_option linter.unusedVariables false
set_option linter.unusedSimpArgs false
set_option linter.unusedSectionVars false
def Tm (l:List (Nat×Value)) (A:Act) : Prop:=∀ p ∈ l,A.tmps.getD p.1 undef=p.2
structure At (c:Ctx) (N:Nat) (tm:List (Nat×Value)) (l:List Asr) (A:Act) (w:World) : Prop where
 sz:A.tmps.size=N
 df:A.defers=[]
 tm:Tm tm A
 hold:Hold c l w
def Pie (P:Program) (f:FuncId) (p:List Nat) (i k N:Nat) (c:Ctx) (tm:List (Nat×Value)) (l:List Asr) (ex:Exit) {α:Type} (tm':α→List (Nat×Value)) (l':α→List Asr) : Prop :=
 ∀ (A:Act) (w:World) (Q:Exit→Act→World→Prop),At c N tm l A w→(∀ x A1 w1,At c N (tm' x) (l' x) A1 w1→Exit.then (wpL P (stm P f p (i+k)) Q) Q ex A1 w1)→wpL P (stm P f p i) Q A w
def PieE (P:Program) (f:FuncId) (p:List Nat) (i N:Nat) (c:Ctx) (tm:List (Nat×Value)) (l:List Asr) {α:Type} (r:α→Value) (l':α→List Asr) : Prop :=
 ∀ (A:Act) (w:World) (R:Ending→World→Prop),At c N tm l A w→(∀ x w1,Hold c (l' x) w1→R (.returned (r x)) w1)→wpL P (stm P f p i) (bodyPostM Fence.wide 0 P (fnOf P f) R) A w
def blkOf [Sig] (κ:Ren) (q:Blk) : Asr:=blkA ((κ q.1).getD 0) (q.2.1.map (concF 3 κ)) q.2.2
def cvp [Sig] (κ:Ren) (p:Nat×Value) : Nat×Value:=(p.1,concF 3 κ p.2)
noncomputable def nodB:List Nat→Bool
 | []=>true
 | i::l=>!(memB i l) && nodB l
theorem nodB_ok:∀ {l:List Nat},nodB l=true→l.Nodup
 | [],_=>List.nodup_nil
 | i::l,h=>by
  have h':(!(memB i l) && nodB l)=true:=h
  simp only [Bool.and_eq_true,Bool.not_eq_true'] at h'
  exact List.nodup_cons.2 ⟨memB_mem h'.1,nodB_ok h'.2⟩
noncomputable def knowB (rn:List (Nat×Nat)) (live0:List (Nat×Value)) (bl:List Blk) (live1:List (Nat×Value)) (bl1:List Blk) : Bool :=
 eqL (rn.map Prod.fst) (bl.map Prod.fst) && (nodB (rn.map Prod.fst) && (nodB (bl1.map Prod.fst) && (live0.all (fun p=>knI rn 3 p.2) && (bl.all (fun q=>q.2.1.all (knI rn 3)) && (live1.all (fun p=>knF 3 p.2) && bl1.all (fun q=>q.2.1.all (knF 3)))))))
theorem ren_mem:∀ {rn:List (Nat×Nat)},(rn.map Prod.fst).Nodup→∀ {p:Nat×Nat},p ∈ rn→renOf rn p.1=some p.2
 | [],_,p,h=>by cases h
 | q::rn,hn,p,h=>by
  rw [List.map_cons,List.nodup_cons] at hn
  unfold renOf
  rw [List.find?_cons]
  rcases List.mem_cons.1 h with e | h
  ·subst e
   simp
  ·have hne:(q.1 == p.1)=false:=by
    have:q.1 ≠ p.1:=fun e=>hn.1 (by rw [e]; exact List.mem_map_of_mem h)
    simpa using this
   rw [hne]
   exact ren_mem hn.2 h
theorem blks_of {rn:List (Nat×Nat)} [Sig] {bl:List Blk} {gl:List Asr} {F:Nat→Prop} {w:World} (hids:rn.map Prod.fst=bl.map Prod.fst) (hn:(rn.map Prod.fst).Nodup) (hk:∀ q ∈ bl,∀ v ∈ q.2.1,knI rn 3 v=true) (h:Now (bl.map (blkOf (renOf rn))++gl) F w) :
  ∃ F',Blks rn bl F' w∧Now gl F' w∧∀ j,F j↔(∃ p ∈ rn,p.2=j)∨F' j:=by
 obtain ⟨F1,F2,h1,h2,h3,h4⟩:=now_split h
 obtain ⟨⟨Fs,q⟩,lt⟩:=h1
 have hmem:∀ x ∈ bl,∃ b,(x.1,b) ∈ rn∧renOf rn x.1=some b:=fun x hx=>by
  have:x.1 ∈ rn.map Prod.fst:=by rw [hids]; exact List.mem_map_of_mem hx
  obtain ⟨p,hp,e⟩:=List.mem_map.1 this
  exact ⟨p.2,by rw [← e]; exact hp,by rw [← e]; exact ren_mem hn hp⟩
 have hback:∀ p ∈ rn,∃ x ∈ bl,x.1=p.1:=fun p hp=>by
  have:p.1 ∈ bl.map Prod.fst:=by rw [← hids]; exact List.mem_map_of_mem hp
  obtain ⟨x,hx,e⟩:=List.mem_map.1 this
  exact ⟨x,hx,e⟩
 have part:∀ (i:Nat) x,bl[i]? = some x→∃ f,Fs[i]? = some f∧(∀ j,f j↔j=(renOf rn x.1).getD 0)∧w.heap[(renOf rn x.1).getD 0]? = some (.cells (x.2.1.map (concF 3 (renOf rn))).toArray x.2.2 (0,0)):=by
  intro i x hx
  have hl:(bl.map (blkOf (renOf rn)))[i]? = some (blkOf (renOf rn) x):=by rw [List.getElem?_map,hx]; rfl
  have hlt:i < Fs.length:=by rw [q.len]; exact (List.getElem?_eq_some_iff.1 hl).1
  have:=q.holds i _ _ hl (List.getElem?_eq_getElem hlt)
  exact ⟨_,List.getElem?_eq_getElem hlt,this.1,this.2⟩
 have hF1:∀ j,F1 j↔∃ p ∈ rn,p.2=j:=by
  intro j
  rw [q.all]
  constructor
  ·rintro ⟨i,f,k1,k2⟩
   have hlt:i < bl.length:=by have:=(List.getElem?_eq_some_iff.1 k1).1; rw [q.len] at this; simpa using this
   obtain ⟨f',e1,e2,e3⟩:=part i bl[i] (List.getElem?_eq_getElem hlt)
   rw [k1] at e1
   cases e1
   obtain ⟨b,m1,m2⟩:=hmem bl[i] (by simp)
   rw [m2] at e2
   exact ⟨_,m1,((e2 j).1 k2).symm⟩
  ·rintro ⟨p,hp,e⟩
   obtain ⟨x,hx,ex⟩:=hback p hp
   obtain ⟨i,hi,ei⟩:=List.getElem_of_mem hx
   obtain ⟨f',e1,e2,e3⟩:=part i x (by rw [List.getElem?_eq_getElem hi,ei])
   refine ⟨i,f',e1,(e2 j).2 ?_⟩
   rw [ex,ren_mem hn hp]
   exact e.symm
 refine ⟨F2,⟨fun x hx=>?_,fun p hp p' hp' e=>?_,fun p hp hf=>h3 p.2 ((hF1 _).2 ⟨p,hp,rfl⟩) hf⟩,h2,fun j=>by rw [h4 j,hF1 j]⟩
 ·obtain ⟨i,hi,ei⟩:=List.getElem_of_mem hx
  obtain ⟨f',e1,e2,e3⟩:=part i x (by rw [List.getElem?_eq_getElem hi,ei])
  obtain ⟨b,m1,m2⟩:=hmem x hx
  rw [m2] at e3
  refine ⟨b,x.2.1.map (concF 3 (renOf rn)),m2,e3,by simp,fun i v v' a1 a2=>?_⟩
  rw [List.getElem?_map,a1] at a2
  cases a2
  exact concF_to 3 v (hk x hx v (List.mem_of_getElem? a1))
 ·obtain ⟨x,hx,ex⟩:=hback p hp
  obtain ⟨x',hx',ex'⟩:=hback p' hp'
  obtain ⟨i,hi,ei⟩:=List.getElem_of_mem hx
  obtain ⟨i',hi',ei'⟩:=List.getElem_of_mem hx'
  obtain ⟨f,a1,a2,_⟩:=part i x (by rw [List.getElem?_eq_getElem hi,ei])
  obtain ⟨f',b1,b2,_⟩:=part i' x' (by rw [List.getElem?_eq_getElem hi',ei'])
  rw [ex,ren_mem hn hp] at a2
  rw [ex',ren_mem hn hp'] at b2
  by_cases hii:i=i'
  ·subst hii
   rw [← ex,← ex',← ei,← ei']
  ·exact (q.apart i i' f f' hii a1 b1 p.2 ((a2 _).2 rfl) ((b2 _).2 e)).elim
theorem now_blks [Sig] {κ:Ren} {w:World} : ∀ (bl:List Blk),(bl.map Prod.fst).Nodup→(∀ q ∈ bl,∀ v ∈ q.2.1,knF 3 v=true)→(∀ q ∈ bl,∃ b c',κ q.1=some b∧w.heap[b]? = some (.cells c' q.2.2 (0,0))∧ARel κ q.2.1.toArray c')→(∀ q ∈ bl,∀ q' ∈ bl,κ q.1=κ q'.1→q.1=q'.1) →
  Now (bl.map (blkOf κ)) (fun j=>∃ q ∈ bl,κ q.1=some j) w
 | [],_,_,_,_=>now_same (now_nil w) (fun j=>⟨fun h=>h.elim,fun ⟨q,h,_⟩=>by cases h⟩)
 | q::bl,hn,hk,hc,hi=>by
  rw [List.map_cons,List.nodup_cons] at hn
  obtain ⟨b,c',e1,e2,e3⟩:=hc q (List.mem_cons_self ..)
  have ih:=now_blks bl hn.2 (fun x hx=>hk x (List.mem_cons_of_mem _ hx)) (fun x hx=>hc x (List.mem_cons_of_mem _ hx)) (fun x hx y hy=>hi x (List.mem_cons_of_mem _ hx) y (List.mem_cons_of_mem _ hy))
  have ec:c'=(q.2.1.map (concF 3 κ)).toArray:=by
   have:=arr_of (f:=q.2.1.toArray) (f':=c') (n:=3) e3.1 e3.2 (by rw [List.all_eq_true]; exact fun v hv=>hk q (List.mem_cons_self ..) v (by simpa using hv)) (fun v v'=>concF_eq 3)
   simpa using this
  subst ec
  have eb:(κ q.1).getD 0=b:=by rw [e1]; rfl
  refine now_same (now_cons (a:=blkOf κ q) (Fa:=fun j=>j=b) ⟨fun j=>by rw [eb],by rw [eb]; exact e2⟩ ih (fun j hj=>by rw [hj]; exact (Array.getElem?_eq_some_iff.1 e2).1) (fun j hj ⟨x,hx,ex⟩=>?_)) (fun j=>?_)
  ·rw [hj] at ex
   exact hn.1 (by rw [hi q (List.mem_cons_self ..) x (List.mem_cons_of_mem _ hx) (e1.trans ex.symm)]; exact List.mem_map_of_mem hx)
  ·constructor
   ·rintro (h | ⟨x,hx,ex⟩)
    ·exact ⟨q,List.mem_cons_self ..,by rw [h]; exact e1⟩
    ·exact ⟨x,List.mem_cons_of_mem _ hx,ex⟩
   ·rintro ⟨x,hx,ex⟩
    rcases List.mem_cons.1 hx with e | hx
    ·subst e
     rw [e1] at ex
     exact .inl (Option.some.inj ex).symm
    ·exact .inr ⟨x,hx,ex⟩
noncomputable def tmL (gb:Nat→Value) : Nat→Nat→List (Nat×Value)→List Value
 | 0,_,_=>[]
 | n+1,i,[]=>gb i::tmL gb n (i+1) []
 | n+1,i,p::l=>@Bool.rec (fun _=>List Value) (gb i::tmL gb n (i+1) (p::l)) (p.2::tmL gb n (i+1) l) (Nat.beq p.1 i)
theorem tmL_get (gb:Nat→Value) : ∀ (n i:Nat) (l:List (Nat×Value)),(tmL gb n i l).length=n∧∀ (j:Nat) v,(tmL gb n i l)[j]? = some v→v=gb (i+j)∨(i+j,v) ∈ l
 | 0,i,l=>⟨rfl,fun j v h=>by cases h⟩
 | n+1,i,[]=>by
  obtain ⟨h1,h2⟩:=tmL_get gb n (i+1) []
  refine ⟨by show (gb i::tmL gb n (i+1) []).length=_; rw [List.length_cons,h1],fun j v h=>?_⟩
  match j with
  | 0=>cases h; exact .inl rfl
  | j+1 =>
   have:=h2 j v h
   rw [show i+1+j=i+(j+1) by omega] at this
   exact this
 | n+1,i,p::l=>by
  show (@Bool.rec (fun _=>List Value) (gb i::tmL gb n (i+1) (p::l)) (p.2::tmL gb n (i+1) l) (Nat.beq p.1 i)).length=_∧∀ (j:Nat) v,(@Bool.rec (fun _=>List Value) (gb i::tmL gb n (i+1) (p::l)) (p.2::tmL gb n (i+1) l) (Nat.beq p.1 i))[j]? = some v→_
  cases hb:Nat.beq p.1 i with
  | true =>
   have e:=Nat.eq_of_beq_eq_true hb
   obtain ⟨h1,h2⟩:=tmL_get gb n (i+1) l
   refine ⟨by show (p.2::tmL gb n (i+1) l).length=_; rw [List.length_cons,h1],fun j v h=>?_⟩
   match j with
   | 0=>cases h; exact .inr (by rw [Nat.add_zero,← e]; exact List.mem_cons_self ..)
   | j+1 =>
    have:=h2 j v h
    rw [show i+1+j=i+(j+1) by omega] at this
    exact this.imp id (List.mem_cons_of_mem _)
  | false =>
   obtain ⟨h1,h2⟩:=tmL_get gb n (i+1) (p::l)
   refine ⟨by show (gb i::tmL gb n (i+1) (p::l)).length=_; rw [List.length_cons,h1],fun j v h=>?_⟩
   match j with
   | 0=>cases h; exact .inl rfl
   | j+1 =>
    have:=h2 j v h
    rw [show i+1+j=i+(j+1) by omega] at this
    exact this
theorem tmL_rel [Sig] {A:Act} {N:Nat} (hN:A.tmps.size=N) {ι:Ren} (live:List (Nat×Value)) (hl:∀ p ∈ live,VRel ι p.2 (A.tmps.getD p.1 undef)) : ∃ gb:Nat→Value,LRel ι (tmL gb N 0 live) A.tmps.toList:=by
 have h:∀ i,∃ v:Value,∀ ι:Ren,VRel ι v (A.tmps.getD i undef):=fun i=>garb_ex _
 obtain ⟨k1,k2⟩:=tmL_get (fun i=>Classical.choose (h i)) N 0 live
 refine ⟨fun i=>Classical.choose (h i),by rw [k1]; simp [hN],fun i v v' h1 h2=>?_⟩
 have e:v'=A.tmps.getD i undef:=by
  rw [Array.getElem?_toList] at h2
  rw [Array.getD_eq_getD_getElem?,h2]
  rfl
 rcases k2 i v h1 with hv | hv
 ·rw [hv,e,Nat.zero_add]
  exact Classical.choose_spec (h i) ι
 ·rw [e]
  have:=hl _ hv
  rw [Nat.zero_add] at this
  exact this
theorem known_ok {rn:List (Nat×Nat)} {live0 live1:List (Nat×Value)} {bl bl1:List Blk} (h:knowB rn live0 bl live1 bl1=true) :
  rn.map Prod.fst=bl.map Prod.fst∧(rn.map Prod.fst).Nodup∧(bl1.map Prod.fst).Nodup∧(∀ p ∈ live0,knI rn 3 p.2=true)∧(∀ q ∈ bl,∀ v ∈ q.2.1,knI rn 3 v=true)∧(∀ p ∈ live1,knF 3 p.2=true)∧∀ q ∈ bl1,∀ v ∈ q.2.1,knF 3 v=true:=by
 unfold knowB at h
 simp only [Bool.and_eq_true,List.all_eq_true] at h
 obtain ⟨h1,h2,h3,h4,h5,h6,h7⟩:=h
 exact ⟨eqL_eq h1,nodB_ok h2,nodB_ok h3,h4,h5,h6,h7⟩
theorem tri_pre (k:Kn) {c:Ctx} {N g:Nat} {rn:List (Nat×Nat)} {bl:List Blk} {gl:List Asr} {live0:List (Nat×Value)} (hg:k.gs[g]? = some (star (oldX c.W c.X::gl))) (hids:rn.map Prod.fst=bl.map Prod.fst) (hn:(rn.map Prod.fst).Nodup) (hk0:∀ p ∈ live0,knI rn 3 p.2=true) (hkb:∀ q ∈ bl,∀ v ∈ q.2.1,knI rn 3 v=true)
  {A:Act} {w:World} (h:letI:Sig:=k.sig; At c N (live0.map (cvp (renOf rn))) (bl.map (blkOf (renOf rn))++gl) A w) : letI:Sig:=k.sig; ∃ F,Blks rn bl F w∧Sig.GR g (renOf rn) F w∧(∀ j,F j→j < w.heap.size)∧∃ gb:Nat→Value,LRel (renOf rn) (tmL gb N 0 live0) A.tmps.toList:=by
 letI:Sig:=k.sig
 obtain ⟨sz,df,tm,hh⟩:=h
 obtain ⟨F,h1,h2,h3⟩:=hh.ex
 obtain ⟨F',b1,b2,b3⟩:=blks_of hids hn hkb h1
 have ho:Now (oldX c.W c.X::gl) (fun j=>(j < c.W.heap.size∧¬ c.X j)∨F' j) w:=now_cons ⟨fun j=>Iff.rfl,fun j hj hx=>h2.block j hj hx⟩ b2 (fun j hj=>Nat.lt_of_lt_of_le hj.1 h2.size) (fun j hj hf=>by
  rcases h3 j ((b3 j).2 (.inr hf)) with h | h
  ·exact hj.2 h
  ·omega)
 refine ⟨_,⟨b1.there,b1.inj,fun p hp hf=>?_⟩,⟨_,hg,(star _).mono (fun _=>none) _ _ w (fun _ _ e=>by cases e) ho.st⟩,ho.lt,tmL_rel sz live0 (fun p hp=>?_)⟩
 ·rcases hf with hf | hf
  ·rcases h3 p.2 ((b3 _).2 (.inl ⟨p,hp,rfl⟩)) with h | h
   ·exact hf.2 h
   ·omega
  ·exact b1.out p hp hf
 ·have e:=tm (cvp (renOf rn) p) (List.mem_map_of_mem hp)
  show VRel _ p.2 (A.tmps.getD (cvp (renOf rn) p).1 undef)
  rw [e]
  exact concF_to 3 p.2 (hk0 p hp)
theorem tri_post (k:Kn) {c:Ctx} {g':Nat} {rn:List (Nat×Nat)} {bl1:List Blk} {gl':List Asr} (hg':k.gs[g']? = some (star (oldX c.W c.X::gl'))) (hn1:(bl1.map Prod.fst).Nodup) (hkb:∀ q ∈ bl1,∀ v ∈ q.2.1,knF 3 v=true) {F:Nat→Prop} {w w1:World} {κ:Ren} (hc:Same c.W w) (L:letI:Sig:=k.sig; Left rn bl1 g' F w κ w1) :
  letI:Sig:=k.sig; Hold c (bl1.map (blkOf κ)++gl'.map (frz κ)) w1:=by
 letI:Sig:=k.sig
 obtain ⟨F',⟨a,q1,q2⟩,q3,q4⟩:=L.gh
 rw [hg'] at q1
 cases q1
 obtain ⟨Fo,Fg,⟨o1,o2⟩,n1,n2,n3⟩:=now_uncons (now_frz q2 (fun j hj=>(q3 j hj).1))
 have nb:=now_blks bl1 hn1 hkb L.cls L.inj
 have hnot:∀ j,¬ Fo j→c.X j∨c.W.heap.size≤j:=fun j hj=>by
  rcases Nat.lt_or_ge j c.W.heap.size with h | h
  ·exact .inl (Classical.byContradiction fun hx=>hj ((o1 j).2 ⟨h,hx⟩))
  ·exact .inr h
 have hs:=hc.trans L.turn.same
 refine ⟨⟨_,now_append nb n1 (fun j ⟨q,hq,e⟩ hf=>q4 q hq j e ((n3 j).2 (.inr hf))),⟨hs.os,hs.tape,hs.output,hs.size,fun j hj hx=>o2 j hj hx⟩,fun j hj=>hnot j (fun hf=>?_)⟩⟩
 rcases hj with ⟨q,hq,e⟩ | hj
 ·exact q4 q hq j e ((n3 j).2 (.inl hf))
 ·exact n2 j hf hj
def ovr (rn:List (Nat×Nat)) (κ:Ren) : Ren:=fun id=>match renOf rn id with | some b=>some b | none=>κ id
theorem ovr_eq {rn:List (Nat×Nat)} {κ:Ren} (h:∀ id b,renOf rn id=some b→κ id=some b) : ovr rn κ=κ:=by
 funext id
 unfold ovr
 cases hr:renOf rn id with
 | none=>rfl
 | some b=>exact (h id b hr).symm
theorem tri {P:Program} (hP:P.check=.ok ()) (hm:P.follows .mixedOrders=true) (k:Kn) (hcal:@CalOK k.sig P) {n m N i kk:Nat} {f:FuncId} {p:List Nat} {c:Ctx} (rn:List (Nat×Nat)) (bl bl1:List Blk) (g g':Nat) (gl gl':List Asr) (hg:k.gs[g]? = some (star (oldX c.W c.X::gl))) (hg':k.gs[g']? = some (star (oldX c.W c.X::gl'))) (live0 live1:List (Nat×Value)) (ex:Exit) (hk:knowB rn live0 bl live1 bl1=true)
  (run:∀ gb:Nat→Value,letI:Sig:=k.sig; withB P (fun B=>segB B f p (fun _ c=>Nat.beq (tmL gb N 0 live0).length N && (Nat.ble N 4094 && (idsB m rn bl && segIs ex live1 bl1 g' (fromK (tmL gb N 0 live0) 0 .leaf (fun t=>pieceF B n N kk ((flat c).drop i) t (stOf (objsOf bl g) m)))))))=true) :
  letI:Sig:=k.sig; Pie P f p i kk N c (live0.map (cvp (renOf rn))) (bl.map (blkOf (renOf rn))++gl) ex (fun κ:Ren=>live1.map (cvp (ovr rn κ))) (fun κ:Ren=>bl1.map (blkOf (ovr rn κ))++gl'.map (frz (ovr rn κ))):=by
 letI:Sig:=k.sig
 intro A w Q hA hQ
 obtain ⟨k1,k2,k3,k4,k5,k6,k7⟩:=known_ok hk
 obtain ⟨F,b1,b2,b3,gb,b4⟩:=tri_pre k hg k1 k2 k4 k5 hA
 refine seg_run hP hcal hm (run gb) b1 b2 b3 b4 hA.df (fun κ A1 w1 sz df lv L=>hQ κ A1 w1 (by
  show At c N (live1.map (cvp (ovr rn κ))) (bl1.map (blkOf (ovr rn κ))++gl'.map (frz (ovr rn κ))) A1 w1
  rw [ovr_eq L.old]
  exact ⟨sz,df,fun q hq=>by
   obtain ⟨p0,hp0,rfl⟩:=List.mem_map.1 hq
   exact concF_eq 3 (lv p0 hp0) (k6 p0 hp0),tri_post k hg' k3 k7 hA.hold.same L⟩))
theorem triE {P:Program} (hP:P.check=.ok ()) (hm:P.follows .mixedOrders=true) (k:Kn) (hcal:@CalOK k.sig P) {n m N i kk:Nat} {f:FuncId} {p:List Nat} {c:Ctx} (rn:List (Nat×Nat)) (bl bl1:List Blk) (g g':Nat) (gl gl':List Asr) (hg:k.gs[g]? = some (star (oldX c.W c.X::gl))) (hg':k.gs[g']? = some (star (oldX c.W c.X::gl'))) (live0:List (Nat×Value)) (r:Value) (hk:knowB rn live0 bl [(0,r)] bl1=true)
  (run:∀ gb:Nat→Value,letI:Sig:=k.sig; withB P (fun B=>segB B f p (fun fn c=>Nat.beq (tmL gb N 0 live0).length N && (Nat.beq fn.ntmps N && (Nat.ble N 4094 && (idsB m rn bl && ((bl1.all (fun q=>Nat.beq (q.1 % 4) 0) && isNil ((flat c).drop (i+kk))) && outIs r bl1 (some g') (fromK (tmL gb N 0 live0) 0 .leaf (fun t=>fret B.P fn (pieceF B n N kk ((flat c).drop i) t (stOf (objsOf bl g) m))))))))))=true) :
  letI:Sig:=k.sig; PieE P f p i N c (live0.map (cvp (renOf rn))) (bl.map (blkOf (renOf rn))++gl) (fun κ:Ren=>concF 3 (ovr rn κ) r) (fun κ:Ren=>bl1.map (blkOf (ovr rn κ))++gl'.map (frz (ovr rn κ))):=by
 letI:Sig:=k.sig
 intro A w R hA hQ
 obtain ⟨k1,k2,k3,k4,k5,k6,k7⟩:=known_ok hk
 obtain ⟨F,b1,b2,b3,gb,b4⟩:=tri_pre k hg k1 k2 k4 k5 hA
 refine seg_end hP hcal hm (run gb) b1 b2 b3 b4 hA.df (fun κ v' w1 hv L=>?_)
 rw [concF_eq 3 hv (k6 _ (List.mem_singleton.2 rfl)),← congrArg (fun κ=>concF 3 κ r) (ovr_eq L.old)]
 exact hQ κ w1 (by
  show Hold c (bl1.map (blkOf (ovr rn κ))++gl'.map (frz (ovr rn κ))) w1
  rw [ovr_eq L.old]
  exact tri_post k hg' k3 k7 hA.hold.same L)
end Go.Ev
namespace Go.Ev
open Go.RowKit
set_option linter.unusedVariables false
set_option linter.unusedSimpArgs false
set_option linter.unusedSectionVars false
theorem con_start {P:Program} {f:FuncId} {N:Nat} {args:Array Value} {l:List Asr} {F:Nat→Prop} {w:World} {R:Ending→World→Prop} {tm:List (Nat×Value)} (hN:withB P (fun B=>segB B f [] (fun fn _=>Nat.beq fn.ntmps N))=true) (hn:Now l F w) (ha:args.size≤N) (ht:∀ p ∈ tm,args[p.1]? = some p.2)
  (h:∀ A,At ⟨w,F⟩ N tm l A w→wpL P (stm P f [] 0) (bodyPostM Fence.wide 0 P (fnOf P f) R) A w) : Calls P f args w R :=
 calls_body hN (h _ ⟨start_size ha,rfl,fun p hp=>start_get (ht p hp),Hold.start hn⟩)
theorem At.ret {P:Program} {f:FuncId} {i N:Nat} {v:Value} {c:Ctx} {tm:List (Nat×Value)} {l:List Asr} {A:Act} {w:World} (h:At c N tm l A w) (hr:withB P (fun B=>segB B f [] (fun fn _=>resTmps fn.results.toList [i]))=true) (hv:(i,v) ∈ tm) {R:Ending→World→Prop} (hR:Hold c l w→R (.returned v) w) : bodyPostM Fence.wide 0 P (fnOf P f) R .ret A w :=
 post_ret hr h.df (by rw [show A.tmps.getD i undef=v from h.tm _ hv]; exact hR h.hold)
theorem At.to {N:Nat} {c:Ctx} {tm tm':List (Nat×Value)} {l l':List Asr} {A:Act} {w:World} (h:At c N tm l A w) (ht:∀ p ∈ tm',p ∈ tm) (hl:Hold c l w→Hold c l' w) : At c N tm' l' A w:=⟨h.sz,h.df,fun p hp=>h.tm p (ht p hp),hl h.hold⟩
theorem loop_st {P:Program} {f:FuncId} {p:List Nat} {i:Nat} {Q:Exit→Act→World→Prop} {β:Type} (hl:withB P (fun B=>segB B f p (fun _ c=>isLoop ((flat c).drop i)))=true) (I:β→Act→World→Prop) (μ:β→Nat) {x:β} {A:Act} {w:World} (h0:I x A w)
  (step:∀ x A w,I x A w→wpL P (stm P f (p++[2 * i]) 0) (Exit.then (fun A w=>∃ y,I y A w∧μ y < μ x) (Exit.then (wpL P (stm P f p (i+1)) Q) Q)) A w) : wpL P (stm P f p i) Q A w:=by
 refine in_loop hl ?_
 have key:∀ n x A w,μ x≤n→I x A w→Code.roundsIn Fence.wide 0 P (place P f (p++[2 * i])) (Exit.then (wpL P (stm P f p (i+1)) Q) Q) (n+1) A w:=by
  intro n
  induction n with
  | zero =>
   intro x A w hx h
   rw [roundsIn_succ]
   refine wpIn_mono (wpL_flat (step x A w h)) (fun e a w h=>?_)
   cases e with
   | normal=>obtain ⟨y,_,h2⟩:=h; omega
   | _=>exact h
  | succ n ih =>
   intro x A w hx h
   rw [roundsIn_succ]
   refine wpIn_mono (wpL_flat (step x A w h)) (fun e a w h=>?_)
   cases e with
   | normal=>obtain ⟨y,h1,h2⟩:=h; exact ih y a w (by omega) h1
   | _=>exact h
 exact wpIn_loop_rounds _ (key (μ x) x A w (Nat.le_refl _) h0)
def Imps (w:World) : List Asr→List Asr→Prop
 | [],[]=>True
 | a::l,b::m=>(∀ f,a.p (fun _=>none) f w→b.p (fun _=>none) f w)∧Imps w l m
 | _,_=>False
theorem imps_now:∀ {l m:List Asr} {F:Nat→Prop} {w:World},Imps w l m→Now l F w→Now m F w
 | [],[],_,_,_,h=>h
 | a::l,b::m,F,w,⟨h1,h2⟩,h=>by
  obtain ⟨Fa,Fl,k1,k2,k3,k4⟩:=now_uncons h
  exact now_same (now_cons (h1 Fa k1) (imps_now h2 k2) (fun j hj=>h.lt j ((k4 j).2 (.inl hj))) k3) (fun j=>(k4 j).symm)
 | [],_::_,_,_,h,_=>h.elim
 | _::_,[],_,_,h,_=>h.elim
theorem Hold.conv {c:Ctx} {l m:List Asr} {w:World} (h:Hold c l w) (hi:Imps w l m) : Hold c m w:=by
 obtain ⟨F,h1,h2,h3⟩:=h.ex
 exact ⟨⟨F,imps_now hi h1,h2,h3⟩⟩
theorem Pie.conv {P:Program} {f:FuncId} {p:List Nat} {i k N:Nat} {c:Ctx} {tm:List (Nat×Value)} {l:List Asr} {ex:Exit} {α:Type} {tm':α→List (Nat×Value)} {l' l'':α→List Asr} (h:Pie P f p i k N c tm l ex tm' l') (hi:∀ x w,Imps w (l' x) (l'' x)) : Pie P f p i k N c tm l ex tm' l'' :=
 fun A w Q hA hQ=>h A w Q hA (fun x A1 w1 h1=>hQ x A1 w1 ⟨h1.sz,h1.df,h1.tm,h1.hold.conv (hi x w1)⟩)
theorem PieE.conv {P:Program} {f:FuncId} {p:List Nat} {i N:Nat} {c:Ctx} {tm:List (Nat×Value)} {l:List Asr} {α:Type} {r:α→Value} {l' l'':α→List Asr} (h:PieE P f p i N c tm l r l') (hi:∀ x w,Imps w (l' x) (l'' x)) : PieE P f p i N c tm l r l'' :=
 fun A w R hA hR=>h A w R hA (fun x w1 h1=>hR x w1 (h1.conv (hi x w1)))
theorem undy {κ:Ren} {d:Nat} {a:Value→Asr} {f:Nat→Prop} {w:World} (ha:∀ v,Flat (a v)) (h:(frz κ (atD d a)).p (fun _=>none) f w) : (a (dec ((κ d).getD 0))).p (fun _=>none) f w:=by
 obtain ⟨c,h1,h2⟩:=h
 rw [h1]
 exact ha _ _ _ _ _ h2
def Flats:List Asr→Prop
 | []=>True
 | a::l=>Flat a∧Flats l
theorem flats_get:∀ {l:List Asr},Flats l→∀ a ∈ l,Flat a
 | [],_,a,h=>by cases h
 | b::l,⟨h1,h2⟩,a,h=>by
  rcases List.mem_cons.1 h with rfl | h
  ·exact h1
  ·exact flats_get h2 a h
theorem Hold.frame {m r:List Asr} {F G:Nat→Prop} {w w':World} (h:Hold ⟨w,F⟩ m w') (hr:Now r G w) (hd:∀ j,F j→¬ G j) : Hold ⟨w,fun j=>F j∨G j⟩ (m++r) w':=by
 obtain ⟨F',h1,h2,h3⟩:=h.ex
 have hr':=now_keep hr (fun j hj=>h2.block j (hr.lt j hj) (fun hf=>hd j hf hj)) h2.size
 refine ⟨⟨_,now_append h1 hr' (fun j hj hg=>?_),⟨h2.os,h2.tape,h2.output,h2.size,fun j hj hn=>h2.block j hj (fun hf=>hn (.inl hf))⟩,fun j hj=>hj.elim (fun hj=>(h3 j hj).imp .inl id) (fun hj=>.inl (.inr hj))⟩⟩
 rcases h3 j hj with h | h
 ·exact hd j h hg
 ·have h0:w.heap.size≤j:=h
  have:=hr.lt j hg
  omega
theorem star_of {l m:List Asr} {κ:Ren} {F:Nat→Prop} {w:World} (h:Now l F w) (hl:m.length=l.length) (hm:∀ (i:Nat) a b f,l[i]? = some a→m[i]? = some b→a.p (fun _=>none) f w→b.p κ f w) : (star m).p κ F w:=by
 obtain ⟨⟨Fs,q⟩,lt⟩:=h
 refine ⟨Fs,by rw [q.len,hl],fun i b f h1 h2=>?_,q.apart,q.all⟩
 have hi:i < l.length:=by rw [← hl]; exact (List.getElem?_eq_some_iff.1 h1).1
 exact hm i l[i] b f (List.getElem?_eq_getElem hi) h1 (q.holds i _ f (List.getElem?_eq_getElem hi) h2)
theorem sel_map (l:List Asr) (idx:List Nat) (ι:Ren) : sel (l.map (frz ι)) idx=(sel l idx).map (frz ι):=by
 unfold sel
 rw [List.map_map]
 refine List.map_congr_left (fun i _=>?_)
 simp only [Function.comp,List.getD_eq_getElem?_getD,List.getElem?_map]
 cases l[i]? <;> rfl
theorem gc_gen {k:Kn} {P:Program} {c:Ctx} {f:FuncId} {abs args:List Value} {g g':Nat} {gl lp lqd:List Asr} {d0:Option Nat} {r:Value} (idx rest:List Nat) (hg:k.gs[g]? = some (star (oldX c.W c.X::gl))) (hg':k.gs[g']? = some (star (oldX c.W c.X::(lqd++sel gl rest)))) (hsel:selB gl.length (idx++rest)=true) (hp:sel gl idx=lp) (hf:Flats lp)
  (ha:∀ ι l',(letI:Sig:=k.sig; LRel ι abs l')→l'=args)
  (con:∀ (w:World) (F:Nat→Prop),OldW c.W c.X w→Now lp F w→(∀ j,F j→c.X j∨c.W.heap.size≤j)→Calls P f args.toArray w fun e w'=>∃ (v:Value) (cd:Nat) (lv:List Asr),e=.returned v∧Hold ⟨w,F⟩ lv w'∧lqd.length=lv.length ∧
   ∀ (ι:Ren) (d:Nat),(∀ y,d0=some y→y=d)→ι d=none→(letI:Sig:=k.sig; VRel (ι.upd d cd) r v)∧∀ (i:Nat) a b ff,lv[i]? = some a→lqd[i]? = some b→a.p (fun _=>none) ff w'→b.p (ι.upd d cd) ff w') : GCTrue k P ⟨f,abs,g,d0,r,some g'⟩:=by
 letI:Sig:=k.sig
 intro ι args' F w d hl h1 h2 h3 h4
 have e:=ha ι _ hl
 have ea:args'=args.toArray:=by rw [← e]
 subst ea
 obtain ⟨b,q1,q2⟩:=h1
 rw [hg] at q1
 cases q1
 have hd:ι d=none:=h3.elim id (fun h=>by cases h)
 obtain ⟨Fo,Fg,⟨o1,o2⟩,n1,n2,n3⟩:=now_uncons (l:=gl.map (frz ι)) (now_frz q2 h2)
 obtain ⟨F',s1,s2⟩:=now_sel n1 (idx++rest) (by rw [List.length_map]; exact hsel)
 have hsp:sel (gl.map (frz ι)) (idx++rest)=lp.map (frz ι)++(sel gl rest).map (frz ι):=by
  rw [sel_map,← hp,← List.map_append]
  unfold sel
  rw [List.map_append]
 rw [hsp] at s1
 obtain ⟨F1,F2,p1,p2,p3,p4⟩:=now_split s1
 have pl:Now lp F1 w:=now_map p1 (by simp) (fun i a b ff e1 e2 h=>by
  rw [List.getElem?_map,e2] at e1
  cases e1
  exact flats_get hf b (List.mem_of_getElem? e2) ι _ ff w h)
 have hFg:∀ j,Fg j→c.X j∨c.W.heap.size≤j:=fun j hj=>by
  rcases Nat.lt_or_ge j c.W.heap.size with h | h
  ·exact .inl (Classical.byContradiction fun hx=>n2 j ((o1 j).2 ⟨h,hx⟩) hj)
  ·exact .inr h
 refine (con w F1 o2 pl (fun j hj=>hFg j (s2 j ((p4 j).2 (.inl hj))))).mono ?_
 rintro e' w' ⟨v,cd,lv,rfl,hh,hlen,hrel⟩
 obtain ⟨G,g1,g2,g3⟩:=hh.ex
 obtain ⟨r1,r2⟩:=hrel ι d h4 hd
 have notF1:∀ j,Fo j→¬ F1 j:=fun j ho hf1=>n2 j ho (s2 j ((p4 j).2 (.inl hf1)))
 have kr:Now ((sel gl rest).map (frz ι)) F2 w':=now_keep p2 (fun j hj=>g2.block j (p2.lt j hj) (fun h=>p3 j h hj)) g2.size
 have lt0:∀ j,Fo j→j < w.heap.size:=fun j hj=>h2 j ((n3 j).2 (.inl hj))
 have disG:∀ j,G j→¬ F2 j:=fun j hj hf2=>by
  rcases g3 j hj with h | h
  ·exact p3 j h hf2
  ·have h0:w.heap.size≤j:=h
   have:=p2.lt j hf2
   omega
 have all:=now_cons (a:=oldX c.W c.X) (Fa:=Fo) ⟨o1,fun j hj hx=>(g2.block j (lt0 j ((o1 j).2 ⟨hj,hx⟩)) (notF1 j ((o1 j).2 ⟨hj,hx⟩))).trans (o2 j hj hx)⟩ (now_append g1 kr disG) (fun j hj=>Nat.lt_of_lt_of_le (lt0 j hj) g2.size) (fun j hj hx=>by
  rcases hx with hx | hx
  ·rcases g3 j hx with h | h
   ·exact notF1 j hj h
   ·have h0:w.heap.size≤j:=h
    have:=lt0 j hj
    omega
  ·exact n2 j hj (s2 j ((p4 j).2 (.inr hx))))
 refine ⟨v,rfl,cd,_,r1,⟨_,hg',star_of all (by simp [hlen]) (fun i a b ff e1 e2 h=>?_)⟩,⟨g2.os,g2.tape,g2.output,g2.size,fun j hj hn=>g2.block j hj (fun hf=>hn ((n3 j).2 (.inr (s2 j ((p4 j).2 (.inl hf))))))⟩,fun j hj=>⟨all.lt j hj,?_⟩⟩
 ·match i with
  | 0=>cases e1; cases e2; exact h
  | i+1 =>
   rw [List.getElem?_cons_succ] at e1 e2
   rcases Nat.lt_or_ge i lv.length with hi | hi
   ·rw [List.getElem?_append_left hi] at e1
    rw [List.getElem?_append_left (by rw [hlen]; exact hi)] at e2
    exact r2 i a b ff e1 e2 h
   ·rw [List.getElem?_append_right hi,List.getElem?_map] at e1
    rw [List.getElem?_append_right (by rw [hlen]; exact hi),hlen] at e2
    rw [e2] at e1
    cases e1
    exact b.mono ι _ ff w' (Ren.upd_le (b:=cd) hd) h
 ·rcases hj with hj | hj | hj
  ·exact .inl ((n3 j).2 (.inl hj))
  ·rcases g3 j hj with h | h
   ·exact .inl ((n3 j).2 (.inr (s2 j ((p4 j).2 (.inl h)))))
   ·exact .inr h
  ·exact .inl ((n3 j).2 (.inr (s2 j ((p4 j).2 (.inr hj)))))
theorem gc_con {k:Kn} {P:Program} {c:Ctx} {f:FuncId} {abs args:List Value} {g g':Nat} {gl lp lq:List Asr} {r rv:Value} (idx rest:List Nat) (hg:k.gs[g]? = some (star (oldX c.W c.X::gl))) (hg':k.gs[g']? = some (star (oldX c.W c.X::(lq++sel gl rest)))) (hsel:selB gl.length (idx++rest)=true) (hp:sel gl idx=lp) (hf:Flats lp)
  (ha:∀ ι l',(letI:Sig:=k.sig; LRel ι abs l')→l'=args) (hr:∀ ι,(letI:Sig:=k.sig; VRel ι r rv))
  (con:∀ (w:World) (F:Nat→Prop),OldW c.W c.X w→Now lp F w→(∀ j,F j→c.X j∨c.W.heap.size≤j)→Calls P f args.toArray w fun e w'=>e=.returned rv∧Hold ⟨w,F⟩ lq w') : GCTrue k P ⟨f,abs,g,none,r,some g'⟩:=by
 letI:Sig:=k.sig
 refine gc_gen idx rest hg hg' hsel hp hf ha (fun w F h1 h2 h3=>(con w F h1 h2 h3).mono ?_)
 rintro e w' ⟨rfl,hh⟩
 refine ⟨rv,0,lq,rfl,hh,rfl,fun ι d _ hd=>⟨hr _,fun i a b ff e1 e2 h=>?_⟩⟩
 rw [e1] at e2
 cases e2
 exact a.mono _ _ ff w' (fun _ _ e=>by cases e) h
theorem gc_dyn {k:Kn} {P:Program} {c:Ctx} {f:FuncId} {abs args:List Value} {g g' d1:Nat} {gl lp lqd:List Asr} {r:Value} {ret:Value→Value} {lq:Value→List Asr} (idx rest:List Nat) (hg:k.gs[g]? = some (star (oldX c.W c.X::gl))) (hg':k.gs[g']? = some (star (oldX c.W c.X::(lqd++sel gl rest)))) (hsel:selB gl.length (idx++rest)=true) (hp:sel gl idx=lp) (hf:Flats lp)
  (ha:∀ ι l',(letI:Sig:=k.sig; LRel ι abs l')→l'=args) (hr:∀ (ι:Ren) cd,ι d1=some cd→(letI:Sig:=k.sig; VRel ι r (ret (dec cd)))) (hq:∀ (ι:Ren) cd w',ι d1=some cd→lqd.length=(lq (dec cd)).length∧∀ (i:Nat) a b ff,(lq (dec cd))[i]? = some a→lqd[i]? = some b→a.p (fun _=>none) ff w'→b.p ι ff w')
  (con:∀ (w:World) (F:Nat→Prop),OldW c.W c.X w→Now lp F w→(∀ j,F j→c.X j∨c.W.heap.size≤j)→Calls P f args.toArray w fun e w'=>∃ v cd,dec cd=v∧e=.returned (ret v)∧Hold ⟨w,F⟩ (lq v) w') : GCTrue k P ⟨f,abs,g,some d1,r,some g'⟩:=by
 letI:Sig:=k.sig
 refine gc_gen idx rest hg hg' hsel hp hf ha (fun w F h1 h2 h3=>(con w F h1 h2 h3).mono ?_)
 rintro e w' ⟨v,cd,rfl,rfl,hh⟩
 have up:∀ (ι:Ren),(ι.upd d1 cd) d1=some cd:=fun ι=>by simp [Ren.upd]
 refine ⟨_,cd,lq (dec cd),rfl,hh,(hq _ cd w' (up (fun _=>none))).1,fun ι d hd0 hd=>?_⟩
 obtain rfl:=hd0 d1 rfl
 exact ⟨hr _ cd (up ι),(hq _ cd w' (up ι)).2⟩
def slA (e:TypeId) (sz:Nat) (v:Value) (n:Nat) (xs:List Value) : Asr where
 p:=fun _ F w=>SlV e sz v n xs F w
 keep:=fun _ F w w' hk h=>h.keep hk
 mono:=fun _ _ _ _ _ h=>h
section rows
variable {k:Kn} {P:Program} {g g':Nat} {l:List Asr} {ci:Nat} {t e:TypeId} {sL sI sP sQ sV n sz m:Nat} {v:Value} {xs:List Value} {i:TypeInfo}
theorem sl_len (hg:k.gs[g]? = some (star l)) (hi:l[ci]? = some (slA e sz v n xs)) (ht:P.underlying t=some (.slice e)) (hsz:i.size=sz) (hL:k.val sL=v) (hV:k.val sV=.int .i64 (n:Int)) : GTrue k P ⟨[10,t],[sy sL],none,g,none,sy sV,none⟩:=by
 subst hsz
 refine GTrue.len k ?_
 letI:Sig:=k.sig
 intro ι F w d x' ty q hx
 obtain ⟨Fs,ff,hS,hf,h1⟩:=star_ask hg hi q
 rw [vsymR hx,hL]
 exact ⟨_,w,SlV.len h1 ht ty,rsymR hV,Below.refl _ _⟩
theorem slv_ptr {sz n m:Nat} {v:Value} {xs:List Value} {F:Nat→Prop} {w:World} (h:SlV e sz v n xs F w) (hm:m < n * sz) : ∃ b off c,v=.slice (some ⟨b,off,none⟩) n c∧ptrR v m=.pointer (some ⟨b,off+m,none⟩)∧F b∧w.cell? ⟨b,off+m,none⟩=xs[m]?∧w.frozen? ⟨b,off+m,none⟩=false:=by
 obtain ⟨h1,⟨_,rfl,hF⟩ | ⟨b,off,c,arr,rfl,hF,hb0,hx,hsz,hnc⟩⟩:=h
 ·simp at hm
 ·exact ⟨b,off,c,rfl,rfl,(hF b).2 rfl,by rw [← hx m hm]; simp [World.cell?,hb0],by simp [World.frozen?,hb0]⟩
theorem sl_index {kd:IntKind} {j:Nat} (hg:k.gs[g]? = some (star l)) (hi:l[ci]? = some (slA e sz v n xs)) (ht:P.underlying t=some (.slice e)) (hinf:P.info? e=some i) (hsz:i.size=sz) (hL:k.val sL=v) (hI:k.val sI=.int kd (j:Int)) (hj:j < n) (hP:k.val sP=ptrR v (j * sz)) : GTrue k P ⟨[3,t],[sy sL,sy sI],none,g,none,sy sP,none⟩:=by
 subst hsz
 refine GTrue.index k ?_
 letI:Sig:=k.sig
 intro ι F w d x' y' q hx hy
 obtain ⟨Fs,ff,hS,hf,h1⟩:=star_ask hg hi q
 rw [vsymR hx,vsymR hy,hL,hI]
 obtain ⟨b,off,c,e1,e2,_⟩:=SlV.at (kd:=kd) h1 ht hinf hj
 exact ⟨_,w,e2,rsymR (by rw [hP,e1]; rfl),Below.refl _ _⟩
theorem sl_load {x r:Value} (hg:k.gs[g]? = some (star l)) (hi:l[ci]? = some (slA e sz v n xs)) (hL:LoadOne P t) (hm:xs[m]? = some x) (hn:m < n * sz) (hP:k.val sP=ptrR v m) (hV:∀ ι,(letI:Sig:=k.sig; VRel ι r x)) : GTrue k P ⟨[1,t],[sy sP],none,g,none,r,none⟩:=by
 refine GTrue.load k ?_
 letI:Sig:=k.sig
 intro ι F w d x' q hx
 obtain ⟨Fs,ff,hS,hf,h1⟩:=star_ask hg hi q
 rw [vsymR hx,hP]
 obtain ⟨b,off,c,_,e2,_,e3,_⟩:=slv_ptr h1 hn
 rw [e2]
 exact ⟨x,w,hL b (off+m) x w (by rw [e3,hm]),hV _,Below.refl _ _⟩
def StoreOne (P:Program) (t:TypeId) : Prop:=∀ b o x x0 (w:World),w.cell? ⟨b,o,none⟩=some x0→w.frozen? ⟨b,o,none⟩=false→x.oneCell'=true→(Instr.storeAt t (.pointer (some ⟨b,o,none⟩)) x).run P w=.ok () (w.setCell ⟨b,o,none⟩ x)
theorem turn_set {b o:Nat} {x:Value} {w:World} {F:Nat→Prop} (h:F b) : Turn F w (w.setCell ⟨b,o,none⟩ x):=by
 have hs:=@setCells_below noSig (base:=fun _=>False) (b:=b) (fun h=>h) [x] o w
 exact ⟨hs.os,hs.tape,hs.output,by have:=@setCells_size noSig b [x] o w; exact Nat.le_of_eq this.symm,fun j hj hn=>@setCells_other noSig b [x] o w j (fun (e:j=b)=>hn (e ▸ h))⟩
theorem sl_store {x r:Value} (hg:k.gs[g]? = some (star l)) (hi:l[ci]? = some (slA e sz v n xs)) (hg':k.gs[g']? = some (star (l.set ci (slA e sz v n (xs.set m x))))) (hL:StoreOne P t) (hn:m < n * sz) (hP:k.val sP=ptrR v m) (hV:∀ ι y,(letI:Sig:=k.sig; VRel ι r y)→y=x) (hc:x.oneCell'=true) : GTrue k P ⟨[2,t],[sy sP,r],none,g,none,undef,some g'⟩:=by
 refine GTrue.store k ?_
 letI:Sig:=k.sig
 intro ι F w d x' y' q hx hy
 obtain ⟨Fs,ff,hS,hf,h1⟩:=star_ask hg hi q
 rw [vsymR hx,hP,hV _ _ hy]
 obtain ⟨b,off,c,e1,e2,e0,e3,e4⟩:=slv_ptr h1 hn
 rw [e2]
 have hlt:m < xs.length:=by rw [h1.1]; exact hn
 rw [List.getElem?_eq_getElem hlt] at e3
 have hset:=SlV.set (b:=b) (off:=off) (c:=c) h1 e1 hn x
 exact ⟨_,hL b (off+m) x _ w e3 e4 hc,one_end hg' hS q.lt hf (ask_fresh q) 0 hset (turn_set e0) (fun j hj=>⟨Nat.lt_of_lt_of_le (h1.lt j hj) (turn_set (x:=x) (o:=off+m) e0).size,.inl hj⟩) (undef_rel _)⟩
end rows
end Go.Ev
