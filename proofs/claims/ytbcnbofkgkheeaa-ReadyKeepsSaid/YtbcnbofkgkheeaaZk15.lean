/- Part of a proof: see the last text. -/
import Derived.Test.YtbcnbofkgkheeaaZk14
import Derived.Test.YtbcnbofkgkheeaaZk13
import Derived.OwnWalk
import Derived.KernelRfl
import Derived.Test.YtbcnbofkgkheeaaRows
import Derived.WalkKit
import Derived.WalkSpells
import Derived.WalkLawsBesides
import Derived.Lib.Hide
namespace Go.Ev
open Go.RowKit
set_option linter.unusedVariables false
set_option linter.unusedSimpArgs false
section
variable {P:Program} {kT e:TypeId} {b r n cnt d:Nat} {f:Int→Option Int} {left:Int→Bool} {i:Int} {c:Ctx} {l:List Asr} {w:World} {κ:Ren}
theorem Hold.next (h:Hold c (nextA P kT e b r n cnt f left::l) w) : ∃ i c',c' < cnt∧left i=true∧wfI i∧(f i).isSome=true∧Hold c (curA P kT e b r n c' f (lessI left i) i::l) w:=by
 obtain ⟨⟨i,c'⟩,⟨h1,h2,h3,h4⟩,hh⟩:=h.headE (b:=fun x:Int×Nat=>curA P kT e b r n x.2 f (lessI left x.1) x.1) (p:=fun x=>x.2 < cnt∧left x.1=true∧wfI x.1∧(f x.1).isSome=true) (fun F ⟨h1,i,c',h2,h3,h4⟩=>⟨(i,c'),⟨h2,h3,h4.1,h4.2.1⟩,h1,h4⟩)
 exact ⟨i,c',h1,h2,h3,h4,hh⟩
theorem Hold.cur (h:Hold c (curA P kT e b r n cnt f left i::l) w) : Hold c (rngA P kT e b (.st (ptrV r)) n cnt f left::l) w :=
 h.head (fun F ⟨h1,h2⟩=>⟨r,rfl,h1,h2.2.2.1⟩)
end
end Go.Ev
namespace Go.Ev
open Go.RowKit
set_option linter.unusedVariables false
set_option linter.unusedSimpArgs false
set_option linter.unusedSectionVars false
section
variable {k:Kn} {P:Program} {g g':Nat} {l:List Asr} {ci:Nat} {t u e:TypeId} {sL sP sQ sV n sz m:Nat} {v:Value} {xs:List Value} {i:TypeInfo} {z:Value}
theorem one_all {ι:Ren} {c c':List Value} (h:letI:Sig:=k.sig; LRel ι c c') (ho:c.all oneCell=true) : ∀ u ∈ c',u.oneCell'=true:=by
 letI:Sig:=k.sig
 intro u hu
 rw [List.all_eq_true] at ho
 obtain ⟨i,hi⟩:=List.getElem?_of_mem hu
 have hlt:i < c.length:=by
  rw [h.1]
  exact (List.getElem?_eq_some_iff.1 hi).1
 exact one_one ((h.2 i _ _ (List.getElem?_eq_getElem hlt) hi).one (ho _ (List.getElem_mem hlt)))
theorem sl_append {d1 e':Nat} {c cs:List Value} (hg:k.gs[g]? = some (star l)) (hi:l[ci]? = some (slA e sz v n xs)) (hg':k.gs[g']? = some (star (l.set ci (atD d1 (fun v'=>slA e sz v' (n+m) (xs++cs)))))) (ht:P.underlying t=some (.slice e)) (hu:P.underlying u=some (.slice e')) (hinf:P.info? e=some i) (hsz:i.size=sz) (h0:0 < sz) (hz:i.zero=some z) (hzs:z.cells.size=i.size)
  (hb:(n+m) * i.bytes≤140737488355328) (hnm:n+m≤1000000000) (hL:k.val sL=v) (hm:c.length=m * sz) (hc:∀ ι c',(letI:Sig:=k.sig; LRel ι c c')→c'=cs) : GTrue k P ⟨[11,t,u],[sy sL],some (sz,1,c),g,some d1,.complex .f32 d1 0,some g'⟩:=by
 subst hsz
 refine GTrue.append k ?_
 letI:Sig:=k.sig
 intro ι F w d x' y' c' m' ty q hx hcr hcm ho hr hl
 obtain ⟨Fs,ff,hS,hf,h1⟩:=star_ask hg hi q
 have hmm:m'=m:=Nat.eq_of_mul_eq_mul_right h0 (by rw [← hcm,hm])
 subst hmm
 obtain rfl:=q.name d1 rfl
 rw [vsymR hx,hL]
 have hs:Src P i.size u y' m' c' w:=⟨.inl ⟨_,hu⟩,hl,hr w rfl,hr w.drew rfl,by rw [← hcr.1]; exact hm,one_all hcr ho⟩
 obtain ⟨v2,w2,F2,r1,r2,r3,r4⟩:=SlV.append (ty:=ty) h1 ht hinf hz hzs hs hb hnm
 rw [hc _ _ hcr] at r2
 obtain ⟨cc,hcc⟩:=r2.code
 have hup:(ι.upd d1 cc) d1=some cc:=by simp [Ren.upd]
 exact ⟨v2,w2,r1,one_end hg' hS q.lt hf (ask_fresh q) cc ⟨cc,hup,by rw [hcc]; exact r2⟩ r3 r4 (.dyn d1 cc v2 hup hcc)⟩
theorem ro_callR {w0:World} {X:Nat→Prop} {f:FuncId} {abs args:List Value} {r rv:Value} (hg:k.gs[g]? = some (star l)) (hi:l[ci]? = some (oldX w0 X)) (hc:∀ w,OldW w0 X w→Calls P f args.toArray w fun e w'=>e=.returned rv∧Below w.heap.size w w') (hr:∀ ι,(letI:Sig:=k.sig; VRel ι r rv))
  (ha:∀ ι l',(letI:Sig:=k.sig; LRel ι abs l')→l'=args) : GCTrue k P ⟨f,abs,g,none,r,none⟩:=by
 letI:Sig:=k.sig
 intro ι args' F w d hl h1 h2 h3 h4
 have e:=ha ι _ hl
 obtain ⟨b,q1,q2⟩:=h1
 rw [hg] at q1
 cases q1
 obtain ⟨Fs,q2⟩:=q2
 have hlt:ci < Fs.length:=by rw [q2.len]; exact (List.getElem?_eq_some_iff.1 hi).1
 obtain ⟨_,o3⟩:=q2.holds ci _ _ hi (List.getElem?_eq_getElem hlt)
 have ea:args'=args.toArray:=by rw [← e]
 rw [ea]
 refine (hc w o3).mono ?_
 rintro e w' ⟨rfl,hb⟩
 exact ⟨_,rfl,hr ι,hb⟩
theorem isAgg {k:Kn} {abs cs:List Value} (h:∀ ι l',(letI:Sig:=k.sig; LRel ι abs l')→l'=cs) : IsV k (.agg abs.toArray) (.agg cs.toArray):=fun ι x' hx=>by
 letI:Sig:=k.sig
 cases hx with
 | agg f f' hf hh =>
  have:=h ι f'.toList ⟨by simpa using hf,fun i v v' e1 e2=>hh i v v' (by simpa using e1) (by simpa using e2)⟩
  rw [← this]
theorem isNilp {k:Kn} : IsV k (.pointer none) (.pointer none):=fun ι x' hx=>by
 letI:Sig:=k.sig
 cases hx with
 | ptr0=>rfl
theorem isNils {k:Kn} : IsV k (.slice none 0 0) (.slice none 0 0):=fun ι x' hx=>by
 letI:Sig:=k.sig
 cases hx with
 | slice0=>rfl
variable {b:Nat} {cs:List Value} {T:TypeId}
end
theorem SlV.ro {e:TypeId} {sz n:Nat} {v:Value} {xs:List Value} {F:Nat→Prop} {w:World} (h:SlV e sz v n xs F w) : SlR sz v n xs w:=by
 obtain ⟨h1,⟨he,h2,_⟩ | ⟨b,off,c,arr,rfl,hF,hb0,hx,hsz,hnc⟩⟩:=h
 ·obtain ⟨a,rfl⟩:=he.base
  exact ⟨h1,.inl ⟨h2,_,_,rfl⟩⟩
 ·refine ⟨h1,.inr ⟨b,off,c,rfl,⟨(Array.getElem?_eq_some_iff.1 hb0).1,hnc⟩,fun j hj=>?_⟩⟩
  rw [← hx j hj]
  simp [World.cell?,hb0]
theorem SlV.off {e:TypeId} {sz n:Nat} {v:Value} {xs:List Value} {F X:Nat→Prop} {w:World} (h:SlV e sz v n xs F w) (hd:∀ j,F j→¬ X j) : OffX X v:=by
 obtain ⟨h1,⟨he,h2,_⟩ | ⟨b,off,c,arr,rfl,hF,hb0,hx,hsz,hnc⟩⟩:=h
 ·rcases he with rfl | ⟨b,off,rfl⟩
  ·trivial
  ·exact fun h0=>absurd h0 (Nat.lt_irrefl 0)
 ·exact fun _=>hd b ((hF b).2 rfl)
end Go.Ev
namespace Go.Ev
open Go.RowKit
set_option linter.unusedVariables false
set_option linter.unusedSimpArgs false
set_option linter.unusedSectionVars false
theorem Hold.nilSl {e:TypeId} {sz:Nat} {c:Ctx} {l:List Asr} {w:World} (h:Hold c l w) : Hold c (slA e sz (.slice none 0 0) 0 []::l) w:=by
 obtain ⟨F,h1,h2,h3⟩:=h.ex
 refine ⟨⟨_,now_cons (a:=slA e sz (.slice none 0 0) 0 []) (SlV.nil e sz w) h1 (fun j hj=>hj.elim) (fun j hj=>hj.elim),h2,fun j hj=>hj.elim (fun h=>h.elim) (h3 j)⟩⟩
section
variable {k:Kn} {P:Program} {g g':Nat} {l:List Asr} {t kT e:TypeId}
theorem grow_end {r:Value} {ι:Ren} {F f':Nat→Prop} {w w':World} {d:Nat} {a':Asr} (hg':k.gs[g']? = some (star (l++[a']))) (hS:(star l).p ι F w) (lt:∀ x,F x→x < w.heap.size) (hd:ι d=none) (c:Nat) {v':Value} (ha:a'.p (ι.upd d c) f' w') (hb:Below w.heap.size w w') (hs:∀ x,f' x→x < w'.heap.size∧w.heap.size≤x) (hv:letI:Sig:=k.sig; VRel (ι.upd d c) r v') : letI:Sig:=k.sig; GEnd ι d F w r (some g') v' w':=by
 letI:Sig:=k.sig
 obtain ⟨Fs,q⟩:=hS
 refine ⟨c,fun j=>F j∨f' j,hv,⟨_,hg',Fs++[f'],by simp [q.len],fun i a f h1 h2=>?_,fun i j f f2 hij h1 h2 x hx hx'=>?_,fun x=>⟨fun h=>?_,fun ⟨i,f,h1,h2⟩=>?_⟩⟩,Turn.below hb,fun j hj=>?_⟩
 ·rcases Nat.lt_or_ge i l.length with hi | hi
  ·rw [List.getElem?_append_left hi] at h1
   rw [List.getElem?_append_left (by rw [q.len]; exact hi)] at h2
   refine a.mono ι _ f w' (Ren.upd_le (b:=c) hd) (a.keep ι f w w' (fun x hx=>hb.block x (lt x ((q.all x).2 ⟨i,f,h2,hx⟩))) (q.holds i a f h1 h2))
  ·rw [List.getElem?_append_right hi] at h1
   rw [List.getElem?_append_right (by rw [q.len]; exact hi),q.len] at h2
   cases hk:i - l.length with
   | zero=>rw [hk] at h1 h2; cases h1; cases h2; exact ha
   | succ m=>rw [hk] at h1; cases h1
 ·rcases Nat.lt_or_ge i Fs.length with hi | hi
  ·rw [List.getElem?_append_left hi] at h1
   rcases Nat.lt_or_ge j Fs.length with hj | hj
   ·rw [List.getElem?_append_left hj] at h2
    exact q.apart i j f f2 hij h1 h2 x hx hx'
   ·rw [List.getElem?_append_right hj] at h2
    cases hk:j - Fs.length with
    | zero =>
     rw [hk] at h2; cases h2
     have h3:=lt x ((q.all x).2 ⟨i,f,h1,hx⟩)
     have h4:=(hs x hx').2
     omega
    | succ m=>rw [hk] at h2; cases h2
  ·rw [List.getElem?_append_right hi] at h1
   cases hk:i - Fs.length with
   | succ m=>rw [hk] at h1; cases h1
   | zero =>
    rw [hk] at h1; cases h1
    rcases Nat.lt_or_ge j Fs.length with hj | hj
    ·rw [List.getElem?_append_left hj] at h2
     have h3:=lt x ((q.all x).2 ⟨j,f2,h2,hx'⟩)
     have h4:=(hs x hx).2
     omega
    ·rw [List.getElem?_append_right hj] at h2
     cases hk':j - Fs.length with
     | zero=>omega
     | succ m=>rw [hk'] at h2; cases h2
 ·rcases h with h | h
  ·obtain ⟨i,f,h1,h2⟩:=(q.all x).1 h
   exact ⟨i,f,by rw [List.getElem?_append_left (List.getElem?_eq_some_iff.1 h1).1]; exact h1,h2⟩
  ·exact ⟨Fs.length,f',by simp,h⟩
 ·rcases Nat.lt_or_ge i Fs.length with hi | hi
  ·rw [List.getElem?_append_left hi] at h1
   exact .inl ((q.all x).2 ⟨i,f,h1,h2⟩)
  ·rw [List.getElem?_append_right hi] at h1
   cases hk:i - Fs.length with
   | zero=>rw [hk] at h1; cases h1; exact .inr h2
   | succ m=>rw [hk] at h1; cases h1
 ·rcases hj with hj | hj
  ·exact ⟨Nat.lt_of_lt_of_le (lt j hj) hb.size,.inl hj⟩
  ·exact ⟨(hs j hj).1,.inr (hs j hj).2⟩
end
theorem gc_dynL {k:Kn} {P:Program} {c:Ctx} {f:FuncId} {abs args:List Value} {g g' d1:Nat} {gl lp:List Asr} {r:Value} {ret:Value→Value} (fs:List (Value→Asr)) (idx rest:List Nat) (hg:k.gs[g]? = some (star (oldX c.W c.X::gl))) (hg':k.gs[g']? = some (star (oldX c.W c.X::(fs.map (atD d1)++sel gl rest)))) (hsel:selB gl.length (idx++rest)=true) (hp:sel gl idx=lp) (hf:Flats lp)
  (ha:∀ ι l',(letI:Sig:=k.sig; LRel ι abs l')→l'=args) (hr:∀ (ι:Ren) cd,ι d1=some cd→(letI:Sig:=k.sig; VRel ι r (ret (dec cd))))
  (con:∀ (w:World) (F:Nat→Prop),OldW c.W c.X w→Now lp F w→(∀ j,F j→c.X j∨c.W.heap.size≤j)→Calls P f args.toArray w fun e w'=>∃ v cd,dec cd=v∧e=.returned (ret v)∧Hold ⟨w,F⟩ (fs.map (fun f=>f v)) w') : GCTrue k P ⟨f,abs,g,some d1,r,some g'⟩:=by
 refine gc_dyn (lq:=fun v=>fs.map (fun f=>f v)) idx rest hg hg' hsel hp hf ha hr (fun ι cd w' hi=>⟨by simp,fun i a b ff h1 h2 h=>?_⟩) con
 rw [List.getElem?_map] at h1 h2
 cases hfi:fs[i]? with
 | none=>rw [hfi] at h1; cases h1
 | some q =>
  rw [hfi] at h1 h2
  cases h1
  cases h2
  exact ⟨cd,hi,(q (dec cd)).mono _ _ ff w' (fun _ _ e=>by cases e) h⟩
def cutV (sz:Nat) (v:Value) (lo hi:Nat) : Value :=
 match v with
 | .slice none _ c=>.slice none (hi - lo) (c - lo)
 | .slice (some a) _ c=>.slice (some (if c=lo then a else a.add (lo * sz))) (hi - lo) (c - lo)
 | v=>v
theorem cutV_leaf {sz lo hi:Nat} {v:Value} (h:leafV v=true) : leafV (cutV sz v lo hi)=true:=by
 unfold cutV
 split
 ·rfl
 ·rfl
 ·exact h
section cuts
variable {k:Kn} {P:Program} {g:Nat} {t e:TypeId} {sL sA sB sV n sz lo hi:Nat} {v:Value} {xs:List Value} {w0:World} {i:TypeInfo} {kd kd':IntKind}
theorem cut_run {lov hiv:Option Value} (hlo:lov=none∧lo=0∨lov=some (.int kd (lo:Int))) (hhi:hiv=some (.int kd' (hi:Int))) (hs:SlR sz v n xs w0) (ht:P.underlying t=some (.slice e)) (hinf:P.info? e=some i) (hsz:i.size=sz) (h1:lo≤hi) (h2:hi≤n) (w:World) :
  (Instr.sliceAt t v lov hiv none).run P w=.ok (cutV sz v lo hi) w:=by
 subst hsz
 subst hhi
 have hbd:∀ c:Nat,n≤c→(Instr.sliceBounds true n c lov (some (.int kd' (hi:Int))) none).run P w=.ok (lo,hi,c) w:=by
  intro c hc
  have e1:(hi:Int)≤(c:Int):=by omega
  have e2:(lo:Int)≤(hi:Int):=by omega
  rcases hlo with ⟨rfl,rfl⟩ | rfl
  ·simp [Instr.sliceBounds,run_sliceBound,e1]
  ·simp [Instr.sliceBounds,run_sliceBound,e1,e2]
 have hs':(Instr.sliceAt t v lov (some (.int kd' (hi:Int))) none).run P w=(Instr.slice t v lov (some (.int kd' (hi:Int))) none).run P w:=by
  simp [Instr.sliceAt,run_underlying ht]
 rw [hs']
 obtain ⟨hl,⟨rfl,a,c,rfl⟩ | ⟨b,off,c,rfl,⟨hb,hc⟩,hx⟩⟩:=hs
 ·obtain rfl:hi=0:=by omega
  obtain rfl:lo=0:=by omega
  cases a with
  | none =>
   simp only [Instr.slice,Sem.run_bind,run_underlying ht,Result.andThen]
   rw [hbd c (Nat.zero_le _)]
   simp [sizeOf,typeInfo,hinf,cutV]
  | some a =>
   simp only [Instr.slice,Sem.run_bind,run_underlying ht,Result.andThen]
   rw [hbd c (Nat.zero_le _)]
   by_cases e0:c=0 <;> simp [sizeOf,typeInfo,hinf,cutV,e0]
 ·simp only [Instr.slice,Sem.run_bind,run_underlying ht,Result.andThen]
  rw [hbd c hc]
  by_cases e0:c=lo <;> simp [sizeOf,typeInfo,hinf,cutV,e0]
end cuts
end Go.Ev
namespace Go.Ev
open Go.RowKit
set_option linter.unusedVariables false
set_option linter.unusedSimpArgs false
set_option linter.unusedSectionVars false
def grp (l:List Asr) : Asr where
 p:=fun _ F w=>Now l F w
 keep:=fun _ F w w' hk h=>⟨(star l).keep _ F w w' hk h.st,fun j hj=>by
  have h1:=hk j hj
  rw [Array.getElem?_eq_getElem (h.lt j hj)] at h1
  exact (Array.getElem?_eq_some_iff.1 h1).1⟩
 mono:=fun _ _ _ _ _ h=>h
def exA {β:Type} (q:β→Prop) (a:β→Asr) : Asr where
 p:=fun ι F w=>∃ x,q x∧(a x).p ι F w
 keep:=fun ι F w w' hk ⟨x,h1,h2⟩=>⟨x,h1,(a x).keep ι F w w' hk h2⟩
 mono:=fun ι κ F w hle ⟨x,h1,h2⟩=>⟨x,h1,(a x).mono ι κ F w hle h2⟩
theorem now_open {l m:List Asr} {F:Nat→Prop} {w:World} (h:Now (grp l::m) F w) : Now (l++m) F w:=by
 obtain ⟨Fa,Fl,k1,k2,k3,k4⟩:=now_uncons h
 exact now_same (now_append k1 k2 k3) (fun j=>(k4 j).symm)
theorem now_shut {l m:List Asr} {F:Nat→Prop} {w:World} (h:Now (l++m) F w) : Now (grp l::m) F w:=by
 obtain ⟨F1,F2,h1,h2,h3,h4⟩:=now_split h
 exact now_same (now_cons (a:=grp l) h1 h2 (fun j hj=>h1.lt j hj) h3) (fun j=>(h4 j).symm)
theorem now_ex {β:Type} {q:β→Prop} {a:β→Asr} {m:List Asr} {F:Nat→Prop} {w:World} (h:Now (exA q a::m) F w) : ∃ x,q x∧Now (a x::m) F w:=by
 obtain ⟨Fa,Fl,⟨x,hx,k1⟩,k2,k3,k4⟩:=now_uncons h
 exact ⟨x,hx,now_same (now_cons k1 k2 (fun j hj=>h.lt j ((k4 j).2 (.inl hj))) k3) (fun j=>(k4 j).symm)⟩
section
variable {c:Ctx} {l m:List Asr} {w:World}
theorem Hold.open (h:Hold c (grp l::m) w) : Hold c (l++m) w:=by
 obtain ⟨F,h1,h2,h3⟩:=h.ex
 exact ⟨⟨F,now_open h1,h2,h3⟩⟩
theorem Hold.shut (h:Hold c (l++m) w) : Hold c (grp l::m) w:=by
 obtain ⟨F,h1,h2,h3⟩:=h.ex
 exact ⟨⟨F,now_shut h1,h2,h3⟩⟩
theorem Hold.getX {β:Type} {q:β→Prop} {a:β→Asr} (h:Hold c (exA q a::m) w) : ∃ x,q x∧Hold c (a x::m) w:=by
 obtain ⟨F,h1,h2,h3⟩:=h.ex
 obtain ⟨x,hx,k⟩:=now_ex h1
 exact ⟨x,hx,⟨⟨F,k,h2,h3⟩⟩⟩
theorem Hold.putX {β:Type} {q:β→Prop} {a:β→Asr} (x:β) (hx:q x) (h:Hold c (a x::m) w) : Hold c (exA q a::m) w:=h.head (fun F hF=>⟨x,hx,hF⟩)
end
theorem Hold.step {c:Ctx} {l m r:List Asr} {w w':World} (h:Hold c (l++r) w) (k:∀ F,Now l F w→(∀ j,F j→c.X j∨c.W.heap.size≤j)→Hold ⟨w,F⟩ m w') : Hold c (m++r) w':=by
 obtain ⟨F,h1,h2,h3⟩:=h.ex
 obtain ⟨F1,F2,k1,k2,k3,k4⟩:=now_split h1
 have:=(k F1 k1 (fun j hj=>h3 j ((k4 j).2 (.inl hj)))).frame k2 k3
 exact this.into (l:=l) h2 (fun j hj=>h3 j ((k4 j).2 hj))
end Go.Ev
namespace Go.Ev
open Go.RowKit
set_option linter.unusedVariables false
set_option linter.unusedSimpArgs false
set_option linter.unusedSectionVars false
section
variable {k:Kn} {P:Program} {g g':Nat} {l:List Asr} {ci:Nat} {t u e:TypeId} {sL sS sV n sz m:Nat} {v:Value} {xs:List Value} {i:TypeInfo} {z:Value}
theorem GTrue.append2 {d0 ng:Option Nat} {r x y:Value} (h:letI:Sig:=k.sig; ∀ ι F w d x' y' ty,Ask k g d0 ng ι F w d→VRel ι x x'→VRel ι y y'→VStep P (Builtin.append_ #[t,u] ty #[x',y']) ι d F w r ng) : GTrue k P ⟨[11,t,u],[x,y],none,g,d0,r,ng⟩:=by
  letI:Sig:=k.sig
  intro o hk ev ι F w d hv _ h1 h2 h3 h4
  obtain ⟨a,b,ho⟩:=gk_append hk
  obtain ⟨cs,he⟩:=exec_builtin (ev:=ev) ho rfl
  rw [ho] at hv
  obtain ⟨x',y',e,hx,hy⟩:=ops2 hv
  simp [Op.operands,Call.operands] at e
  obtain ⟨rfl,rfl⟩:=e
  obtain ⟨v',w',r1,r2⟩:=h ι F w d _ _ o.type ⟨h1,h2,h3,h4⟩ hx hy
  refine ⟨.value v',v',w',?_,.inl rfl,r2⟩
  rw [he]
  have hb:builtin .append #[t,u] o.type cs #[ev a,ev b]=(do pure (Next.value (← Builtin.append_ #[t,u] o.type #[ev a,ev b]))):=rfl
  simp only [List.map_toArray,List.map_cons,List.map_nil]
  rw [hb]
  rw [Sem.run_bind,r1]
  rfl
theorem SlR.src {e':Nat} {w:World} (h:SlR sz v m xs w) (hu:P.underlying u=some (.slice e')) (h1:∀ x ∈ xs,x.oneCell'=true) : Src P sz u v m xs w:=by
 obtain ⟨hl,⟨rfl,a,c,rfl⟩ | ⟨b,off,c,rfl,⟨hb,hc⟩,hx⟩⟩:=h
 ·have:xs=[]:=List.eq_nil_of_length_eq_zero (by rw [hl]; simp)
  subst this
  cases a with
  | none=>exact Src.ofNil w hu c
  | some a=>exact Src.ofSlice w hu a 0 c [] (by simp) (fun j x h=>by simp at h) (fun x h=>by cases h)
 ·refine Src.ofSlice w hu ⟨b,off,none⟩ m c xs hl (fun j x hj=>?_) h1
  rw [addMk,hx j (by rw [← hl]; exact (List.getElem?_eq_some_iff.1 hj).1),hj]
theorem rd_sl {d0 ng:Option Nat} (hg:k.gs[g]? = some (star l)) (hi:l[ci]? = some (slA e sz v m xs)) : ∀ ι F w d,Ask k g d0 ng ι F w d→SlR sz v m xs w:=by
 intro ι F w d q
 obtain ⟨Fs,ff,hS,hf,h1⟩:=star_ask hg hi q
 exact SlV.ro h1
theorem app_new {d1 e':Nat} {x vx:Value} (hg:k.gs[g]? = some (star l)) (hg':k.gs[g']? = some (star (l++[atD d1 (fun v'=>slA e sz v' m xs)]))) (hx:IsV k x vx) (hE:EmpV vx) (hS:k.val sS=v) (rd:∀ ι F w d,Ask k g (some d1) (some g') ι F w d→SlR sz v m xs w) (ht:P.underlying t=some (.slice e)) (hu:P.underlying u=some (.slice e')) (hinf:P.info? e=some i) (hsz:i.size=sz) (hz:i.zero=some z) (hzs:z.cells.size=i.size)
  (hb:m * i.bytes≤140737488355328) (hm:m≤1000000000) (h1:∀ x ∈ xs,x.oneCell'=true) : GTrue k P ⟨[11,t,u],[x,sy sS],none,g,some d1,.complex .f32 d1 0,some g'⟩:=by
 subst hsz
 refine GTrue.append2 ?_
 letI:Sig:=k.sig
 intro ι F w d x' y' ty q hxr hyr
 have hsr:=rd ι F w d q
 obtain rfl:=q.name d1 rfl
 obtain ⟨b,q1,q2⟩:=q.st
 rw [hg] at q1
 cases q1
 rw [hx _ _ hxr,vsymR hyr,hS]
 have h0:SlV e i.size vx 0 [] (fun _=>False) w:=⟨by simp,.inl ⟨hE,rfl,fun _ h=>h⟩⟩
 obtain ⟨v2,w2,F2,r1,r2,r3,r4⟩:=SlV.append (ty:=ty) h0 ht hinf hz hzs (hsr.src hu h1) (by rw [Nat.zero_add]; exact hb) (by omega)
 rw [Nat.zero_add,List.nil_append] at r2
 obtain ⟨cc,hcc⟩:=r2.code
 have hup:(ι.upd d1 cc) d1=some cc:=by simp [Ren.upd]
 refine ⟨v2,w2,r1,grow_end hg' q2 q.lt (ask_fresh q) cc ⟨cc,hup,by rw [hcc]; exact r2⟩ ⟨r3.os,r3.tape,r3.output,r3.size,fun j hj=>r3.block j hj (fun h=>h)⟩ (fun j hj=>⟨(r4 j hj).1,(r4 j hj).2.elim (fun h=>h.elim) id⟩) (.dyn d1 cc v2 hup hcc)⟩
theorem one_ints {kd:IntKind} {zs:List Int} : ∀ x ∈ zs.map (Value.int kd),x.oneCell'=true:=by
 intro x hx
 obtain ⟨z,_,rfl⟩:=List.mem_map.1 hx
 rfl
theorem vdynR {k:Kn} {ι:Ren} {d:Nat} {x':Value} (h:letI:Sig:=k.sig; VRel ι (.complex .f32 d 0) x') : ∃ c,ι d=some c∧dec c=x':=by
 letI:Sig:=k.sig
 cases h with
 | dyn id c _ h h'=>exact ⟨c,h,h'⟩
theorem sl_lenD {d1:Nat} (hg:k.gs[g]? = some (star l)) (hi:l[ci]? = some (atD d1 (fun v=>slA e sz v n xs))) (ht:P.underlying t=some (.slice e)) (hsz:i.size=sz) (hV:k.val sV=.int .i64 (n:Int)) : GTrue k P ⟨[10,t],[.complex .f32 d1 0],none,g,none,sy sV,none⟩:=by
 subst hsz
 refine GTrue.len k ?_
 letI:Sig:=k.sig
 intro ι F w d x' ty q hx
 obtain ⟨Fs,ff,hS,hf,c,h0,h1⟩:=star_ask hg hi q
 obtain ⟨c',e0,e1⟩:=vdynR hx
 rw [h0] at e0
 cases e0
 rw [← e1]
 exact ⟨_,w,SlV.len h1 ht ty,rsymR hV,Below.refl _ _⟩
end
end Go.Ev
namespace Go.Proofs.Ytbcnbofkgkheeaa
open Go.RowKit
open Go.Ev (sy)
set_option linter.unusedVariables false
set_option linter.unusedSimpArgs false
def memA (bm:Nat) (m:MemM) : Ev.Asr where
 p:=fun _ F w=>MemAt bm m F w
 keep:=fun _ F w w' hk h=>memAt_keep h hk
 mono:=fun _ _ _ _ _ h=>h
theorem now_one {a:Ev.Asr} {F:Nat→Prop} {w:World} (h:Ev.Now [a] F w) : ∃ Fa,a.p (fun _=>none) Fa w∧∀ j,Fa j→F j:=by
 obtain ⟨Fa,Fl,k1,k2,k3,k4⟩:=Ev.now_uncons h
 exact ⟨Fa,k1,fun j hj=>(k4 j).2 (.inl hj)⟩
theorem mem_hold {bm:Nat} {m:MemM} {F Fa F':Nat→Prop} {w w':World} (hF:∀ j,Fa j→F j) (h:MemAt bm m F' w') (g:Grow Fa F' w w') : Ev.Hold ⟨w,F⟩ [memA bm m] w':=by
 obtain ⟨t,g2⟩:=g
 refine ⟨⟨_,Ev.now_cons (a:=memA bm m) h (Ev.now_nil w') (memAt_lt h) (fun _ _ h=>h),⟨t.os,t.tape,t.output,t.size,fun j hj hn=>t.block j hj (fun hf=>hn (hF j hf))⟩,fun j hj=>?_⟩⟩
 rcases hj with hj | hj
 ·exact (g2 j hj).2.imp (hF j) id
 ·exact hj.elim
def MemM.tick (m:MemM) : MemM:=⟨m.cells,IntKind.u64.wrap (m.ops+1)⟩
def MemM.put (m:MemM) (a:Nat) (v:Int) : MemM:=⟨m.cells.set a v,IntKind.u64.wrap (m.ops+1)⟩
section
variable {bm:Nat} {m:MemM} {F:Nat→Prop} {w:World}
theorem mem_loadH (h:Ev.Now [memA bm m] F w) {a:Nat} {x:Int} (hx:m.cells[a]? = some x) (ha2:(a:Int)≤9223372036854775807) :
  Calls Try.prog 12 #[.pointer (some ⟨bm,0,none⟩),.int .i64 (a:Int)] w fun e w'=>e=.returned (.int .u64 x)∧Ev.Hold ⟨w,F⟩ [memA bm m.tick] w':=by
 obtain ⟨Fa,h1,h2⟩:=now_one h
 obtain ⟨ha,rfl⟩:=List.getElem?_eq_some_iff.1 hx
 refine (load_done h1 ha ha2).mono ?_
 rintro e w' ⟨F',rfl,k1,k2⟩
 exact ⟨rfl,mem_hold h2 k1 k2⟩
theorem mem_storeH (h:Ev.Now [memA bm m] F w) {a:Nat} (ha:a < m.cells.length) (ha2:(a:Int)≤9223372036854775807) (v:Int) :
  Calls Try.prog 25 #[.pointer (some ⟨bm,0,none⟩),.int .i64 (a:Int),.int .u64 v] w fun e w'=>e=.returned (.tuple #[])∧Ev.Hold ⟨w,F⟩ [memA bm (m.put a v)] w':=by
 obtain ⟨Fa,h1,h2⟩:=now_one h
 refine (store_done h1 ha ha2 v).mono ?_
 rintro e w' ⟨F',rfl,k1,k2⟩
 exact ⟨rfl,mem_hold h2 k1 k2⟩
theorem mem_noH (h:Ev.Now [memA bm m] F w) {a:Nat} {x:Int} (hx:m.cells[a]? = some x) (ha2:(a:Int)≤9223372036854775807) (u v:Int) (hy:x ≠ u) :
  Calls Try.prog 114 #[.pointer (some ⟨bm,0,none⟩),.int .i64 (a:Int),.int .u64 u,.int .u64 v] w fun e w'=>e=.returned (.bool false)∧Ev.Hold ⟨w,F⟩ [memA bm m.tick] w':=by
 obtain ⟨Fa,h1,h2⟩:=now_one h
 obtain ⟨ha,rfl⟩:=List.getElem?_eq_some_iff.1 hx
 refine (cas_no h1 ha ha2 u v hy).mono ?_
 rintro e w' ⟨F',rfl,k1,k2⟩
 exact ⟨rfl,mem_hold h2 k1 k2⟩
theorem mem_yesH (h:Ev.Now [memA bm m] F w) {a:Nat} {x:Int} (hx:m.cells[a]? = some x) (ha2:(a:Int)≤9223372036854775807) (u v:Int) (hy:x=u) :
  Calls Try.prog 114 #[.pointer (some ⟨bm,0,none⟩),.int .i64 (a:Int),.int .u64 u,.int .u64 v] w fun e w'=>e=.returned (.bool true)∧Ev.Hold ⟨w,F⟩ [memA bm (m.put a v)] w':=by
 obtain ⟨Fa,h1,h2⟩:=now_one h
 obtain ⟨ha,rfl⟩:=List.getElem?_eq_some_iff.1 hx
 refine (cas_yes h1 ha ha2 u v hy).mono ?_
 rintro e w' ⟨F',rfl,k1,k2⟩
 exact ⟨rfl,mem_hold h2 k1 k2⟩
end
def memL (bm:Nat) (m:MemM) : (Int×Int×Int×Int×Int×Value×Value×Nat×List Value)→List Ev.Asr
 | (c1,c2,c3,c4,c5,lg,cl,n,xl)=>[Ev.blkA bm [.int .u64 m.ops,.int .u64 c1,.int .u64 c2,.int .u64 c3,.int .u64 c4,.int .u64 c5,lg,cl] 102,Ev.slA 30 1 cl m.cells.length (u64s m.cells),Ev.slA 109 4 lg n xl]
theorem mem_open {bm:Nat} {m:MemM} {l:List Ev.Asr} {c:Ev.Ctx} {w:World} (h:Ev.Hold c (memA bm m::l) w) : ∃ x,x.2.2.2.2.2.2.2.1≤256∧Ev.leafV x.2.2.2.2.2.1=true∧Ev.leafV x.2.2.2.2.2.2.1=true∧Ev.Hold c (memL bm m x++l) w:=by
 obtain ⟨F,h1,h2,h3⟩:=h.ex
 obtain ⟨Fa,Fl,⟨c1,c2,c3,c4,c5,lg,cl,n,G,hn,hb,⟨v,xl,F1,F2,e,s1,s2,dj,hG⟩,hnb,hFa⟩,k2,k3,k4⟩:=Ev.now_uncons h1
 have e':v=lg:=e
 subst e'
 refine ⟨(c1,c2,c3,c4,c5,v,cl,n,xl),hn,s1.leaf,s2.leaf,⟨⟨F,Ev.now_same (Ev.now_cons (a:=Ev.blkA bm [.int .u64 m.ops,.int .u64 c1,.int .u64 c2,.int .u64 c3,.int .u64 c4,.int .u64 c5,v,cl] 102) (Fa:=fun j=>j=bm) ⟨fun j=>Iff.rfl,hb⟩ (Ev.now_cons (a:=Ev.slA 30 1 cl m.cells.length (u64s m.cells)) s2 (Ev.now_cons (a:=Ev.slA 109 4 v n xl) s1 k2 (fun j hj=>s1.lt j hj) (fun j hj hl=>k3 j ((hFa j).2 (.inr ((hG j).2 (.inl hj)))) hl)) (fun j hj=>s2.lt j hj) (fun j hj hh=>?_)) (fun j hj=>by rw [hj]; exact (Array.getElem?_eq_some_iff.1 hb).1) (fun j hj hh=>?_)) (fun j=>?_),h2,h3⟩⟩⟩
 ·rcases hh with hh | hh
  ·exact dj j hh hj
  ·exact k3 j ((hFa j).2 (.inr ((hG j).2 (.inr hj)))) hh
 ·subst hj
  rcases hh with hh | hh | hh
  ·exact hnb ((hG j).2 (.inr hh))
  ·exact hnb ((hG j).2 (.inl hh))
  ·exact k3 j ((hFa j).2 (.inl rfl)) hh
 ·rw [k4 j,hFa j,hG j]
  constructor
  ·rintro (h | h | h | h)
   ·exact .inl (.inl h)
   ·exact .inl (.inr (.inr h))
   ·exact .inl (.inr (.inl h))
   ·exact .inr h
  ·rintro ((h | h | h) | h)
   ·exact .inl h
   ·exact .inr (.inr (.inl h))
   ·exact .inr (.inl h)
   ·exact .inr (.inr (.inr h))
theorem mem_shut {bm:Nat} {m:MemM} {l:List Ev.Asr} {c:Ev.Ctx} {w:World} (x:Int×Int×Int×Int×Int×Value×Value×Nat×List Value) (hx:x.2.2.2.2.2.2.2.1≤256) (h:Ev.Hold c (memL bm m x++l) w) : Ev.Hold c (memA bm m::l) w:=by
 obtain ⟨c1,c2,c3,c4,c5,lg,cl,n,xl⟩:=x
 obtain ⟨F,h1,h2,h3⟩:=h.ex
 obtain ⟨Fb,Fr,⟨hb1,hb2⟩,k2,k3,k4⟩:=Ev.now_uncons h1
 obtain ⟨Fc,Fs,s2,j2,j3,j4⟩:=Ev.now_uncons k2
 obtain ⟨Fl,Ft,s1,i2,i3,i4⟩:=Ev.now_uncons j2
 refine ⟨⟨F,Ev.now_same (Ev.now_cons (a:=memA bm m) (Fa:=fun j=>j=bm∨(Fl j∨Fc j)) ⟨c1,c2,c3,c4,c5,lg,cl,n,fun j=>Fl j∨Fc j,hx,hb2,⟨lg,xl,Fl,Fc,rfl,s1,s2,fun j hj hc=>j3 j hc ((i4 j).2 (.inl hj)),fun j=>Iff.rfl⟩,fun hh=>k3 bm ((hb1 bm).2 rfl) ((j4 bm).2 (hh.elim (fun h=>.inr ((i4 bm).2 (.inl h))) .inl)),fun j=>Iff.rfl⟩ i2 (fun j hj=>?_) (fun j hj ht=>?_)) (fun j=>?_),h2,h3⟩⟩
 ·refine h1.lt j ((k4 j).2 ?_)
  rcases hj with h | h | h
  ·exact .inl ((hb1 j).2 h)
  ·exact .inr ((j4 j).2 (.inr ((i4 j).2 (.inl h))))
  ·exact .inr ((j4 j).2 (.inl h))
 ·rcases hj with h | h | h
  ·exact k3 j ((hb1 j).2 h) ((j4 j).2 (.inr ((i4 j).2 (.inr ht))))
  ·exact i3 j h ht
  ·exact j3 j h ((i4 j).2 (.inr ht))
 ·rw [k4 j,j4 j,i4 j,hb1 j]
  constructor
  ·rintro ((h | h | h) | h)
   ·exact .inl h
   ·exact .inr (.inr (.inl h))
   ·exact .inr (.inl h)
   ·exact .inr (.inr (.inr h))
  ·rintro (h | h | h | h)
   ·exact .inl (.inl h)
   ·exact .inl (.inr (.inr h))
   ·exact .inl (.inr (.inl h))
   ·exact .inr h
end Go.Proofs.Ytbcnbofkgkheeaa
namespace Go.Ev
open Go.RowKit
set_option linter.unusedVariables false
set_option linter.unusedSimpArgs false
set_option linter.unusedSectionVars false
theorem gk_make {op:Op} {t:TypeId} (h:gkey op=some [19,t]) : ∃ x y,op=.makeSlice t x y:=by
 unfold gkey at h
 split at h <;> first | (cases h; done) | skip
 all_goals first | (simp at h; done) | skip
 simp at h
 subst h
 exact ⟨_,_,rfl⟩
section
variable {k:Kn} {P:Program} {g g':Nat} {l:List Asr} {t e:TypeId} {n sz:Nat} {i:TypeInfo} {z:Value}
theorem GTrue.make {d0 ng:Option Nat} {r x y:Value} (h:letI:Sig:=k.sig; ∀ ι F w d x' y',Ask k g d0 ng ι F w d→VRel ι x x'→VRel ι y y'→VStep P (Instr.makeSlice t x' y') ι d F w r ng) : GTrue k P ⟨[19,t],[x,y],none,g,d0,r,ng⟩:=by
 letI:Sig:=k.sig
 intro o hk ev ι F w d hv _ h1 h2 h3 h4
 obtain ⟨a,b,ho⟩:=gk_make hk
 rw [ho] at hv
 obtain ⟨x',y',e,hx,hy⟩:=ops2 hv
 simp [Op.operands] at e
 obtain ⟨rfl,rfl⟩:=e
 obtain ⟨v',w',r1,r2⟩:=h ι F w d _ _ ⟨h1,h2,h3,h4⟩ hx hy
 refine ⟨.value v',v',w',?_,.inl rfl,r2⟩
 unfold execOp
 rw [ho]
 simp only
 rw [Sem.run_bind,r1]
 rfl
theorem grown_below {w w':World} (h:w.grownBy w' none) : Below w.heap.size w w':=⟨h.os,h.tape,h.output,h.size,fun j hj=>h.block j hj (by simp)⟩
theorem mk_slice {d1:Nat} {kd kd':IntKind} {x y:Value} (hg:k.gs[g]? = some (star l)) (hg':k.gs[g']? = some (star (l++[atD d1 (fun v=>slA e 1 v n (List.replicate n z))]))) (hx:IsV k x (.int kd (n:Int))) (hy:IsV k y (.int kd' (n:Int))) (ht:P.underlying t=some (.slice e)) (hinf:P.info? e=some i) (hsz:i.size=1) (hz:i.zero=some z) (h1:z.cells = #[z]) (hb:i.bytes * n≤281474976710656) (hn:n≤maxLen) : GTrue k P ⟨[19,t],[x,y],none,g,some d1,.complex .f32 d1 0,some g'⟩:=by
 refine GTrue.make ?_
 letI:Sig:=k.sig
 intro ι F w d x' y' q hxr hyr
 obtain rfl:=q.name d1 rfl
 obtain ⟨b,q1,q2⟩:=q.st
 rw [hg] at q1
 cases q1
 rw [hx _ _ hxr,hy _ _ hyr]
 obtain ⟨w',r1,r2,r3⟩:=run_make_full (P:=P) w w.heap.size t e i z 1 ht hinf hz hsz kd kd' n hb hn (Nat.le_refl _)
 have hsl:SlV e 1 (.slice (some ⟨w.heap.size,0,none⟩) n n) n (List.replicate n z) (fun j=>j=w.heap.size) w':=by
  obtain ⟨s1,s2⟩:=r2
  have hm:(madeCells z.cells (n * 1)).toList=List.replicate n z:=by
   rw [Nat.mul_one,h1]
   refine List.ext_getElem (by simp [madeCells]) (fun j a1 a2=>?_)
   simp [madeCells,Nat.mod_one]
  rw [hm] at s1 s2
  rcases s2 with ⟨h,_⟩ | ⟨gb,cap,cur,hv,hb',hh,c1,c2,c3,c4⟩
  ·cases h
  ·cases hv
   refine ⟨s1,.inr ⟨w.heap.size,0,n,cur,rfl,fun _=>Iff.rfl,hh,fun j hj=>?_,by omega,Nat.le_refl _⟩⟩
   rw [← c4,Nat.zero_add,List.getElem?_take_of_lt hj]
   simp
 obtain ⟨cc,hcc⟩:=hsl.code
 have hup:(ι.upd d1 cc) d1=some cc:=by simp [Ren.upd]
 exact ⟨_,w',r1,grow_end hg' q2 q.lt (ask_fresh q) cc ⟨cc,hup,by rw [hcc]; exact hsl⟩ (grown_below r3) (fun j hj=>⟨hsl.lt j hj,by rw [hj]; exact Nat.le_refl _⟩) (.dyn d1 cc _ hup hcc)⟩
end
end Go.Ev
namespace Go.Ev
open Go.RowKit
theorem argD_here {k:Kn} {d2:Nat} {abs:List Value} {args:List Value} (h:∀ ι l',(letI:Sig:=k.sig; LRel ι abs l')→l'=args) : ∀ ι l',(letI:Sig:=k.sig; LRel ι (.complex .f32 d2 0::abs) l')→∃ c,ι d2=some c∧l'=(fun v=>v::args) (dec c):=by
 letI:Sig:=k.sig
 intro ι l' hl
 match l',hl with
 | [],hl=>exact absurd hl.1 (by simp)
 | x'::m,hl =>
  obtain ⟨c,e1,e2⟩:=vdynR (hl.2 0 _ _ rfl rfl)
  refine ⟨c,e1,?_⟩
  show x'::m=dec c::args
  rw [e2,h ι m ⟨by have:=hl.1; simpa using this,fun i v v' h1 h2=>hl.2 (i+1) v v' (by simpa using h1) (by simpa using h2)⟩]
end Go.Ev
namespace Go.Ev
open Go.RowKit
def HF (d2:Nat) (lpd:List Asr) (lp:Value→List Asr) : Prop:=∀ (ι:Ren) c,ι d2=some c→lpd.length=(lp (dec c)).length∧∀ (i:Nat) a b ff w,lpd[i]? = some a→(lp (dec c))[i]? = some b→a.p ι ff w→b.p (fun _=>none) ff w
theorem hf_nil {d2:Nat} : HF d2 [] (fun _=>[]):=fun ι c hc=>⟨rfl,fun i a b ff w e1 e2=>by cases e1⟩
theorem hf_at {d2:Nat} {a:Value→Asr} {lpd:List Asr} {lp:Value→List Asr} (ha:∀ v,Flat (a v)) (h:HF d2 lpd lp) : HF d2 (atD d2 a::lpd) (fun v=>a v::lp v):=by
 intro ι c hc
 obtain ⟨h1,h2⟩:=h ι c hc
 refine ⟨by simp [h1],fun i x y ff w e1 e2 hx=>?_⟩
 match i with
 | 0 =>
  cases e1
  cases e2
  obtain ⟨c',hc',hx⟩:=hx
  rw [hc] at hc'
  cases hc'
  exact ha _ _ _ _ _ hx
 | i+1=>exact h2 i x y ff w (by simpa using e1) (by simpa using e2) hx
end Go.Ev
namespace Go.Ev
open Go.RowKit
theorem gc_read {k:Kn} {P:Program} {c:Ctx} {f:FuncId} {abs args:List Value} {g:Nat} {gl lp:List Asr} {r rv:Value} (idx:List Nat) (hg:k.gs[g]? = some (star (oldX c.W c.X::gl))) (hsel:selB gl.length idx=true) (hp:sel gl idx=lp) (hf:Flats lp)
  (ha:∀ ι l',(letI:Sig:=k.sig; LRel ι abs l')→l'=args) (hr:∀ ι,(letI:Sig:=k.sig; VRel ι r rv))
  (con:∀ (w:World) (F:Nat→Prop),OldW c.W c.X w→Now lp F w→Calls P f args.toArray w fun e w'=>e=.returned rv∧Below w.heap.size w w') : GCTrue k P ⟨f,abs,g,none,r,none⟩:=by
 letI:Sig:=k.sig
 intro ι args' F w d hl h1 h2 h3 h4
 have e:=ha ι _ hl
 have ea:args'=args.toArray:=by rw [← e]
 subst ea
 obtain ⟨b,q1,q2⟩:=h1
 rw [hg] at q1
 cases q1
 obtain ⟨Fo,Fg,⟨o1,o2⟩,n1,n2,n3⟩:=now_uncons (l:=gl.map (frz ι)) (now_frz q2 h2)
 obtain ⟨F',s1,s2⟩:=now_sel n1 idx (by rw [List.length_map]; exact hsel)
 rw [sel_map,hp] at s1
 have pl:Now lp F' w:=now_map s1 (by simp) (fun i a b ff e1 e2 h=>by
  rw [List.getElem?_map,e2] at e1
  cases e1
  exact flats_get hf b (List.mem_of_getElem? e2) ι _ ff w h)
 refine (con w F' o2 pl).mono ?_
 rintro e' w' ⟨rfl,hb⟩
 exact ⟨_,rfl,hr ι,hb⟩
end Go.Ev
namespace Go.Ev
open Go.RowKit
theorem gk_neq {op:Op} {t:TypeId} (h:gkey op=some [21,t]) : ∃ x y z,op=.binOp .neq t x y z:=by
 unfold gkey at h
 split at h <;> first | (cases h; done) | skip
 all_goals first | (simp at h; done) | skip
 simp at h
 subst h
 exact ⟨_,_,_,rfl⟩
section
variable {k:Kn} {P:Program} {g:Nat} {t:TypeId} {a:Addr} {s:Nat}
theorem ptr_neq (hv:k.val s=.pointer (some a)) (ht:P.underlying t=some (.pointer (P.pointee t))) : GTrue k P ⟨[21,t],[sy s,.pointer none],none,g,none,.bool true,none⟩:=by
 letI:Sig:=k.sig
 intro o hk ev ι F w d hl _ h1 h2 h3 h4
 obtain ⟨x,y,z,ho⟩:=gk_neq hk
 rw [ho] at hl
 obtain ⟨x',y',e,hx,hy⟩:=ops2 hl
 simp [Op.operands] at e
 obtain ⟨rfl,rfl⟩:=e
 refine ⟨.value (.bool true),.bool true,w,?_,.inl rfl,.bool _,Below.refl _ _⟩
 unfold execOp
 rw [ho]
 simp only
 rw [vsymR hx,hv,isNilp _ _ hy]
 simp [eqGuard,run_neq_pointer_nil w t (some a) ht]
end
end Go.Ev
namespace Go.Ev
open Go.RowKit
set_option linter.unusedVariables false
set_option linter.unusedSimpArgs false
theorem gc_ofDD {k:Kn} {P:Program} {c:Ctx} {f:FuncId} {abs:List Value} {args:Value→List Value} {g g' d1 d2:Nat} {gl lpd:List Asr} {lp:Value→List Asr} {r:Value} {ret:Value→Value} (fs:List (Value→Asr)) (idx rest:List Nat) (hg:k.gs[g]? = some (star (oldX c.W c.X::gl))) (hg':k.gs[g']? = some (star (oldX c.W c.X::(fs.map (atD d1)++sel gl rest)))) (hsel:selB gl.length (idx++rest)=true) (hp:sel gl idx=lpd)
  (hf:∀ (ι:Ren) c,ι d2=some c→lpd.length=(lp (dec c)).length∧∀ (i:Nat) a b ff w,lpd[i]? = some a→(lp (dec c))[i]? = some b→a.p ι ff w→b.p (fun _=>none) ff w)
  (ha:∀ ι l',(letI:Sig:=k.sig; LRel ι abs l')→∃ c,ι d2=some c∧l'=args (dec c)) (hr:∀ (ι:Ren) cd,ι d1=some cd→(letI:Sig:=k.sig; VRel ι r (ret (dec cd))))
  (con:∀ (v:Value) (w:World) (F:Nat→Prop),OldW c.W c.X w→Now (lp v) F w→(∀ j,F j→c.X j∨c.W.heap.size≤j)→Calls P f (args v).toArray w fun e w'=>∃ u cd,dec cd=u∧e=.returned (ret u)∧Hold ⟨w,F⟩ (fs.map (fun f=>f u)) w') : GCTrue k P ⟨f,abs,g,some d1,r,some g'⟩:=by
 letI:Sig:=k.sig
 intro ι args' F w d hl h1 h2 h3 h4
 obtain ⟨cd2,hcd2,e⟩:=ha ι _ hl
 have ea:args'=(args (dec cd2)).toArray:=by rw [← e]
 subst ea
 obtain ⟨b,q1,q2⟩:=h1
 rw [hg] at q1
 cases q1
 obtain rfl:=h4 d1 rfl
 have hd:ι d1=none:=h3.elim id (fun h=>by cases h)
 obtain ⟨Fo,Fg,⟨o1,o2⟩,n1,n2,n3⟩:=now_uncons (l:=gl.map (frz ι)) (now_frz q2 h2)
 obtain ⟨F',s1,s2⟩:=now_sel n1 (idx++rest) (by rw [List.length_map]; exact hsel)
 have hsp:sel (gl.map (frz ι)) (idx++rest)=lpd.map (frz ι)++(sel gl rest).map (frz ι):=by
  rw [sel_map,← hp,← List.map_append]
  unfold sel
  rw [List.map_append]
 rw [hsp] at s1
 obtain ⟨F1,F2,p1,p2,p3,p4⟩:=now_split s1
 obtain ⟨hlen0,hconv⟩:=hf ι cd2 hcd2
 have pl:Now (lp (dec cd2)) F1 w:=now_map p1 (by simp [hlen0]) (fun i a b ff e1 e2 h=>by
  rw [List.getElem?_map] at e1
  cases hb:lpd[i]? with
  | none=>rw [hb] at e1; cases e1
  | some a' =>
   rw [hb] at e1
   cases e1
   exact hconv i a' b ff w hb e2 h)
 have hFg:∀ j,Fg j→c.X j∨c.W.heap.size≤j:=fun j hj=>by
  rcases Nat.lt_or_ge j c.W.heap.size with h | h
  ·exact .inl (Classical.byContradiction fun hx=>n2 j ((o1 j).2 ⟨h,hx⟩) hj)
  ·exact .inr h
 refine (con (dec cd2) w F1 o2 pl (fun j hj=>hFg j (s2 j ((p4 j).2 (.inl hj))))).mono ?_
 rintro e' w' ⟨u,cd,rfl,rfl,hh⟩
 obtain ⟨G,g1,g2,g3⟩:=hh.ex
 have notF1:∀ j,Fo j→¬ F1 j:=fun j ho hf1=>n2 j ho (s2 j ((p4 j).2 (.inl hf1)))
 have kr:Now ((sel gl rest).map (frz ι)) F2 w':=now_keep p2 (fun j hj=>g2.block j (p2.lt j hj) (fun h=>p3 j h hj)) g2.size
 have lt0:∀ j,Fo j→j < w.heap.size:=fun j hj=>h2 j ((n3 j).2 (.inl hj))
 have disG:∀ j,G j→¬ F2 j:=fun j hj hf2=>by
  rcases g3 j hj with h | h
  ·exact p3 j h hf2
  ·have h0:w.heap.size≤j:=h
   have:=p2.lt j hf2
   omega
 have all:=now_cons (a:=oldX c.W c.X) (Fa:=Fo) ⟨o1,fun j hj hx=>(g2.block j (lt0 j ((o1 j).2 ⟨hj,hx⟩)) (notF1 j ((o1 j).2 ⟨hj,hx⟩))).trans (o2 j hj hx)⟩ (now_append g1 kr disG) (fun j hj=>Nat.lt_of_lt_of_le (lt0 j hj) g2.size) (fun j hj hx=>by
  rcases hx with hx | hx
  ·rcases g3 j hx with h | h
   ·exact notF1 j hj h
   ·have h0:w.heap.size≤j:=h
    have:=lt0 j hj
    omega
  ·exact n2 j hj (s2 j ((p4 j).2 (.inr hx))))
 have hup:(ι.upd d1 cd) d1=some cd:=by simp [Ren.upd]
 refine ⟨ret (dec cd),rfl,cd,_,hr _ cd hup,⟨_,hg',star_of all (by simp) (fun i a b ff e1 e2 h=>?_)⟩,⟨g2.os,g2.tape,g2.output,g2.size,fun j hj hn=>g2.block j hj (fun hf=>hn ((n3 j).2 (.inr (s2 j ((p4 j).2 (.inl hf))))))⟩,fun j hj=>⟨all.lt j hj,?_⟩⟩
 ·match i with
  | 0=>cases e1; cases e2; exact h
  | i+1 =>
   rw [List.getElem?_cons_succ] at e1 e2
   rcases Nat.lt_or_ge i fs.length with hi | hi
   ·rw [List.getElem?_append_left (by simpa using hi),List.getElem?_map] at e1 e2
    cases hfi:fs[i]? with
    | none=>rw [hfi] at e1; cases e1
    | some q =>
     rw [hfi] at e1 e2
     cases e1
     cases e2
     exact ⟨cd,hup,(q (dec cd)).mono _ _ ff w' (fun _ _ e=>by cases e) h⟩
   ·rw [List.getElem?_append_right (by simpa using hi),List.getElem?_map] at e1
    rw [List.getElem?_append_right (by simpa using hi)] at e2
    simp only [List.length_map] at e1 e2
    rw [e2] at e1
    cases e1
    exact b.mono ι _ ff w' (Ren.upd_le (b:=cd) hd) h
 ·rcases hj with hj | hj | hj
  ·exact .inl ((n3 j).2 (.inl hj))
  ·rcases g3 j hj with h | h
   ·exact .inl ((n3 j).2 (.inr (s2 j ((p4 j).2 (.inl h)))))
   ·exact .inr h
  ·exact .inl ((n3 j).2 (.inr (s2 j ((p4 j).2 (.inr hj)))))
theorem gc_dynM {k:Kn} {P:Program} {c:Ctx} {f:FuncId} {abs args:List Value} {g g' d1:Nat} {gl lp:List Asr} {r:Value} {ret:Value→Value} (fs:List (Value→Asr)) (lq:List Asr) (idx rest:List Nat) (hg:k.gs[g]? = some (star (oldX c.W c.X::gl))) (hg':k.gs[g']? = some (star (oldX c.W c.X::((fs.map (atD d1)++lq)++sel gl rest)))) (hsel:selB gl.length (idx++rest)=true) (hp:sel gl idx=lp) (hf:Flats lp)
  (ha:∀ ι l',(letI:Sig:=k.sig; LRel ι abs l')→l'=args) (hr:∀ (ι:Ren) cd,ι d1=some cd→(letI:Sig:=k.sig; VRel ι r (ret (dec cd))))
  (con:∀ (w:World) (F:Nat→Prop),OldW c.W c.X w→Now lp F w→(∀ j,F j→c.X j∨c.W.heap.size≤j)→Calls P f args.toArray w fun e w'=>∃ v cd,dec cd=v∧e=.returned (ret v)∧Hold ⟨w,F⟩ (fs.map (fun f=>f v)++lq) w') : GCTrue k P ⟨f,abs,g,some d1,r,some g'⟩:=by
 refine gc_dyn (lq:=fun v=>fs.map (fun f=>f v)++lq) idx rest hg hg' hsel hp hf ha hr (fun ι cd w' hi=>⟨by simp,fun i a b ff h1 h2 h=>?_⟩) con
 rcases Nat.lt_or_ge i fs.length with h0 | h0
 ·rw [List.getElem?_append_left (by simpa using h0),List.getElem?_map] at h1 h2
  cases hfi:fs[i]? with
  | none=>rw [hfi] at h1; cases h1
  | some q =>
   rw [hfi] at h1 h2
   cases h1
   cases h2
   exact ⟨cd,hi,(q (dec cd)).mono _ _ ff w' (fun _ _ e=>by cases e) h⟩
 ·rw [List.getElem?_append_right (by simpa using h0)] at h1 h2
  simp only [List.length_map] at h1 h2
  rw [h1] at h2
  cases h2
  exact a.mono _ _ ff w' (fun _ _ e=>by cases e) h
theorem Pie.as {P:Program} {f:FuncId} {p:List Nat} {i k N:Nat} {c:Ctx} {tm tm2:List (Nat×Value)} {l l2:List Asr} {ex:Exit} {α:Type} {tm' tm2':α→List (Nat×Value)} {l':α→List Asr} (h:Pie P f p i k N c tm l ex tm' l') (e1:tm=tm2) (e2:l=l2) (e3:tm'=tm2') : Pie P f p i k N c tm2 l2 ex tm2' l':=by
 subst e1 e2 e3
 exact h
end Go.Ev
namespace Go.Ev
open Go.RowKit
set_option linter.unusedVariables false
set_option linter.unusedSimpArgs false
abbrev iz (n:Int) : Value:=.int .i64 n
abbrev uz (n:Int) : Value:=.int .u64 n
abbrev wz (n:Int) : Value:=.int .u32 n
abbrev iN (n:Nat) : Value:=.int .i64 (n:Int)
abbrev uN (n:Nat) : Value:=.int .u64 (n:Int)
abbrev wN (n:Nat) : Value:=.int .u32 (n:Int)
abbrev pz (b:Nat) : Value:=.pointer (some ⟨b,0,none⟩)
abbrev dv (κ:Ren) (n:Nat) : Value:=dec ((κ n).getD 0)
theorem fc {α:Type} {p:α→Prop} {a:α} {l:List α} (h:p a) (t:∀ x ∈ l,p x) : ∀ x ∈ a::l,p x:=List.forall_mem_cons.2 ⟨h,t⟩
theorem fn {α:Type} {p:α→Prop} : ∀ x ∈ ([] : List α),p x:=List.forall_mem_nil p
def vg:List Value→Nat→Value
 | [],_=>.int .i64 0
 | a::_,0=>a
 | _::l,n+1=>vg l n
theorem vg_leaf:∀ {l:List Value},(∀ x ∈ l,leafV x=true)→∀ n,leafV (vg l n)=true
 | [],_,n=>rfl
 | a::l,h,0=>h a (List.mem_cons_self ..)
 | a::l,h,n+1=>vg_leaf (fun x hx=>h x (List.mem_cons_of_mem _ hx)) n
abbrev kn (vs:List Value) (lf:∀ x ∈ vs,leafV x=true) (bs:List BFact) (us:List UFact) (cs:List CFact) (hb:∀ q ∈ bs,BTrue (vg vs) q) (hu:∀ q ∈ us,UTrue (vg vs) q) (hc:∀ q ∈ cs,CTrue (vg vs) q) (W:World) (X:Nat→Prop) (gs:List (List Asr)) (ops:List GRow) (cls:List GCRow) : Kn :=
 ⟨vg vs,vg_leaf lf,bs,us,cs,[],hb,hu,hc,gs.map (fun l=>star (oldX W X::l)),ops,cls⟩
noncomputable def knD (d:Option Nat) : Nat→Value→Bool
 | 0,_=>false
 | n+1,v=>match v with
  | .agg f=>f.toList.all (knD d n)
  | .tuple f=>f.toList.all (knD d n)
  | .iface _ v=>knD d n v
  | .complex .f64 _ _=>true
  | .complex .f32 e 0=>(match d with | some d=>Nat.beq d e | none=>false)
  | .complex .f32 e (_+2)=>(match d with | some d=>Nat.beq d e | none=>false)
  | .bool _ | .int _ _ | .string _=>true
  | .pointer none | .slice none 0 0 | .map none=>true
  | _=>false
def cvG [Sig] (cd:Nat) : Nat→Value→Value
 | 0,v=>v
 | n+1,v=>match v with
  | .agg f=>.agg (f.toList.map (cvG cd n)).toArray
  | .tuple f=>.tuple (f.toList.map (cvG cd n)).toArray
  | .iface t v=>.iface t (cvG cd n v)
  | .complex .f64 s _=>Sig.val s
  | .complex .f32 _ 0=>dec cd
  | .complex .f32 _ (j+2)=>subV j (dec cd)
  | v=>v
theorem rel_arr [Sig] {ι:Ren} {d:Option Nat} {cd n:Nat} {f:Array Value} (hk:f.toList.all (knD d n)=true) (ih:∀ v,knD d n v=true→VRel ι v (cvG cd n v)) : f.size=(f.toList.map (cvG cd n)).toArray.size∧∀ (i:Nat) (v v':Value),f[i]? = some v→(f.toList.map (cvG cd n)).toArray[i]? = some v'→VRel ι v v':=by
 rw [List.all_eq_true] at hk
 refine ⟨by simp,fun i v v' h1 h2=>?_⟩
 have h3:v'=cvG cd n v:=by
  have h1':f.toList[i]? = some v:=by simpa using h1
  simp only [List.getElem?_toArray,List.getElem?_map,h1',Option.map_some,Option.some.injEq] at h2
  exact h2.symm
 rw [h3]
 exact ih v (hk v (by rw [Array.mem_toList_iff]; exact Array.mem_of_getElem? h1))
theorem rel_kn [Sig] {ι:Ren} {d:Option Nat} {cd:Nat} (hd:∀ e,d=some e→ι e=some cd) : ∀ (n:Nat) (v:Value),knD d n v=true→VRel ι v (cvG cd n v):=by
 intro n
 induction n with
 | zero=>exact fun v h=>by cases h
 | succ n ih =>
  intro v h
  match v,h with
  | .agg f,h=>exact .agg _ _ (rel_arr h ih).1 (rel_arr h ih).2
  | .tuple f,h=>exact .tuple _ _ (rel_arr h ih).1 (rel_arr h ih).2
  | .iface t v,h=>exact .iface t _ _ (ih v h)
  | .complex .f64 s j,h=>exact .sym s j _ rfl
  | .complex .f32 e 0,h =>
   cases hdd:d with
   | none=>rw [hdd] at h; cases h
   | some x =>
    rw [hdd] at h
    have he:x=e:=Nat.eq_of_beq_eq_true h
    exact .dyn e cd _ (hd e (by rw [hdd,he])) rfl
  | .complex .f32 e 1,h=>cases h
  | .complex .f32 e (j+2),h =>
   cases hdd:d with
   | none=>rw [hdd] at h; cases h
   | some x =>
    rw [hdd] at h
    have he:x=e:=Nat.eq_of_beq_eq_true h
    exact .dyn3 e cd j _ (hd e (by rw [hdd,he])) rfl
  | .bool b,h=>exact .bool b
  | .int k m,h=>exact .int k m
  | .string s,h=>exact .string s
  | .pointer none,h=>exact .ptr0
  | .slice none 0 0,h=>exact .slice0
  | .map none,h=>exact .map0
theorem cv_arr [Sig] {ι:Ren} {n:Nat} {f f':Array Value} (hf:f.size=f'.size) (h:∀ (i:Nat) (v v':Value),f[i]? = some v→f'[i]? = some v'→VRel ι v v') (hk:f.toList.all (knD none n)=true) (ih:∀ v v',knD none n v=true→VRel ι v v'→v'=cvG 0 n v) : f'=(f.toList.map (cvG 0 n)).toArray:=by
 rw [List.all_eq_true] at hk
 apply Array.ext (by simp [hf])
 intro i h1 h2
 have h3:i < f.size:=by rw [hf]; exact h1
 rw [ih f[i] f'[i] (hk _ (by simp)) (h i _ _ (Array.getElem?_eq_getElem h3) (Array.getElem?_eq_getElem h1))]
 simp
theorem cv_kn [Sig] {ι:Ren} : ∀ (n:Nat) (v v':Value),knD none n v=true→VRel ι v v'→v'=cvG 0 n v:=by
 intro n
 induction n with
 | zero=>exact fun v v' h=>by cases h
 | succ n ih =>
  intro v v' hk h
  cases h with
  | agg f f' hf hr=>exact congrArg Value.agg (cv_arr hf hr hk ih)
  | tuple f f' hf hr=>exact congrArg Value.tuple (cv_arr hf hr hk ih)
  | iface t v v' hr=>exact congrArg (Value.iface t) (ih _ _ hk hr)
  | sym m j _ h=>exact h.symm
  | dyn id c _ h h'=>cases hk
  | dyn3 id c j _ h h'=>cases hk
  | junk m _ h=>cases hk
  | bool=>rfl
  | int=>rfl
  | string=>rfl
  | ptr0=>rfl
  | slice0=>rfl
  | map0=>rfl
  | _=>cases hk
theorem ak {k:Kn} {abs args:List Value} (h:abs.all (knD none 5)=true) (e:abs.map (@cvG k.sig 0 5)=args) : ∀ ι l',(letI:Sig:=k.sig; LRel ι abs l')→l'=args:=by
 letI:Sig:=k.sig
 intro ι l' hl
 rw [← e]
 rw [List.all_eq_true] at h
 apply List.ext_getElem (by rw [List.length_map]; exact hl.1.symm)
 intro i h1 h2
 have h3:i < abs.length:=by simpa using h2
 rw [List.getElem_map]
 exact cv_kn 5 _ _ (h _ (List.getElem_mem h3)) (hl.2 i _ _ (List.getElem?_eq_getElem h3) (List.getElem?_eq_getElem h1))
theorem vk {k:Kn} {ι:Ren} {r rv:Value} (h:knD none 5 r=true) (e:@cvG k.sig 0 5 r=rv) : letI:Sig:=k.sig; VRel ι r rv:=by
 letI:Sig:=k.sig
 rw [← e]
 exact rel_kn (d:=none) (fun _ h=>by cases h) 5 r h
theorem vd {k:Kn} {ι:Ren} {d cd:Nat} {r rv:Value} (hd:ι d=some cd) (h:knD (some d) 5 r=true) (e:@cvG k.sig cd 5 r=rv) : letI:Sig:=k.sig; VRel ι r rv:=by
 letI:Sig:=k.sig
 rw [← e]
 exact rel_kn (d:=some d) (fun _ h=>by cases h; exact hd) 5 r h
end Go.Ev
namespace Go.Ev
open Go.RowKit
set_option linter.unusedVariables false
set_option linter.unusedSimpArgs false
theorem fr {l:List Value} (h:l.all leafV=true:=by kernel_rfl) : ∀ x ∈ l,leafV x=true:=fun x hx=>List.all_eq_true.1 h x hx
section
variable {vs:List Value} {lf:∀ x ∈ vs,leafV x=true} {bs:List BFact} {us:List UFact} {cs:List CFact} {hb:∀ q ∈ bs,BTrue (vg vs) q} {hu:∀ q ∈ us,UTrue (vg vs) q} {hc:∀ q ∈ cs,CTrue (vg vs) q} {W:World} {X:Nat→Prop} {gs:List (List Asr)} {ops:List GRow} {cls:List GCRow} {P:Program} {f:FuncId} {abs args:List Value} {g g' d1:Nat} {gl:List Asr} {r rv:Value} {ret:Value→Value}
theorem kn_gs {gl:List Asr} {g:Nat} (h:gs[g]? = some gl) : (kn vs lf bs us cs hb hu hc W X gs ops cls).gs[g]? = some (star (oldX W X::gl)):=by
 show (gs.map (fun l=>star (oldX W X::l)))[g]? = _
 rw [List.getElem?_map,h]
 rfl
theorem pc (hg:gs[g]? = some gl) (con:∀ w,OldW W X w→Calls P f args.toArray w fun e w'=>e=.returned rv∧Below w.heap.size w w') (h:(abs.all (knD none 5) && knD none 5 r)=true:=by kernel_rfl) (e1:abs.map (@cvG (kn vs lf bs us cs hb hu hc W X gs ops cls).sig 0 5)=args:=by kernel_rfl) (e2:@cvG (kn vs lf bs us cs hb hu hc W X gs ops cls).sig 0 5 r=rv:=by kernel_rfl) : GCTrue (kn vs lf bs us cs hb hu hc W X gs ops cls) P ⟨f,abs,g,none,r,none⟩:=by
 rw [Bool.and_eq_true] at h
 exact ro_callR (ci:=0) (kn_gs hg) rfl con (fun ι=>vk h.2 e2) (ak h.1 e1)
theorem cc (hg:gs[g]? = some gl) (lq:List Asr) (idx rest:List Nat) (con:∀ (w:World) (F:Nat→Prop),OldW W X w→Now (sel gl idx) F w→(∀ j,F j→X j∨W.heap.size≤j)→Calls P f args.toArray w fun e w'=>e=.returned rv∧Hold ⟨w,F⟩ lq w') (hg':gs[g']? = some (lq++sel gl rest):=by rfl) (hsel:selB gl.length (idx++rest)=true:=by kernel_rfl) (hf:Flats (sel gl idx):=by first | exact trivial | exact ⟨fun _ _ _ _ h=>h,trivial⟩ | exact ⟨fun _ _ _ _ h=>h,fun _ _ _ _ h=>h,trivial⟩ | exact ⟨fun _ _ _ _ h=>h,fun _ _ _ _ h=>h,fun _ _ _ _ h=>h,trivial⟩)
  (h:(abs.all (knD none 5) && knD none 5 r)=true:=by kernel_rfl) (e1:abs.map (@cvG (kn vs lf bs us cs hb hu hc W X gs ops cls).sig 0 5)=args:=by kernel_rfl) (e2:@cvG (kn vs lf bs us cs hb hu hc W X gs ops cls).sig 0 5 r=rv:=by kernel_rfl) : GCTrue (kn vs lf bs us cs hb hu hc W X gs ops cls) P ⟨f,abs,g,none,r,some g'⟩:=by
 rw [Bool.and_eq_true] at h
 exact gc_con (c:=⟨W,X⟩) idx rest (kn_gs hg) (kn_gs hg') hsel rfl hf (ak h.1 e1) (fun ι=>vk h.2 e2) con
theorem cr (hg:gs[g]? = some gl) (idx:List Nat) (con:∀ (w:World) (F:Nat→Prop),OldW W X w→Now (sel gl idx) F w→Calls P f args.toArray w fun e w'=>e=.returned rv∧Below w.heap.size w w') (hsel:selB gl.length idx=true:=by kernel_rfl) (hf:Flats (sel gl idx):=by first | exact trivial | exact ⟨fun _ _ _ _ h=>h,trivial⟩ | exact ⟨fun _ _ _ _ h=>h,fun _ _ _ _ h=>h,trivial⟩ | exact ⟨fun _ _ _ _ h=>h,fun _ _ _ _ h=>h,fun _ _ _ _ h=>h,trivial⟩)
  (h:(abs.all (knD none 5) && knD none 5 r)=true:=by kernel_rfl) (e1:abs.map (@cvG (kn vs lf bs us cs hb hu hc W X gs ops cls).sig 0 5)=args:=by kernel_rfl) (e2:@cvG (kn vs lf bs us cs hb hu hc W X gs ops cls).sig 0 5 r=rv:=by kernel_rfl) : GCTrue (kn vs lf bs us cs hb hu hc W X gs ops cls) P ⟨f,abs,g,none,r,none⟩:=by
 rw [Bool.and_eq_true] at h
 exact gc_read (c:=⟨W,X⟩) idx (kn_gs hg) hsel rfl hf (ak h.1 e1) (fun ι=>vk h.2 e2) con
theorem cm (hg:gs[g]? = some gl) (fs:List (Value→Asr)) (lq:List Asr) (idx rest:List Nat) (con:∀ (w:World) (F:Nat→Prop),OldW W X w→Now (sel gl idx) F w→(∀ j,F j→X j∨W.heap.size≤j)→Calls P f args.toArray w fun e w'=>∃ v cd,dec cd=v∧e=.returned (ret v)∧Hold ⟨w,F⟩ (fs.map (fun f=>f v)++lq) w') (hg':gs[g']? = some ((fs.map (atD d1)++lq)++sel gl rest):=by rfl) (hsel:selB gl.length (idx++rest)=true:=by kernel_rfl) (hf:Flats (sel gl idx):=by first | exact trivial | exact ⟨fun _ _ _ _ h=>h,trivial⟩ | exact ⟨fun _ _ _ _ h=>h,fun _ _ _ _ h=>h,trivial⟩ | exact ⟨fun _ _ _ _ h=>h,fun _ _ _ _ h=>h,fun _ _ _ _ h=>h,trivial⟩)
  (h:(abs.all (knD none 5) && knD (some d1) 5 r)=true:=by kernel_rfl) (e1:abs.map (@cvG (kn vs lf bs us cs hb hu hc W X gs ops cls).sig 0 5)=args:=by kernel_rfl) (e2:(fun cd=>@cvG (kn vs lf bs us cs hb hu hc W X gs ops cls).sig cd 5 r)=(fun cd=>ret (dec cd)):=by kernel_rfl) : GCTrue (kn vs lf bs us cs hb hu hc W X gs ops cls) P ⟨f,abs,g,some d1,r,some g'⟩:=by
 rw [Bool.and_eq_true] at h
 exact gc_dynM (c:=⟨W,X⟩) fs lq idx rest (kn_gs hg) (kn_gs hg') hsel rfl hf (ak h.1 e1) (fun ι cd hcd=>vd hcd h.2 (congrFun e2 cd)) con
theorem cd (hg:gs[g]? = some gl) (fs:List (Value→Asr)) (idx rest:List Nat) (con:∀ (w:World) (F:Nat→Prop),OldW W X w→Now (sel gl idx) F w→(∀ j,F j→X j∨W.heap.size≤j)→Calls P f args.toArray w fun e w'=>∃ v cd,dec cd=v∧e=.returned (ret v)∧Hold ⟨w,F⟩ (fs.map (fun f=>f v)) w') (hg':gs[g']? = some (fs.map (atD d1)++sel gl rest):=by rfl) (hsel:selB gl.length (idx++rest)=true:=by kernel_rfl) (hf:Flats (sel gl idx):=by first | exact trivial | exact ⟨fun _ _ _ _ h=>h,trivial⟩ | exact ⟨fun _ _ _ _ h=>h,fun _ _ _ _ h=>h,trivial⟩ | exact ⟨fun _ _ _ _ h=>h,fun _ _ _ _ h=>h,fun _ _ _ _ h=>h,trivial⟩)
  (h:(abs.all (knD none 5) && knD (some d1) 5 r)=true:=by kernel_rfl) (e1:abs.map (@cvG (kn vs lf bs us cs hb hu hc W X gs ops cls).sig 0 5)=args:=by kernel_rfl) (e2:(fun cd=>@cvG (kn vs lf bs us cs hb hu hc W X gs ops cls).sig cd 5 r)=(fun cd=>ret (dec cd)):=by kernel_rfl) : GCTrue (kn vs lf bs us cs hb hu hc W X gs ops cls) P ⟨f,abs,g,some d1,r,some g'⟩:=by
 rw [Bool.and_eq_true] at h
 exact gc_dynL (c:=⟨W,X⟩) fs idx rest (kn_gs hg) (kn_gs hg') hsel rfl hf (ak h.1 e1) (fun ι cd hcd=>vd hcd h.2 (congrFun e2 cd)) con
end
end Go.Ev
namespace Go.Proofs.Ytbcnbofkgkheeaa
open Go.RowKit
open Go.Ev (sy)
set_option linter.unusedVariables false
set_option linter.unusedSimpArgs false
set_option maxRecDepth 8000
theorem info_z {P:Program} {t:TypeId} {z:Value} {n b:Nat} (h:(P.info? t).map (fun i=>(i.zero,i.size,i.bytes))=some (some z,n,b)) : ∃ i,P.info? t=some i∧i.size=n∧i.zero=some z∧i.bytes=b:=by
 cases hi:P.info? t with
 | none=>rw [hi] at h; cases h
 | some i =>
  rw [hi] at h
  simp only [Option.map_some,Option.some.injEq,Prod.mk.injEq] at h
  exact ⟨i,rfl,h.2.1,h.1,h.2.2⟩
theorem infInt:∃ i,Try.prog.info? 3 = some i∧i.size=1∧i.zero=some (.int .i64 0)∧i.bytes=8:=info_z (by kernel_rfl)
theorem infU64:∃ i,Try.prog.info? 30 = some i∧i.size=1∧i.zero=some (.int .u64 0)∧i.bytes=8:=info_z (by kernel_rfl)
theorem loadInt:Ev.LoadOne Try.prog 3:=by
 intro b o x w h
 simp [Instr.loadAt,Instr.sureAddr,loadVar,isAgg,run_underlying Try.underlying3,h]
theorem loadU64:Ev.LoadOne Try.prog 30:=by
 intro b o x w h
 simp [Instr.loadAt,Instr.sureAddr,loadVar,isAgg,run_underlying Try.underlying30,h]
theorem cells_one {x:Value} (h:x.oneCell'=true) : x.cells = #[x]:=by cases x <;> first | rfl | cases h
theorem storeU64:Ev.StoreOne Try.prog 30:=by
 intro b o x x0 w h hf hc
 simp [Instr.storeAt,Instr.sureAddr,storeVar,isAgg,run_underlying Try.underlying30,h,cells_one hc,storeCells,run_store _ _ _ _ _ hc,hf,Ev.addMk]
theorem wrap_ok {n:Int} (h1:-9223372036854775808≤n) (h2:n≤9223372036854775807) : IntKind.i64.wrap n=n:=by
 unfold IntKind.wrap
 simp [IntKind.signed,IntKind.bits]
 omega
def ints (xs:List Int) : List Value:=xs.map (Value.int .i64)
theorem u64s_set (xs:List Int) (a:Nat) (v:Int) : (u64s xs).set (a * 1) (.int .u64 v)=u64s (xs.set a v):=by simp [u64s,List.map_set]
theorem startP {w:World} {F:Nat→Prop} {l:List Ev.Asr} {N:Nat} {f:FuncId} {args:Array Value} {tm:List (Nat×Value)} {α:Type} {r:α→Value} {l':α→List Ev.Asr} {R:Ending→World→Prop} (hp:Ev.PieE Try.prog f [] 0 N ⟨w,F⟩ tm l r l') (hN:Ev.withB Try.prog (fun B=>Ev.segB B f [] (fun fn _=>Nat.beq fn.ntmps N))=true) (h:Ev.Now l F w) (ha:args.size≤N) (ht:∀ p ∈ tm,args[p.1]? = some p.2) (hR:∀ x w1,Ev.Hold ⟨w,F⟩ (l' x) w1→R (.returned (r x)) w1) : Calls Try.prog f args w R :=
 Ev.con_start hN h ha ht (fun A hA=>hp A w _ hA hR)
theorem hold_leaf {c:Ev.Ctx} {e:TypeId} {sz n:Nat} {v:Value} {xs:List Value} {l:List Ev.Asr} {w:World} (h:Ev.Hold c (Ev.slA e sz v n xs::l) w) : Ev.leafV v=true:=by
 obtain ⟨f,hf⟩:=h.first
 exact Ev.SlV.leaf hf
theorem tr {N i kk:Nat} {f:FuncId} {p:List Nat} {c:Ev.Ctx} (k:Ev.Kn) (ho:∀ q ∈ k.ops,Ev.GTrue k Try.prog q) (hl:∀ q ∈ k.cls,Ev.GCTrue k Try.prog q) (hs:k.ks=[]) (rn:List (Nat×Nat)) (bl bl1:List Ev.Blk) (g':Nat) {gl gl':List Ev.Asr} (hg:k.gs[0]? = some (Ev.star (Ev.oldX c.W c.X::gl))) (hg':k.gs[g']? = some (Ev.star (Ev.oldX c.W c.X::gl'))) (live0 live1:List (Nat×Value)) (ex:Exit) (hk:Ev.knowB rn live0 bl live1 bl1=true:=by kernel_rfl)
  (run:∀ gb:Nat→Value,letI:Ev.Sig:=k.sig; Ev.withB Try.prog (fun B=>Ev.segB B f p (fun _ c=>Nat.beq (Ev.tmL gb N 0 live0).length N && (Nat.ble N 4094 && (Ev.idsB 100 rn bl && Ev.segIs ex live1 bl1 g' (Ev.fromK (Ev.tmL gb N 0 live0) 0 .leaf (fun t=>Ev.pieceF B 400 N kk ((Ev.flat c).drop i) t (Ev.stOf (Ev.objsOf bl 0) 100)))))))=true:=by intro gb; kernel_rfl) :
  letI:Ev.Sig:=k.sig; Ev.Pie Try.prog f p i kk N c (live0.map (Ev.cvp (Ev.renOf rn))) (bl.map (Ev.blkOf (Ev.renOf rn))++gl) ex (fun κ:Ev.Ren=>live1.map (Ev.cvp (Ev.ovr rn κ))) (fun κ:Ev.Ren=>bl1.map (Ev.blkOf (Ev.ovr rn κ))++gl'.map (Ev.frz (Ev.ovr rn κ))) :=
 Ev.tri Try.codeOk mixed_ok k (Ev.Kn.ok k (fun q hq=>by rw [hs] at hq; cases hq) ho hl) (n:=400) (m:=100) rn bl bl1 0 g' gl gl' hg hg' live0 live1 ex hk run
theorem trE {N i:Nat} {f:FuncId} {p:List Nat} {c:Ev.Ctx} (kk:Nat) (k:Ev.Kn) (ho:∀ q ∈ k.ops,Ev.GTrue k Try.prog q) (hl:∀ q ∈ k.cls,Ev.GCTrue k Try.prog q) (hs:k.ks=[]) (rn:List (Nat×Nat)) (bl bl1:List Ev.Blk) (g':Nat) {gl gl':List Ev.Asr} (hg:k.gs[0]? = some (Ev.star (Ev.oldX c.W c.X::gl))) (hg':k.gs[g']? = some (Ev.star (Ev.oldX c.W c.X::gl'))) (live0:List (Nat×Value)) (r:Value) (hk:Ev.knowB rn live0 bl [(0,r)] bl1=true:=by kernel_rfl)
  (run:∀ gb:Nat→Value,letI:Ev.Sig:=k.sig; Ev.withB Try.prog (fun B=>Ev.segB B f p (fun fn c=>Nat.beq (Ev.tmL gb N 0 live0).length N && (Nat.beq fn.ntmps N && (Nat.ble N 4094 && (Ev.idsB 100 rn bl && ((bl1.all (fun q=>Nat.beq (q.1 % 4) 0) && Ev.isNil ((Ev.flat c).drop (i+kk))) && Ev.outIs r bl1 (some g') (Ev.fromK (Ev.tmL gb N 0 live0) 0 .leaf (fun t=>Ev.fret B.P fn (Ev.pieceF B 400 N kk ((Ev.flat c).drop i) t (Ev.stOf (Ev.objsOf bl 0) 100))))))))))=true:=by intro gb; kernel_rfl) :
  letI:Ev.Sig:=k.sig; Ev.PieE Try.prog f p i N c (live0.map (Ev.cvp (Ev.renOf rn))) (bl.map (Ev.blkOf (Ev.renOf rn))++gl) (fun κ:Ev.Ren=>Ev.concF 3 (Ev.ovr rn κ) r) (fun κ:Ev.Ren=>bl1.map (Ev.blkOf (Ev.ovr rn κ))++gl'.map (Ev.frz (Ev.ovr rn κ))) :=
 Ev.triE Try.codeOk mixed_ok k (Ev.Kn.ok k (fun q hq=>by rw [hs] at hq; cases hq) ho hl) (n:=400) (m:=100) (kk:=kk) rn bl bl1 0 g' gl gl' hg hg' live0 r hk run
end Go.Proofs.Ytbcnbofkgkheeaa
namespace Go.Ev
end Go.Ev
namespace Go.Proofs.Ytbcnbofkgkheeaa
open Go.RowKit
set_option linter.unusedVariables false
set_option linter.unusedSimpArgs false
def wi (n a b:Int) : Bool:=decide (a≤n) && decide (n≤b)
set_option maxHeartbeats 400000 in
theorem within_any (n a b:Int) (w:World) :
  Calls Try.prog 54 #[.int .i64 n,.int .i64 a,.int .i64 b] w fun e w'=>e=.returned (.bool (wi n a b))∧w=w':=by
 by_cases h1:a≤n <;> by_cases h2:n≤b
 all_goals
  go_enter Try.func54,Try.ntmps54
  go_wp2
  go_ret
  exact ⟨by simp [wi, *],rfl⟩
def rightB (N Q G M T S:Int) : Bool :=
 wi N 1 8 && (Q == 2 || Q == 4 || Q == 8 || Q == 16 || Q == 32 || Q == 64) && wi G 1 256 && wi M (N+1) 16 && wi T 2 200 && wi S 0 1000
def rightC (N Q G M T S:Int) : Bool :=
 wi N 1 8 && wi Q 2 64 && (bits .and .i64 Q (wrap64 (Q - 1)) == 0) && wi G 1 256 && wi M (wrap64 (N+1)) 16 && wi T 2 200 && wi S 0 1000
theorem pow_two_of (q:Nat) (h:q < 65) : (2≤q∧bits .and .i64 (q:Int) (wrap64 ((q:Int) - 1))=0)↔(q=2∨q=4∨q=8∨q=16∨q=32∨q=64):=by
 have:∀ q:Fin 65,(2≤q.val∧bits .and .i64 (q.val:Int) (wrap64 ((q.val:Int) - 1))=0)↔(q.val=2∨q.val=4∨q.val=8∨q.val=16∨q.val=32∨q.val=64):=by decide +kernel
 exact this ⟨q,h⟩
theorem rightC_eq (N Q G M T S:Int) : rightC N Q G M T S=rightB N Q G M T S:=by
 unfold rightC rightB
 by_cases hN:wi N 1 8=true
 ·have e1:wrap64 (N+1)=N+1:=by
   have h:=hN
   simp [wi] at h
   unfold wrap64
   omega
  have e2:(wi Q 2 64 && (bits .and .i64 Q (wrap64 (Q - 1)) == 0))=(Q == 2 || Q == 4 || Q == 8 || Q == 16 || Q == 32 || Q == 64):=by
   by_cases hQ:wi Q 2 64=true
   ·have h:=hQ
    simp [wi] at h
    obtain ⟨q,rfl⟩:=Int.eq_ofNat_of_zero_le (show 0≤Q by omega)
    have hp:=pow_two_of q (by omega)
    rw [Bool.eq_iff_iff]
    simp [hQ]
    rw [show (bits BinOp.and IntKind.i64 (↑q) (wrap64 (↑q - 1))=0↔(q=2∨q=4∨q=8∨q=16∨q=32∨q=64)) from ⟨fun x=>hp.1 ⟨by omega,x⟩,fun x=>(hp.2 x).2⟩]
    omega
   ·have h:=hQ
    simp [wi] at h
    rw [Bool.eq_iff_iff]
    simp [hQ]
    omega
  rw [e1,← e2]
  simp [Bool.and_assoc]
 ·simp [hN]
set_option maxHeartbeats 800000 in
theorem rightC_any (N Q G M T S:Int) (w:World) :
  Calls Try.prog 32 #[.agg #[.int .i64 N,.int .i64 Q,.int .i64 G,.int .i64 M,.int .i64 T,.int .i64 S]] w fun e w'=>e=.returned (.bool (rightC N Q G M T S))∧Below w.heap.size w w':=by
 go_enter Try.func32,Try.ntmps32
 go_wp2_with (go_at_call 54; refine (within_any _ _ _ _).mono ?_; rintro e w' ⟨rfl,rfl⟩)
 all_goals
  go_ret
  refine ⟨?_,(Below.refl _ _).alloc (Nat.le_refl _) _⟩
  simp [rightC, *]
theorem right_any (N Q G M T S:Int) (w:World) :
  Calls Try.prog 32 #[.agg #[.int .i64 N,.int .i64 Q,.int .i64 G,.int .i64 M,.int .i64 T,.int .i64 S]] w fun e w'=>e=.returned (.bool (rightB N Q G M T S))∧Below w.heap.size w w':=by
 rw [← rightC_eq]
 exact rightC_any N Q G M T S w
end Go.Proofs.Ytbcnbofkgkheeaa
