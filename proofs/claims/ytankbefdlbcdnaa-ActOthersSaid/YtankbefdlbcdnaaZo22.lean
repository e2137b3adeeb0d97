/- Part of a proof: see the last text. -/
import Derived.Test.YtankbefdlbcdnaaZo21
namespace Go.Proofs.Ytankbefdlbcdnaa
open Go.RowKit
open Go.Ev (iz iN pz)
set_option linter.unusedVariables false
set_option linter.unusedSimpArgs false
set_option maxRecDepth 8000
attribute [local irreducible] Ev.wpL
abbrev nq (w:World) (F:Nat→Prop) (n b c:Nat) (h:n≤12∧b < 256∧c≤2) : NQ:=⟨w,F,n,b,c,h⟩
theorem of_ok (b:Nat) (hb:b < 256) (w:World) : Calls Try.prog 13 #[.int .u8 (b:Int)] w fun e w'=>e=.returned (actV (b % 8) (b / 8 % 4))∧Below w.heap.size w w' :=
 startP (ofR (nq w (fun _=>False) 0 b 0 ⟨by omega,hb,by omega⟩)) (by kernel_rfl) (Ev.now_nil w) (by simp) (by simp) (fun κ w1 h1=>⟨rfl,h1.below (fun _ h=>h)⟩)
theorem hold_arr {c:Ev.Ctx} {l:List Ev.Asr} {w:World} {b:Nat} {cs:List Value} {t:TypeId} (h:Ev.Hold c (Ev.blkA b cs t::l) w) : Ev.Hold c (Ev.slA t 1 (Ev.arrV b cs.length) cs.length cs::l) w :=
 h.head (fun F h=>⟨by simp,.inr ⟨b,0,cs.length,cs.toArray,rfl,h.1,h.2,fun i hi=>by simp,by simp,Nat.le_refl _⟩⟩)
def semV (v:Value) (s:Sem) : Ev.Asr where
 p:=fun ι F w=>∃ b,v=pz b∧(semA b s).p ι F w
 keep:=fun ι F w w' hk ⟨b,h0,h⟩=>⟨b,h0,(semA b s).keep ι F w w' hk h⟩
 mono:=fun _ _ _ _ _ h=>h
def tabV (v:Value) (t:Tab) : Ev.Asr where
 p:=fun ι F w=>∃ b,v=pz b∧(tabA b t).p ι F w
 keep:=fun ι F w w' hk ⟨b,h0,h⟩=>⟨b,h0,(tabA b t).keep ι F w w' hk h⟩
 mono:=fun _ _ _ _ _ h=>h
section
variable {c:Ev.Ctx} {l:List Ev.Asr} {w:World} {F:Nat→Prop}
theorem hold_sem {v:Value} {s:Sem} (h:Ev.Hold c (semV v s::l) w) : ∃ b,v=pz b∧Ev.Hold c (semA b s::l) w :=
 Ev.Hold.headE (b:=fun b=>semA b s) (p:=fun b=>v=pz b) h (fun G ⟨b,e,h1⟩=>⟨b,e,h1⟩)
theorem hold_tab {v:Value} {t:Tab} (h:Ev.Hold c (tabV v t::l) w) : ∃ b,v=pz b∧Ev.Hold c (tabA b t::l) w :=
 Ev.Hold.headE (b:=fun b=>tabA b t) (p:=fun b=>v=pz b) h (fun G ⟨b,e,h1⟩=>⟨b,e,h1⟩)
def sem4 (c:Nat) : Sem:=⟨4,fun _=>c,fun _=>[],0⟩
def cel4 (c b:Nat) : List Value:=[.map none,iz 0,iz 0,iN c,.map none,iz 0,iz 0,iN c,.map none,iz 0,iz 0,iN c,.map none,iz 0,iz 0,iN c]++([.map none,iz 0,iz 0,iz 0]++[.map none,iz 0,iz 0,iz 0]++[.map none,iz 0,iz 0,iz 0]++[.map none,iz 0,iz 0,iz 0]++[.map none,iz 0,iz 0,iz 0]++[.map none,iz 0,iz 0,iz 0]++[.map none,iz 0,iz 0,iz 0]++[.map none,iz 0,iz 0,iz 0]++[.map none,iz 0,iz 0,iz 0]++[.map none,iz 0,iz 0,iz 0]++[.map none,iz 0,iz 0,iz 0]++[.map none,iz 0,iz 0,iz 0])++[iz 4,.map (some b)]
theorem new_sem {c:Nat} (hc:c≤2) (h:Ev.Now [] F w) :
  Calls Try.prog 7 #[iz 4,iN c] w fun e w'=>∃ v cd,Ev.dec cd=v∧e=.returned (.tuple #[v,iz 0])∧Ev.Hold ⟨w,F⟩ [semV v (sem4 c)] w':=by
 refine startP (sn4 (nq w F 0 0 c ⟨by omega,by omega,hc⟩)) (by kernel_rfl) h (by simp) (by simp) (fun κ w1 hh=>?_)
 generalize (κ 404).getD 0=bs at hh
 obtain ⟨b,e,h2⟩:=Ev.Hold.mapV (hh.sel [1,0] (by kernel_rfl))
 have h3:=h2.sel [1,0] (by kernel_rfl)
 rw [e] at h3
 have h4:Ev.Hold ⟨w,F⟩ (sA bs (cel4 c b)::[whA b 0 (fun _=>none)]) w1:=hold_arr (cs:=cel4 c b) h3
 let z0:LnS:=⟨none,[],0,0,fun _=>none⟩
 have hf:(⟨b,fun _=>none,cel4 c b,fun _=>z0⟩ : SemI).Fits (sem4 c):=by
  refine ⟨⟨by kernel_rfl,by kernel_rfl,by kernel_rfl,by show (4:Int)≤16; decide⟩,fun k hk=>?_,fun k hk g hg=>by simp [sem4] at hg,fun g _=>rfl⟩
  refine ⟨?_,rfl,?_⟩
  ·match k,hk with
   | 0,_=>exact ⟨rfl,rfl,rfl,Rep.nil _ _,fun _=>rfl⟩
   | 1,_=>exact ⟨rfl,rfl,rfl,Rep.nil _ _,fun _=>rfl⟩
   | 2,_=>exact ⟨rfl,rfl,rfl,Rep.nil _ _,fun _=>rfl⟩
   | 3,_=>exact ⟨rfl,rfl,rfl,Rep.nil _ _,fun _=>rfl⟩
  ·match k,hk with
   | 0,_=>rfl
   | 1,_=>rfl
   | 2,_=>rfl
   | 3,_=>rfl
 have h5:Ev.Hold ⟨w,F⟩ (semL bs ⟨b,fun _=>none,cel4 c b,fun _=>z0⟩ 0++[]) w1:=by
  have h6:=hold_nilA (hold_nilA (hold_nilA (hold_nilA h4)))
  exact h6.sel [4,5,0,1,2,3] (by kernel_rfl)
 have h7:=sem_shut (s:=sem4 c) (l:=[]) hf h5
 obtain ⟨cd,hcd⟩ : ∃ cd,Ev.dec cd=pz bs:=⟨_,Ev.dec_ptr bs 0⟩
 exact ⟨pz bs,cd,hcd,rfl,h7.head (b:=semV (pz bs) (sem4 c)) (fun G h=>⟨bs,rfl,h⟩)⟩
def frL (n i:Nat) : List Nat:=(List.range i).map (fun k=>n - 1 - k)
def frI (n i:Nat) : List Int:=(frL n i).map (fun j:Nat=>(j:Int))
theorem frI_len (n i:Nat) : (frI n i).length=i:=by simp [frI,frL]
theorem frI_succ (n i:Nat) : frI n (i+1)=frI n i++[((n - 1 - i:Nat) : Int)]:=by simp [frI,frL,List.range_succ]
def tab0 (n:Nat) : Tab:=⟨List.replicate n (0,0),frL n n⟩
theorem zG_tab (n:Nat) : zG n=(tab0 n).g:=by simp [zG,tab0,Tab.g]
theorem new_tab {n:Nat} (hn:n≤12) (h:Ev.Now [] F w) :
  Calls Try.prog 8 #[iN n] w fun e w'=>∃ v cd,Ev.dec cd=v∧e=.returned v∧Ev.Hold ⟨w,F⟩ [tabV v (tab0 n)] w':=by
 let q:=nq w F n 0 0 ⟨hn,by omega,by omega⟩
 refine Ev.con_start (N:=38) (tm:=[(0,iN n)]) (by kernel_rfl) h (by simp) (by simp) (fun A hA=>?_)
 refine tnA q A w _ hA ?_
 intro κ A1 w1 h1
 dsimp only at h1
 have lav:Ev.leafV (Ev.dv κ 403)=true:=Ev.dec_leaf _
 generalize (κ 404).getD 0=b3 at h1
 generalize Ev.dv κ 403=av at h1 lav
 refine Ev.in_block (id:=0) (by kernel_rfl) ?_
 refine Ev.loop_st (by kernel_rfl) (fun (x:Nat×Value) A w'=>Ev.At ⟨w,F⟩ 38 [(3,pz b3),(15,iN n),(16,iN x.1)] (tabL b3 av x.2 (zG n) (frI n x.1)) A w'∧x.1≤n) (fun x=>n - x.1) (x:=(0,.slice none 0 0)) ⟨h1.to (fun q hq=>hq) (fun hh=>?_),Nat.zero_le _⟩ ?_
 ·have e:(zG n).length=n:=by simp [zG]
  unfold tabL
  rw [e]
  exact (hh.nilSl (e := 3) (sz:=1)).sel [1,2,0] (by kernel_rfl)
 clear h1 hA A1 w1
 rintro ⟨ix,fv⟩ A w' ⟨h1,hx⟩
 replace hx:ix≤n:=hx
 have e:(zG n).length=n:=by simp [zG]
 have h2:Ev.At ⟨w,F⟩ 38 [(3,pz b3),(15,iN n),(16,iN ix)] [Ev.blkA b3 [av,fv] 83,Ev.slA 87 2 av n (gor (zG n)),Ev.slA 3 1 fv (frI n ix).length (ints (frI n ix))] A w':=by
  have:=h1
  unfold tabL at this
  rwa [e] at this
 have lfv:Ev.leafV fv=true:=hold_leaf (h2.hold.sel [2] (by kernel_rfl))
 have hl:(frI n ix).length≤12:=by rw [frI_len]; omega
 by_cases hi:ix < n
 ·refine tnT q b3 av lav fv lfv (frI n ix) hl ix hi A w' _ h2 ?_
  intro κ3 A3 w3 h3
  refine Ev.in_block (id:=1) (by kernel_rfl) ?_
  refine tnB q b3 av lav fv lfv (frI n ix) hl ix hi A3 w3 _ h3 ?_
  intro κ4 A4 w4 h4
  dsimp only at h4
  have lfv2:Ev.leafV (Ev.dv κ4 407)=true:=Ev.dec_leaf _
  generalize Ev.dv κ4 407=fv2 at h4 lfv2
  have hl2:(frI n (ix+1)).length≤12:=by rw [frI_len]; omega
  refine Ev.wpL_nil (by kernel_rfl) ?_
  refine tnI q b3 av lav fv2 lfv2 (frI n (ix+1)) hl2 ix hi A4 w4 _ (h4.to (fun q hq=>hq) (fun hh=>?_)) ?_
  ·rw [frI_succ]
   have e1:ints (frI n ix++[((n - 1 - ix:Nat) : Int)])=ints (frI n ix)++[iN (n - 1 - ix)]:=by simp [ints]
   show Ev.Hold _ [_,_,Ev.slA 3 1 fv2 (frI n ix++[((n - 1 - ix:Nat) : Int)]).length (ints (frI n ix++[((n - 1 - ix:Nat) : Int)]))] w4
   rw [e1,List.length_append]
   exact hh
  ·intro κ5 A5 w5 h5
   refine Ev.wpL_nil (by kernel_rfl) ⟨(ix+1,fv2),⟨h5.to (fun q hq=>hq) (fun hh=>?_),by show ix+1≤n; omega⟩,by show n - (ix+1) < n - ix; omega⟩
   unfold tabL
   rw [e]
   exact hh
 ·refine tnF q b3 av lav fv lfv (frI n ix) hl ix hi A w' _ h2 ?_
  intro κ3 A3 w3 h3
  obtain rfl:ix=n:=by omega
  refine tnE q b3 av lav fv lfv (frI ix ix) hl ix A3 w3 _ (h3.to (fun q hq=>?_) (fun hh=>hh)) ?_
  ·simp at hq
   subst hq
   exact List.mem_cons_self
  intro κ4 w4 h4
  refine ⟨pz b3,_,Ev.dec_ptr b3 0,rfl,?_⟩
  have h5:Ev.Hold ⟨w,F⟩ (tabL b3 av fv (zG ix) (frI ix ix)++[]) w4:=by
   unfold tabL
   rw [e]
   exact h4
  exact (tab_shut (t:=tab0 ix) h5 (zG_tab ix) rfl).head (b:=tabV (pz b3) (tab0 ix)) (fun G h=>⟨b3,rfl,h⟩)
end
end Go.Proofs.Ytankbefdlbcdnaa
namespace Go.Proofs.Ytankbefdlbcdnaa
set_option linter.unusedVariables false
set_option linter.unusedSimpArgs false
def cnt (p:Nat→Bool) : Nat→Nat
 | 0=>0
 | n+1=>cnt p n+(if p n then 1 else 0)
theorem cnt_congr {p q:Nat→Bool} {n:Nat} (h:∀ j,j < n→p j=q j) : cnt p n=cnt q n:=by
 induction n with
 | zero=>rfl
 | succ n ih=>unfold cnt; rw [ih (fun j hj=>h j (by omega)),h n (by omega)]
theorem cnt_le (p:Nat→Bool) (n:Nat) : cnt p n≤n:=by
 induction n with
 | zero=>exact Nat.le_refl _
 | succ n ih=>unfold cnt; split <;> omega
theorem cnt_ins {p q:Nat→Bool} {a n:Nat} (ha:a < n) (hp:p a=false) (hq:∀ j,q j=(decide (j=a) || p j)) : cnt q n=cnt p n+1:=by
 induction n with
 | zero=>omega
 | succ n ih =>
  unfold cnt
  by_cases e:a=n
  ·subst e
   rw [cnt_congr (p:=q) (q:=p) (n:=a) (fun j hj=>by rw [hq,decide_eq_false (by omega)]; rfl),hq,hp,decide_eq_true rfl]
   simp
  ·rw [ih (by omega),hq,decide_eq_false (by omega:¬ n=a),Bool.false_or]
   omega
theorem cnt_none {n:Nat} : cnt (fun _=>false) n=0:=by
 induction n with
 | zero=>rfl
 | succ n ih=>unfold cnt; rw [ih]; simp
theorem cnt_or {p q:Nat→Bool} {n:Nat} (h:∀ j,j < n→p j=true→q j=false) : cnt (fun j=>p j || q j) n=cnt p n+cnt q n:=by
 induction n with
 | zero=>rfl
 | succ n ih =>
  unfold cnt
  rw [ih (fun j hj=>h j (by omega))]
  have:=h n (by omega)
  cases hp:p n <;> cases hq:q n <;> simp_all <;> omega
theorem cnt_mem {α:Type} [DecidableEq α] (f:Nat→α) (hf:∀ a b,f a=f b→a=b) (n:Nat) : ∀ l:List α,l.Nodup→(∀ x ∈ l,∃ a,a < n∧f a=x)→cnt (fun j=>decide (f j ∈ l)) n=l.length
 | [],_,_=>by simp [cnt_none]
 | x::r,h,g=>by
  obtain ⟨a,ha,e⟩:=g x List.mem_cons_self
  obtain ⟨h1,h2⟩:=List.nodup_cons.1 h
  rw [cnt_ins (p:=fun j=>decide (f j ∈ r)) ha (by rw [e]; exact decide_eq_false h1) (fun j=>?_),cnt_mem f hf n r h2 (fun y hy=>g y (List.mem_cons_of_mem _ hy)),List.length_cons]
  rw [← e]
  by_cases q:j=a
  ·subst q; simp
  ·have:f j ≠ f a:=fun e=>q (hf _ _ e)
   simp [q,this]
theorem nodup_le {l:List Nat} {n:Nat} (h:l.Nodup) (g:∀ x ∈ l,x < n) : l.length≤n:=by
 rw [← cnt_mem (fun j=>j) (fun _ _ h=>h) n l h (fun x hx=>⟨x,g x hx,rfl⟩)]
 exact cnt_le _ _
theorem int_inj (a b:Nat) (h:(a:Int)=(b:Int)) : a=b:=by omega
theorem line_cnt {l:List Int} {n:Nat} (h:l.Nodup) (g:∀ x ∈ l,0≤x∧x < (n:Int)) : cnt (fun j=>decide ((j:Int) ∈ l)) n=l.length :=
 cnt_mem (fun j:Nat=>(j:Int)) int_inj n l h (fun x hx=>⟨x.toNat,by have:=g x hx; omega,by have:=g x hx; omega⟩)
structure Inv (K n m:Nat) (t:Tab) (s:Sem) : Prop where
 len:t.gs.length=n
 st:∀ j a b:Nat,t.gs[j]? = some (a,b)→a < 5∧b≤m
 fr:∀ j,j ∈ t.fr↔∃ b,t.gs[j]? = some (0,b)
 fnd:t.fr.Nodup
 nn:s.nn=K∧K≤4
 ct:∀ k,k < 4→s.ct k≤2+m
 wt:∀ j a b:Nat,t.gs[j]? = some (a,b)→(a=3↔∃ k,k < 4∧(j:Int) ∈ s.ln k)
 rng:∀ k,k < 4→∀ g ∈ s.ln k,0≤g∧g < (n:Int)
 nd:∀ k,k < 4→(s.ln k).Nodup
 dis:∀ i j,i < 4→j < 4→i ≠ j→∀ g ∈ s.ln i,g ∉ s.ln j
 nw:s.nw≤m
section
variable {K n m:Nat} {t:Tab} {s:Sem}
theorem Inv.lt (h:Inv K n m t s) {j:Nat} {p:Nat×Nat} (hj:t.gs[j]? = some p) : j < n:=by
 rw [← h.len]
 exact (List.getElem?_eq_some_iff.1 hj).1
theorem Inv.tok (h:Inv K n m t s) (hn:n≤12) (hm:m≤1000) : t.Ok where
 n:=by rw [h.len]; omega
 fn:=by
  have:=nodup_le h.fnd (fun x hx=>h.lt ((h.fr x).1 hx).choose_spec)
  omega
 st:=fun p hp=>by
  obtain ⟨j,hj⟩:=List.mem_iff_getElem?.1 hp
  have:=h.st j p.1 p.2 hj
  exact ⟨this.1,by omega⟩
 fr:=fun j hj=>by
  obtain ⟨b,hb⟩:=(h.fr j).1 hj
  exact (List.getElem?_eq_some_iff.1 hb).1
theorem Inv.ll (h:Inv K n m t s) {k:Nat} (hk:k < 4) : (s.ln k).length≤n:=by
 rw [← line_cnt (h.nd k hk) (h.rng k hk)]
 exact cnt_le _ _
theorem Inv.sok (h:Inv K n m t s) (hn:n≤12) (hm:m≤1000) : s.Ok where
 n1:=by have:=h.nn; omega
 ct:=fun k hk=>by have:=h.ct k hk; omega
 len:=fun k hk=>by have:=h.ll hk; omega
 rng:=fun k hk g hg=>by have:=h.rng k hk g hg; omega
 dis:=h.dis
 nw:=by have:=h.nw; omega
theorem Inv.mono {m':Nat} (h:Inv K n m t s) (hm:m≤m') : Inv K n m' t s :=
 { h with st:=fun j a b hj=>by { have:=h.st j a b hj; omega },ct:=fun k hk=>by { have:=h.ct k hk; omega },nw:=by { have:=h.nw; omega } }
theorem set_gs {j a b nx:Nat} (hj:t.gs[j]? = some (a,b)) (i:Nat) : (t.set j nx).gs[i]? = if i=j then some (nx,b) else t.gs[i]?:=by
 have hl:=(List.getElem?_eq_some_iff.1 hj).1
 unfold Tab.set
 show (t.gs.set j (nx,((t.gs[j]?).getD (0,0)).2))[i]? = _
 rw [hj]
 by_cases e:i=j
 ·subst e
  rw [if_pos rfl,List.getElem?_set_self hl]
  rfl
 ·rw [if_neg e,List.getElem?_set_ne (fun h=>e h.symm)]
theorem set_fr (h:Inv K n m t s) {j a b nx:Nat} (hj:t.gs[j]? = some (a,b)) (ha:a ≠ 0) : (∀ i,i ∈ (t.set j nx).fr↔∃ b,(t.set j nx).gs[i]? = some (0,b))∧(t.set j nx).fr.Nodup:=by
 have hn:j ∉ t.fr:=fun hm=>by
  obtain ⟨b',h1⟩:=(h.fr j).1 hm
  rw [hj] at h1
  cases h1
  exact ha rfl
 by_cases e:nx=0
 ·subst e
  have e1:(t.set j 0).fr=t.fr++[j]:=rfl
  rw [e1]
  refine ⟨fun i=>?_,?_⟩
  ·rw [set_gs hj,List.mem_append,List.mem_singleton]
   by_cases q:i=j
   ·subst q
    simp
   ·rw [if_neg q,h.fr]
    simp [q]
  ·rw [List.nodup_append]
   exact ⟨h.fnd,by simp,fun x hx y hy=>by rw [List.mem_singleton.1 hy]; exact fun e=>hn (e ▸ hx)⟩
 ·have e1:(t.set j nx).fr=t.fr:=if_neg e
  rw [e1]
  refine ⟨fun i=>?_,h.fnd⟩
  rw [set_gs hj]
  by_cases q:i=j
  ·subst q
   rw [if_pos rfl]
   exact ⟨fun h=>absurd h hn,fun ⟨b',hb⟩=>by cases hb; exact absurd rfl e⟩
  ·rw [if_neg q,h.fr]
theorem set_len {j nx:Nat} : (t.set j nx).gs.length=t.gs.length:=by simp [Tab.set]
theorem Inv.set (h:Inv K n m t s) {j a b nx:Nat} (hj:t.gs[j]? = some (a,b)) (ha:a ≠ 0) (ha3:a ≠ 3) (hx:nx < 5) (hx3:nx ≠ 3) : Inv K n m (t.set j nx) s :=
 { h with
  len:=set_len.trans h.len
  st:=fun i c d hi=>by
   rw [set_gs hj] at hi
   split at hi
   ·cases hi; exact ⟨hx,(h.st j a b hj).2⟩
   ·exact h.st i c d hi
  fr:=(set_fr h hj ha).1
  fnd:=(set_fr h hj ha).2
  wt:=fun i c d hi=>by
   rw [set_gs hj] at hi
   split at hi
   ·rename_i e
    subst e
    cases hi
    have:=h.wt i a b hj
    exact ⟨fun e=>absurd e hx3,fun e=>absurd (this.2 e) ha3⟩
   ·exact h.wt i c d hi }
theorem make_gs {x b:Nat} (hx:t.gs[x]? = some (0,b)) (i:Nat) : (t.make x).gs[i]? = if i=x then some (1,b+1) else t.gs[i]?:=by
 have hl:=(List.getElem?_eq_some_iff.1 hx).1
 unfold Tab.make
 show (t.gs.set x (1,((t.gs[x]?).getD (0,0)).2+1))[i]? = _
 rw [hx]
 by_cases e:i=x
 ·subst e
  rw [if_pos rfl,List.getElem?_set_self hl]
  rfl
 ·rw [if_neg e,List.getElem?_set_ne (fun h=>e h.symm)]
theorem last_split {l:List Nat} {x:Nat} (h:l[l.length - 1]? = some x) : l=l.take (l.length - 1)++[x]:=by
 have hl:=(List.getElem?_eq_some_iff.1 h).1
 have h1:l ≠ []:=fun e=>by subst e; simp at hl
 obtain ⟨r,y,rfl⟩:=List.eq_nil_or_concat l |>.resolve_left h1
 simp at h
 subst h
 simp
theorem Inv.make (h:Inv K n m t s) {x:Nat} (hf:t.fr[t.fr.length - 1]? = some x) : Inv K n (m+1) (t.make x) s:=by
 obtain ⟨b,hx⟩:=(h.fr x).1 (List.mem_of_getElem? hf)
 have hs:=last_split hf
 have hnd:=h.fnd
 rw [hs,List.nodup_append] at hnd
 obtain ⟨n1,_,n2⟩:=hnd
 have hfr:(t.make x).fr=t.fr.take (t.fr.length - 1):=rfl
 exact { h.mono (Nat.le_succ m) with
  len:=by rw [← h.len]; simp [Tab.make]
  st:=fun i c d hi=>by
   rw [make_gs hx] at hi
   split at hi
   ·cases hi; exact ⟨by omega,by have:=h.st x 0 b hx; omega⟩
   ·have:=h.st i c d hi; omega
  fr:=fun i=>by
   rw [make_gs hx,hfr]
   by_cases e:i=x
   ·subst e
    rw [if_pos rfl]
    exact ⟨fun hm=>absurd rfl (n2 i hm i (List.mem_singleton.2 rfl)),fun ⟨b',hb⟩=>by cases hb⟩
   ·rw [if_neg e,← h.fr]
    conv=>rhs; rw [hs]
    simp [e]
  fnd:=by rw [hfr]; exact n1
  wt:=fun i c d hi=>by
   rw [make_gs hx] at hi
   split at hi
   ·rename_i e
    subst e
    cases hi
    exact ⟨fun e=>absurd e (by decide),fun e=>absurd ((h.wt i 0 b hx).2 e) (by decide)⟩
   ·exact h.wt i c d hi }
theorem Inv.cts (h:Inv K n m t s) {k c:Nat} (hc:c≤s.ct k+1) (hk:k < 4) : Inv K n (m+1) t { s with ct:=setZ s.ct k c } :=
 { h.mono (Nat.le_succ m) with
  nn:=h.nn
  ct:=fun i hi=>by
   show setZ s.ct k c i≤_
   unfold setZ
   have h1:=h.ct k hk
   have h2:=h.ct i hi
   split <;> omega
  wt:=h.wt,rng:=h.rng,nd:=h.nd,dis:=h.dis,nw:=by { show s.nw≤m+1; have:=h.nw; omega } }
theorem Inv.wait (h:Inv K n m t s) {j b k:Nat} (hj:t.gs[j]? = some (2,b)) (hk:k < 4) : Inv K n (m+1) (t.set j 3) { s with ln:=setZ s.ln k (s.ln k++[(j:Int)]),nw:=s.nw+1 }:=by
 have hno:∀ i,i < 4→(j:Int) ∉ s.ln i:=fun i hi hm=>absurd ((h.wt j 2 b hj).2 ⟨i,hi,hm⟩) (by decide)
 have mem:∀ i (g:Int),g ∈ setZ s.ln k (s.ln k++[(j:Int)]) i↔g ∈ s.ln i∨(i=k∧g=(j:Int)):=fun i g=>by
  unfold setZ
  split
  ·rename_i e
   subst e
   simp
  ·rename_i e
   simp [e]
 have hlt:=h.lt hj
 exact {
  len:=set_len.trans h.len
  st:=fun i c d hi=>by
   rw [set_gs hj] at hi
   split at hi
   ·cases hi; have:=h.st j 2 b hj; exact ⟨by omega,by omega⟩
   ·have:=h.st i c d hi; exact ⟨this.1,by omega⟩
  fr:=(set_fr h hj (by decide)).1
  fnd:=(set_fr h hj (by decide)).2
  nn:=h.nn
  ct:=fun i hi=>by { show s.ct i≤_; have:=h.ct i hi; omega }
  wt:=fun i c d hi=>by
   rw [set_gs hj] at hi
   split at hi
   ·rename_i e
    subst e
    cases hi
    exact ⟨fun _=>⟨k,hk,(mem k _).2 (.inr ⟨rfl,rfl⟩)⟩,fun _=>rfl⟩
   ·rename_i e
    rw [h.wt i c d hi]
    exact ⟨fun ⟨q,h1,h2⟩=>⟨q,h1,(mem q _).2 (.inl h2)⟩,fun ⟨q,h1,h2⟩=>⟨q,h1,((mem q _).1 h2).elim id (fun ⟨_,h3⟩=>absurd (int_inj _ _ h3) e)⟩⟩
  rng:=fun i hi g hg=>((mem i g).1 hg).elim (h.rng i hi g) (fun ⟨_,e⟩=>by rw [e]; omega)
  nd:=fun i hi=>by
   show (setZ s.ln k _ i).Nodup
   unfold setZ
   split
   ·rename_i e
    subst e
    rw [List.nodup_append]
    exact ⟨h.nd i hi,by simp,fun x hx y hy=>by rw [List.mem_singleton.1 hy]; exact fun e=>hno i hi (e ▸ hx)⟩
   ·exact h.nd i hi
  dis:=fun i i2 hi hi2 e g hg hg2=>by
   rcases (mem i g).1 hg with h1 | ⟨e1,h1⟩ <;> rcases (mem i2 g).1 hg2 with h2 | ⟨e2,h2⟩
   ·exact h.dis i i2 hi hi2 e g h1 h2
   ·exact hno i hi (h2 ▸ h1)
   ·exact hno i2 hi2 (h1 ▸ h2)
   ·exact e (e1.trans e2.symm)
  nw:=by { show s.nw+1≤m+1; have:=h.nw; omega } }
theorem Inv.wake (h:Inv K n m t s) {k:Nat} {g:Int} {r:List Int} (hk:k < 4) (hl:s.ln k=g::r) : Inv K n (m+1) (t.set g.toNat 1) { s with ln:=setZ s.ln k r }:=by
 have hg:=h.rng k hk g (by rw [hl]; exact List.mem_cons_self)
 obtain ⟨j,rfl⟩ : ∃ j:Nat,g=(j:Int):=⟨g.toNat,by omega⟩
 have hnd:=h.nd k hk
 rw [hl] at hnd
 obtain ⟨hnr,hr⟩:=List.nodup_cons.1 hnd
 have hjl:j < t.gs.length:=by rw [h.len]; omega
 have hjk:(j:Int) ∈ s.ln k:=by rw [hl]; exact List.mem_cons_self
 obtain ⟨b,hj⟩ : ∃ b,t.gs[j]? = some (3,b):=by
  have h1:=List.getElem?_eq_getElem hjl
  have h2:=(h.wt j _ _ h1).2 ⟨k,hk,hjk⟩
  exact ⟨(t.gs[j]).2,by rw [h1,← h2]; rfl⟩
 have mem:∀ i (x:Int),i < 4→(x ∈ setZ s.ln k r i↔x ∈ s.ln i∧x ≠ (j:Int)):=fun i x hi=>by
  unfold setZ
  split
  ·rename_i e
   subst e
   rw [hl]
   exact ⟨fun hx=>⟨List.mem_cons_of_mem _ hx,fun e=>hnr (e ▸ hx)⟩,fun ⟨h1,h2⟩=>(List.mem_cons.1 h1).elim (fun e=>absurd e h2) id⟩
  ·rename_i e
   exact ⟨fun hx=>⟨hx,fun e2=>h.dis i k hi hk e x hx (e2 ▸ hjk)⟩,fun h=>h.1⟩
 show Inv K n (m+1) (t.set j 1) _
 exact {
  len:=set_len.trans h.len
  st:=fun i c d hi=>by
   rw [set_gs hj] at hi
   split at hi
   ·cases hi; have:=h.st j 3 b hj; exact ⟨by omega,by omega⟩
   ·have:=h.st i c d hi; exact ⟨this.1,by omega⟩
  fr:=(set_fr h hj (by decide)).1
  fnd:=(set_fr h hj (by decide)).2
  nn:=h.nn
  ct:=fun i hi=>by { show s.ct i≤_; have:=h.ct i hi; omega }
  wt:=fun i c d hi=>by
   rw [set_gs hj] at hi
   split at hi
   ·rename_i e
    subst e
    cases hi
    exact ⟨fun e=>absurd e (by decide),fun ⟨q,h1,h2⟩=>absurd rfl ((mem q _ h1).1 h2).2⟩
   ·rename_i e
    rw [h.wt i c d hi]
    exact ⟨fun ⟨q,h1,h2⟩=>⟨q,h1,(mem q _ h1).2 ⟨h2,fun e2=>e (int_inj _ _ e2)⟩⟩,fun ⟨q,h1,h2⟩=>⟨q,h1,((mem q _ h1).1 h2).1⟩⟩
  rng:=fun i hi g hg=>h.rng i hi g ((mem i g hi).1 hg).1
  nd:=fun i hi=>by
   show (setZ s.ln k _ i).Nodup
   unfold setZ
   split
   ·exact hr
   ·exact h.nd i hi
  dis:=fun i i2 hi hi2 e g hg hg2=>h.dis i i2 hi hi2 e g ((mem i g hi).1 hg).1 ((mem i2 g hi2).1 hg2).1
  nw:=by { show s.nw≤m+1; have:=h.nw; omega } }
theorem Inv.dec (h:Inv K n m t s) {ca mo:Int} {kd k:Nat} {g:Int} (hk:k < K) : Inv K n (m+1) (decG t s ca mo kd k g).t (decG t s ca mo kd k g).s:=by
 have h1:=h.mono (Nat.le_succ m)
 have hk4:k < 4:=by have:=h.nn; omega
 unfold decG
 cases hr:t.runs g with
 | none=>exact h1
 | some j =>
  obtain ⟨rfl,b,hj⟩:=Tab.runs_some hr
  show Inv K n (m+1) (decA t s ca mo kd k j).t (decA t s ca mo kd k j).s
  unfold decA
  split
  ·exact h1
  ·exact h1
  ·exact h1.set hj (by decide) (by decide) (by decide) (by decide)
  ·split
   ·rename_i x hx
    exact h.make hx
   ·exact h1
  ·exact h1.set hj (by decide) (by decide) (by decide) (by decide)
  ·split
   ·exact h1
   ·split
    ·exact h.wait hj hk4
    ·exact h.cts (by omega) hk4
  ·split
   ·exact h1
   ·split
    ·exact h.cts (by omega) hk4
    ·rename_i g r hl
     exact h.wake hk4 hl
  ·split
   ·exact h1
   ·exact h1.set hj (by decide) (by decide) (by decide) (by decide)
theorem Inv.others (h:Inv K n m t s) {ca mo:Int} {kd k:Nat} {g:Int} (hk:k < K) {i a b c d:Nat} (hi:t.gs[i]? = some (a,b)) (hi2:(decG t s ca mo kd k g).t.gs[i]? = some (c,d)) (hne:c ≠ a) : (decG t s ca mo kd k g).e=0∧((i:Int)=g∨(i:Int)=(decG t s ca mo kd k g).x):=by
 have hk4:k < 4:=by have:=h.nn; omega
 have same:t.gs[i]? = some (c,d)→False:=fun e=>by rw [hi] at e; cases e; exact hne rfl
 unfold decG at hi2 ⊢
 cases hr:t.runs g with
 | none=>rw [hr] at hi2; exact (same hi2).elim
 | some j =>
  rw [hr] at hi2
  obtain ⟨rfl,b',hj⟩:=Tab.runs_some hr
  have setc:∀ {nx:Nat},(t.set j nx).gs[i]? = some (c,d)→(i:Int)=(j:Int):=fun {nx} e=>by
   rw [set_gs hj] at e
   split at e
   ·rename_i q; rw [q]
   ·exact (same e).elim
  show (decA t s ca mo kd k j).e=0∧((i:Int)=(j:Int)∨(i:Int)=(decA t s ca mo kd k j).x)
  replace hi2:(decA t s ca mo kd k j).t.gs[i]? = some (c,d):=hi2
  unfold decA at hi2 ⊢
  split at hi2
  ·exact (same hi2).elim
  ·exact (same hi2).elim
  ·exact ⟨rfl,.inl (setc hi2)⟩
  ·cases hf:t.fr[t.fr.length - 1]? with
   | none=>rw [hf] at hi2; exact (same hi2).elim
   | some x =>
    rw [hf] at hi2
    obtain ⟨b2,hx⟩:=(h.fr x).1 (List.mem_of_getElem? hf)
    refine ⟨rfl,.inr ?_⟩
    replace hi2:(t.make x).gs[i]? = some (c,d):=hi2
    rw [make_gs hx] at hi2
    split at hi2
    ·rename_i q; rw [q]
    ·exact (same hi2).elim
  ·exact ⟨rfl,.inl (setc hi2)⟩
  ·split at hi2
   ·exact (same hi2).elim
   ·rename_i h5
    rw [if_neg h5]
    split at hi2
    ·rename_i h6
     rw [if_pos h6]
     exact ⟨rfl,.inl (setc hi2)⟩
    ·exact (same hi2).elim
  ·split at hi2
   ·exact (same hi2).elim
   ·rename_i h5
    rw [if_neg h5]
    cases hl:s.ln k with
    | nil=>rw [hl] at hi2; exact (same hi2).elim
    | cons x r =>
     rw [hl] at hi2
     have hxm:x ∈ s.ln k:=by rw [hl]; exact List.mem_cons_self
     have hx:=h.rng k hk4 x hxm
     obtain ⟨y,rfl⟩ : ∃ y:Nat,x=(y:Int):=⟨x.toNat,by omega⟩
     refine ⟨rfl,.inr ?_⟩
     replace hi2:(t.set y 1).gs[i]? = some (c,d):=hi2
     have hyl:y < t.gs.length:=by rw [h.len]; omega
     rw [set_gs (List.getElem?_eq_getElem hyl)] at hi2
     split at hi2
     ·rename_i q; rw [q]
     ·exact (same hi2).elim
  ·split at hi2
   ·exact (same hi2).elim
   ·rename_i h5
    rw [if_neg h5]
    exact ⟨rfl,.inl (setc hi2)⟩
def Tab.setG (t:Tab) (g:Int) (nx:Nat) : Tab:=if 0≤g then (match t.gs[g.toNat]? with
 | some (a,_)=>if mayB a nx then t.set g.toNat nx else t
 | none=>t) else t
theorem Inv.setG (h:Inv K n m t s) (g:Int) : Inv K n m (t.setG g 2) s:=by
 unfold Tab.setG
 split
 ·split
  ·rename_i a b hj
   split
   ·rename_i hm
    have ha:a ≠ 0∧a ≠ 3:=⟨fun e=>by subst e; simp [mayB] at hm,fun e=>by subst e; simp [mayB] at hm⟩
    exact h.set hj ha.1 ha.2 (by decide) (by decide)
   ·exact h
  ·exact h
 ·exact h
theorem Inv.start {c:Nat} (hn:n≤12) (hc:c≤2) (h0:0 < n) : Inv 4 n 1 ((tab0 n).make 0) (sem4 c):=by
 have h:Inv 4 n 0 (tab0 n) (sem4 c):={
  len:=by simp [tab0]
  st:=fun j a b hj=>by
   have:=List.mem_of_getElem? hj
   simp [tab0] at this
   omega
  fr:=fun j=>by
   simp [tab0,frL,List.getElem?_replicate]
   constructor
   ·rintro ⟨a,h1,h2⟩; omega
   ·intro h; exact ⟨n - 1 - j,by omega,by omega⟩
  fnd:=by
   show ((List.range n).map (fun k=>n - 1 - k)).Nodup
   exact List.pairwise_map.2 (List.Pairwise.imp_of_mem (fun {a b} ha hb (hab:a ≠ b) e=>by
    have:=List.mem_range.1 ha
    have:=List.mem_range.1 hb
    omega) List.nodup_range)
  nn:=⟨rfl,by decide⟩
  ct:=fun k _=>hc
  wt:=fun j a b hj=>by
   have:=List.mem_of_getElem? hj
   simp [tab0] at this
   obtain ⟨_,e,_⟩:=this
   subst e
   exact ⟨fun e=>absurd e (by decide),fun ⟨_,_,h⟩=>by simp [sem4] at h⟩
  rng:=fun k _ g hg=>by simp [sem4] at hg
  nd:=fun k _=>by simp [sem4]
  dis:=fun _ _ _ _ _ g hg=>by simp [sem4] at hg
  nw:=Nat.le_refl _ }
 refine h.make ?_
 show (frL n n)[(frL n n).length - 1]? = some 0
 have e:(frL n n).length=n:=by simp [frL]
 rw [e]
 unfold frL
 rw [List.getElem?_map,List.getElem?_range (by omega)]
 show some (n - 1 - (n - 1))=some 0
 rw [Nat.sub_self]
theorem Inv.all (h:Inv K n m t s) : (s.ln 0).length+(s.ln 1).length+(s.ln 2).length+(s.ln 3).length=cnt (fun j=>(t.gs[j]?).map (·.1) == some 3) n:=by
 have c:∀ k,k < 4→cnt (fun j=>decide ((j:Int) ∈ s.ln k)) n=(s.ln k).length:=fun k hk=>line_cnt (h.nd k hk) (h.rng k hk)
 have d:∀ i j,i < 4→j < 4→i ≠ j→∀ x:Nat,decide ((x:Int) ∈ s.ln i)=true→decide ((x:Int) ∈ s.ln j)=false:=fun i j hi hj e x hx=>decide_eq_false (h.dis i j hi hj e _ (of_decide_eq_true hx))
 rw [← c 0 (by decide),← c 1 (by decide),← c 2 (by decide),← c 3 (by decide),← cnt_or (fun j _=>d 0 1 (by decide) (by decide) (by decide) j),← cnt_or (fun j _ hj=>?_),← cnt_or (fun j _ hj=>?_)]
 ·refine cnt_congr (fun j hj=>?_)
  have hjl:j < t.gs.length:=by rw [h.len]; exact hj
  have hw:=h.wt j _ _ (List.getElem?_eq_getElem hjl)
  rw [List.getElem?_eq_getElem hjl]
  show _=((some ((t.gs[j]).1) : Option Nat) == some 3)
  have e1:((some ((t.gs[j]).1) : Option Nat) == some 3)=decide ((t.gs[j]).1=3):=by
   by_cases q:(t.gs[j]).1=3
   ·rw [q]; rfl
   ·rw [decide_eq_false q]
    simpa using q
  rw [e1]
  rw [← Bool.decide_or,← Bool.decide_or,← Bool.decide_or]
  refine decide_eq_decide.2 ?_
  refine Iff.trans ?_ hw.symm
  constructor
  ·rintro (((h | h) | h) | h)
   ·exact ⟨0,by decide,h⟩
   ·exact ⟨1,by decide,h⟩
   ·exact ⟨2,by decide,h⟩
   ·exact ⟨3,by decide,h⟩
  ·rintro ⟨k,hk,h⟩
   match k,hk with
   | 0,_=>exact .inl (.inl (.inl h))
   | 1,_=>exact .inl (.inl (.inr h))
   | 2,_=>exact .inl (.inr h)
   | 3,_=>exact .inr h
 ·rcases Bool.or_eq_true _ _ ▸ hj with hj | hj
  ·rcases Bool.or_eq_true _ _ ▸ hj with hj | hj
   ·exact d 0 3 (by decide) (by decide) (by decide) j hj
   ·exact d 1 3 (by decide) (by decide) (by decide) j hj
  ·exact d 2 3 (by decide) (by decide) (by decide) j hj
 ·rcases Bool.or_eq_true _ _ ▸ hj with hj | hj
  ·exact d 0 2 (by decide) (by decide) (by decide) j hj
  ·exact d 1 2 (by decide) (by decide) (by decide) j hj
end
end Go.Proofs.Ytankbefdlbcdnaa
namespace Go.Proofs.Ytankbefdlbcdnaa
open Go.RowKit
open Go.Ev (iz iN pz)
set_option linter.unusedVariables false
set_option linter.unusedSimpArgs false
structure MoveS where
 g:Int
 b:Nat
 go:Bool
 hb:b < 256
def MoveS.cells (m:MoveS) : List Value:=[iz m.g,.int .u8 (m.b:Int),.bool m.go]
theorem mv_drop {ms:List MoveS} {j:Nat} {m:MoveS} (h:ms[j]? = some m) : ∃ tl,(ms.flatMap MoveS.cells).drop (j * 3)=m.cells++tl:=by
 induction ms generalizing j with
 | nil=>simp at h
 | cons q ms ih =>
  rw [List.flatMap_cons]
  match j with
  | 0 =>
   obtain rfl:q=m:=by simpa using h
   exact ⟨ms.flatMap MoveS.cells,by simp⟩
  | j+1 =>
   obtain ⟨tl,e⟩:=ih (j:=j) (by simpa using h)
   refine ⟨tl,?_⟩
   have h3:q.cells.length=3:=rfl
   rw [List.drop_append,List.drop_eq_nil_of_le (by rw [h3]; omega),h3,show (j+1) * 3 - 3=j * 3 by omega,List.nil_append]
   exact e
theorem mv_at {ms:List MoveS} {j:Nat} {m:MoveS} {b:Bool} (h:ms[j]? = some m) (hb:m.go=b) : [iz m.g,.int .u8 (m.b:Int),.bool b]=((ms.flatMap MoveS.cells).drop (j * 3)).take 3:=by
 obtain ⟨tl,e⟩:=mv_drop h
 rw [e,← hb]
 rfl
theorem infMv:∃ i,Try.prog.info? 35 = some i∧i.size=3∧True∧True:=by
 have h:(Try.prog.info? 35).map (fun i=>i.size)=some 3:=by kernel_rfl
 cases hi:Try.prog.info? 35 with
 | none=>rw [hi] at h; cases h
 | some i =>
  rw [hi] at h
  exact ⟨i,rfl,by simpa using h,trivial,trivial⟩
theorem loadMv:Ev.LoadAgg Try.prog 35 3:=by
 intro b o cs w hl h
 obtain ⟨i,i1,i2,_⟩:=infMv
 match cs,hl with
 | [c0,c1,c2],_ =>
  have h0:=h 0 (by omega)
  have h1:=h 1 (by omega)
  have h2:=h 2 (by omega)
  simp at h0 h1 h2
  simp [Instr.loadAt,Instr.sureAddr,loadVar,isAgg,run_underlying Try.underlying35,sizeOf,typeInfo,i1,i2,loadCells,loadCellsFrom,Ev.addMk,h0,h1,h2]
theorem loadU8:Ev.LoadOne Try.prog 5:=by
 intro b o x w h
 simp [Instr.loadAt,Instr.sureAddr,loadVar,isAgg,run_underlying Try.underlying5,h]
theorem fldMv0:∀ b o w,(Instr.fieldAt 35 (.pointer (some ⟨b,o,none⟩)) 0).run Try.prog w=.ok (.pointer (some ⟨b,o+0,none⟩)) w:=fun b o w=>by kernel_rfl
theorem fldMv1:∀ b o w,(Instr.fieldAt 35 (.pointer (some ⟨b,o,none⟩)) 1).run Try.prog w=.ok (.pointer (some ⟨b,o+1,none⟩)) w:=fun b o w=>by kernel_rfl
section
variable {w:World} {F:Nat→Prop} {bt:Nat} {t:Tab}
theorem set_any {g:Int} {nx:Nat} (O:t.Ok) (hn:nx < 5) (h:Ev.Now [tabA bt t] F w) :
  Calls Try.prog 10 #[pz bt,iz g,iN nx] w fun e w'=>∃ v cd,Ev.dec cd=v∧e=.returned v∧Ev.Hold ⟨w,F⟩ [tabA bt (t.setG g nx)] w':=by
 have d:∀ n:Int,∃ cd,Ev.dec cd=.int .i64 n:=Ev.dec_i64
 by_cases h0:0≤g
 ·obtain ⟨j,rfl⟩ : ∃ j:Nat,g=(j:Int):=⟨g.toNat,by omega⟩
  have e0:t.setG (j:Int) nx=(match t.gs[j]? with
   | some (a,_)=>if mayB a nx then t.set j nx else t
   | none=>t):=if_pos h0
  cases hj:t.gs[j]? with
  | none =>
   rw [e0,hj]
   obtain ⟨cd,hcd⟩:=d 5
   exact (set_out O hn (.inr (by have:=List.getElem?_eq_none_iff.1 hj; omega)) h).mono (fun _ _ h=>⟨_,cd,hcd,h.1,h.2⟩)
  | some p =>
   obtain ⟨a,b⟩:=p
   have e1:t.setG (j:Int) nx=if mayB a nx then t.set j nx else t:=by rw [e0,hj]
   rw [e1]
   cases hm:mayB a nx with
   | true =>
    rw [if_pos rfl]
    obtain ⟨cd,hcd⟩:=d 0
    exact (set_yes O hn hj hm h).mono (fun _ _ h=>⟨_,cd,hcd,h.1,h.2⟩)
   | false =>
    rw [if_neg (by decide)]
    obtain ⟨cd,hcd⟩:=d 4
    exact (set_no O hn hj hm h).mono (fun _ _ h=>⟨_,cd,hcd,h.1,h.2⟩)
 ·have e0:t.setG g nx=t:=if_neg h0
  rw [e0]
  obtain ⟨cd,hcd⟩:=d 5
  exact (set_out O hn (.inl (by omega)) h).mono (fun _ _ h=>⟨_,cd,hcd,h.1,h.2⟩)
theorem tab0_ok {n:Nat} (hn:n≤12) : (tab0 n).Ok where
 n:=by simp [tab0]; omega
 fn:=by simp [tab0,frL]; omega
 st:=fun p hp=>by simp [tab0] at hp; rw [hp.2]; exact ⟨by decide,by decide⟩
 fr:=fun j hj=>by
  simp [tab0,frL] at hj ⊢
  omega
theorem make_first {n:Nat} {v:Value} (hn:1≤n∧n≤12) (h:Ev.Now [tabV v (tab0 n)] F w) :
  Calls Try.prog 9 #[v] w fun e w'=>e=.returned (.tuple #[iz 0,iz 0])∧Ev.Hold ⟨w,F⟩ [tabV v ((tab0 n).make 0)] w':=by
 obtain ⟨b,rfl,h1⟩:=hold_tab (Ev.Hold.start h)
 obtain ⟨G,k1,k2,k3⟩:=h1.ex
 refine (make_yes (tab0_ok hn.2) (j:=0) (a:=0) (b:=0) ?_ ?_ k1).mono (fun e w' ⟨he,hh⟩=>⟨he,(Ev.Hold.into (l:=[]) hh k2 k3).head (b:=tabV (pz b) ((tab0 n).make 0)) (fun G h=>⟨b,rfl,h⟩)⟩)
 ·show (frL n n)[(frL n n).length - 1]? = some 0
  have e:(frL n n).length=n:=by simp [frL]
  rw [e]
  unfold frL
  rw [List.getElem?_map,List.getElem?_range (by omega)]
  show some (n - 1 - (n - 1))=some 0
  rw [Nat.sub_self]
 ·simp [tab0,List.getElem?_replicate]
  omega
end
end Go.Proofs.Ytankbefdlbcdnaa
