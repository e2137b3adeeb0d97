/- Part of a proof: see the last text. -/
import Derived.Test.YtankbefdlbcdnaaZo12
import Derived.OwnWalk
namespace Go.Ev
open Go.RowKit
set_option linter.unusedVariables false
set_option linter.unusedSimpArgs false
set_option linter.unusedSectionVars false
def Tm (l:List (Nat×Value)) (A:Act) : Prop:=∀ p ∈ l,A.tmps.getD p.1 undef=p.2
structure At (c:Ctx) (N:Nat) (tm:List (Nat×Value)) (l:List Asr) (A:Act) (w:World) : Prop where
 sz:A.tmps.size=N
 df:A.defers=[]
 tm:Tm tm A
 hold:Hold c l w
def Pie (P:Program) (f:FuncId) (p:List Nat) (i k N:Nat) (c:Ctx) (tm:List (Nat×Value)) (l:List Asr) (ex:Exit) {α:Type} (tm':α→List (Nat×Value)) (l':α→List Asr) : Prop :=
 ∀ (A:Act) (w:World) (Q:Exit→Act→World→Prop),At c N tm l A w→(∀ x A1 w1,At c N (tm' x) (l' x) A1 w1→Exit.then (wpL P (stm P f p (i+k)) Q) Q ex A1 w1)→wpL P (stm P f p i) Q A w
def PieE (P:Program) (f:FuncId) (p:List Nat) (i N:Nat) (c:Ctx) (tm:List (Nat×Value)) (l:List Asr) {α:Type} (r:α→Value) (l':α→List Asr) : Prop :=
 ∀ (A:Act) (w:World) (R:Ending→World→Prop),At c N tm l A w→(∀ x w1,Hold c (l' x) w1→R (.returned (r x)) w1)→wpL P (stm P f p i) (bodyPostM Fence.wide 0 P (fnOf P f) R) A w
def blkOf [Sig] (κ:Ren) (q:Blk) : Asr:=blkA ((κ q.1).getD 0) (q.2.1.map (concF 3 κ)) q.2.2
def cvp [Sig] (κ:Ren) (p:Nat×Value) : Nat×Value:=(p.1,concF 3 κ p.2)
noncomputable def nodB:List Nat→Bool
 | []=>true
 | i::l=>!(memB i l) && nodB l
theorem nodB_ok:∀ {l:List Nat},nodB l=true→l.Nodup
 | [],_=>List.nodup_nil
 | i::l,h=>by
  have h':(!(memB i l) && nodB l)=true:=h
  simp only [Bool.and_eq_true,Bool.not_eq_true'] at h'
  exact List.nodup_cons.2 ⟨memB_mem h'.1,nodB_ok h'.2⟩
noncomputable def knowB (rn:List (Nat×Nat)) (live0:List (Nat×Value)) (bl:List Blk) (live1:List (Nat×Value)) (bl1:List Blk) : Bool :=
 eqL (rn.map Prod.fst) (bl.map Prod.fst) && (nodB (rn.map Prod.fst) && (nodB (bl1.map Prod.fst) && (live0.all (fun p=>knI rn 3 p.2) && (bl.all (fun q=>q.2.1.all (knI rn 3)) && (live1.all (fun p=>knF 3 p.2) && bl1.all (fun q=>q.2.1.all (knF 3)))))))
theorem ren_mem:∀ {rn:List (Nat×Nat)},(rn.map Prod.fst).Nodup→∀ {p:Nat×Nat},p ∈ rn→renOf rn p.1=some p.2
 | [],_,p,h=>by cases h
 | q::rn,hn,p,h=>by
  rw [List.map_cons,List.nodup_cons] at hn
  unfold renOf
  rw [List.find?_cons]
  rcases List.mem_cons.1 h with e | h
  ·subst e
   simp
  ·have hne:(q.1 == p.1)=false:=by
    have:q.1 ≠ p.1:=fun e=>hn.1 (by rw [e]; exact List.mem_map_of_mem h)
    simpa using this
   rw [hne]
   exact ren_mem hn.2 h
theorem blks_of {rn:List (Nat×Nat)} [Sig] {bl:List Blk} {gl:List Asr} {F:Nat→Prop} {w:World} (hids:rn.map Prod.fst=bl.map Prod.fst) (hn:(rn.map Prod.fst).Nodup) (hk:∀ q ∈ bl,∀ v ∈ q.2.1,knI rn 3 v=true) (h:Now (bl.map (blkOf (renOf rn))++gl) F w) :
  ∃ F',Blks rn bl F' w∧Now gl F' w∧∀ j,F j↔(∃ p ∈ rn,p.2=j)∨F' j:=by
 obtain ⟨F1,F2,h1,h2,h3,h4⟩:=now_split h
 obtain ⟨⟨Fs,q⟩,lt⟩:=h1
 have hmem:∀ x ∈ bl,∃ b,(x.1,b) ∈ rn∧renOf rn x.1=some b:=fun x hx=>by
  have:x.1 ∈ rn.map Prod.fst:=by rw [hids]; exact List.mem_map_of_mem hx
  obtain ⟨p,hp,e⟩:=List.mem_map.1 this
  exact ⟨p.2,by rw [← e]; exact hp,by rw [← e]; exact ren_mem hn hp⟩
 have hback:∀ p ∈ rn,∃ x ∈ bl,x.1=p.1:=fun p hp=>by
  have:p.1 ∈ bl.map Prod.fst:=by rw [← hids]; exact List.mem_map_of_mem hp
  obtain ⟨x,hx,e⟩:=List.mem_map.1 this
  exact ⟨x,hx,e⟩
 have part:∀ (i:Nat) x,bl[i]? = some x→∃ f,Fs[i]? = some f∧(∀ j,f j↔j=(renOf rn x.1).getD 0)∧w.heap[(renOf rn x.1).getD 0]? = some (.cells (x.2.1.map (concF 3 (renOf rn))).toArray x.2.2 (0,0)):=by
  intro i x hx
  have hl:(bl.map (blkOf (renOf rn)))[i]? = some (blkOf (renOf rn) x):=by rw [List.getElem?_map,hx]; rfl
  have hlt:i < Fs.length:=by rw [q.len]; exact (List.getElem?_eq_some_iff.1 hl).1
  have:=q.holds i _ _ hl (List.getElem?_eq_getElem hlt)
  exact ⟨_,List.getElem?_eq_getElem hlt,this.1,this.2⟩
 have hF1:∀ j,F1 j↔∃ p ∈ rn,p.2=j:=by
  intro j
  rw [q.all]
  constructor
  ·rintro ⟨i,f,k1,k2⟩
   have hlt:i < bl.length:=by have:=(List.getElem?_eq_some_iff.1 k1).1; rw [q.len] at this; simpa using this
   obtain ⟨f',e1,e2,e3⟩:=part i bl[i] (List.getElem?_eq_getElem hlt)
   rw [k1] at e1
   cases e1
   obtain ⟨b,m1,m2⟩:=hmem bl[i] (by simp)
   rw [m2] at e2
   exact ⟨_,m1,((e2 j).1 k2).symm⟩
  ·rintro ⟨p,hp,e⟩
   obtain ⟨x,hx,ex⟩:=hback p hp
   obtain ⟨i,hi,ei⟩:=List.getElem_of_mem hx
   obtain ⟨f',e1,e2,e3⟩:=part i x (by rw [List.getElem?_eq_getElem hi,ei])
   refine ⟨i,f',e1,(e2 j).2 ?_⟩
   rw [ex,ren_mem hn hp]
   exact e.symm
 refine ⟨F2,⟨fun x hx=>?_,fun p hp p' hp' e=>?_,fun p hp hf=>h3 p.2 ((hF1 _).2 ⟨p,hp,rfl⟩) hf⟩,h2,fun j=>by rw [h4 j,hF1 j]⟩
 ·obtain ⟨i,hi,ei⟩:=List.getElem_of_mem hx
  obtain ⟨f',e1,e2,e3⟩:=part i x (by rw [List.getElem?_eq_getElem hi,ei])
  obtain ⟨b,m1,m2⟩:=hmem x hx
  rw [m2] at e3
  refine ⟨b,x.2.1.map (concF 3 (renOf rn)),m2,e3,by simp,fun i v v' a1 a2=>?_⟩
  rw [List.getElem?_map,a1] at a2
  cases a2
  exact concF_to 3 v (hk x hx v (List.mem_of_getElem? a1))
 ·obtain ⟨x,hx,ex⟩:=hback p hp
  obtain ⟨x',hx',ex'⟩:=hback p' hp'
  obtain ⟨i,hi,ei⟩:=List.getElem_of_mem hx
  obtain ⟨i',hi',ei'⟩:=List.getElem_of_mem hx'
  obtain ⟨f,a1,a2,_⟩:=part i x (by rw [List.getElem?_eq_getElem hi,ei])
  obtain ⟨f',b1,b2,_⟩:=part i' x' (by rw [List.getElem?_eq_getElem hi',ei'])
  rw [ex,ren_mem hn hp] at a2
  rw [ex',ren_mem hn hp'] at b2
  by_cases hii:i=i'
  ·subst hii
   rw [← ex,← ex',← ei,← ei']
  ·exact (q.apart i i' f f' hii a1 b1 p.2 ((a2 _).2 rfl) ((b2 _).2 e)).elim
theorem now_blks [Sig] {κ:Ren} {w:World} : ∀ (bl:List Blk),(bl.map Prod.fst).Nodup→(∀ q ∈ bl,∀ v ∈ q.2.1,knF 3 v=true)→(∀ q ∈ bl,∃ b c',κ q.1=some b∧w.heap[b]? = some (.cells c' q.2.2 (0,0))∧ARel κ q.2.1.toArray c')→(∀ q ∈ bl,∀ q' ∈ bl,κ q.1=κ q'.1→q.1=q'.1) →
  Now (bl.map (blkOf κ)) (fun j=>∃ q ∈ bl,κ q.1=some j) w
 | [],_,_,_,_=>now_same (now_nil w) (fun j=>⟨fun h=>h.elim,fun ⟨q,h,_⟩=>by cases h⟩)
 | q::bl,hn,hk,hc,hi=>by
  rw [List.map_cons,List.nodup_cons] at hn
  obtain ⟨b,c',e1,e2,e3⟩:=hc q (List.mem_cons_self ..)
  have ih:=now_blks bl hn.2 (fun x hx=>hk x (List.mem_cons_of_mem _ hx)) (fun x hx=>hc x (List.mem_cons_of_mem _ hx)) (fun x hx y hy=>hi x (List.mem_cons_of_mem _ hx) y (List.mem_cons_of_mem _ hy))
  have ec:c'=(q.2.1.map (concF 3 κ)).toArray:=by
   have:=arr_of (f:=q.2.1.toArray) (f':=c') (n:=3) e3.1 e3.2 (by rw [List.all_eq_true]; exact fun v hv=>hk q (List.mem_cons_self ..) v (by simpa using hv)) (fun v v'=>concF_eq 3)
   simpa using this
  subst ec
  have eb:(κ q.1).getD 0=b:=by rw [e1]; rfl
  refine now_same (now_cons (a:=blkOf κ q) (Fa:=fun j=>j=b) ⟨fun j=>by rw [eb],by rw [eb]; exact e2⟩ ih (fun j hj=>by rw [hj]; exact (Array.getElem?_eq_some_iff.1 e2).1) (fun j hj ⟨x,hx,ex⟩=>?_)) (fun j=>?_)
  ·rw [hj] at ex
   exact hn.1 (by rw [hi q (List.mem_cons_self ..) x (List.mem_cons_of_mem _ hx) (e1.trans ex.symm)]; exact List.mem_map_of_mem hx)
  ·constructor
   ·rintro (h | ⟨x,hx,ex⟩)
    ·exact ⟨q,List.mem_cons_self ..,by rw [h]; exact e1⟩
    ·exact ⟨x,List.mem_cons_of_mem _ hx,ex⟩
   ·rintro ⟨x,hx,ex⟩
    rcases List.mem_cons.1 hx with e | hx
    ·subst e
     rw [e1] at ex
     exact .inl (Option.some.inj ex).symm
    ·exact .inr ⟨x,hx,ex⟩
noncomputable def tmL (gb:Nat→Value) : Nat→Nat→List (Nat×Value)→List Value
 | 0,_,_=>[]
 | n+1,i,[]=>gb i::tmL gb n (i+1) []
 | n+1,i,p::l=>@Bool.rec (fun _=>List Value) (gb i::tmL gb n (i+1) (p::l)) (p.2::tmL gb n (i+1) l) (Nat.beq p.1 i)
theorem tmL_get (gb:Nat→Value) : ∀ (n i:Nat) (l:List (Nat×Value)),(tmL gb n i l).length=n∧∀ (j:Nat) v,(tmL gb n i l)[j]? = some v→v=gb (i+j)∨(i+j,v) ∈ l
 | 0,i,l=>⟨rfl,fun j v h=>by cases h⟩
 | n+1,i,[]=>by
  obtain ⟨h1,h2⟩:=tmL_get gb n (i+1) []
  refine ⟨by show (gb i::tmL gb n (i+1) []).length=_; rw [List.length_cons,h1],fun j v h=>?_⟩
  match j with
  | 0=>cases h; exact .inl rfl
  | j+1 =>
   have:=h2 j v h
   rw [show i+1+j=i+(j+1) by omega] at this
   exact this
 | n+1,i,p::l=>by
  show (@Bool.rec (fun _=>List Value) (gb i::tmL gb n (i+1) (p::l)) (p.2::tmL gb n (i+1) l) (Nat.beq p.1 i)).length=_∧∀ (j:Nat) v,(@Bool.rec (fun _=>List Value) (gb i::tmL gb n (i+1) (p::l)) (p.2::tmL gb n (i+1) l) (Nat.beq p.1 i))[j]? = some v→_
  cases hb:Nat.beq p.1 i with
  | true =>
   have e:=Nat.eq_of_beq_eq_true hb
   obtain ⟨h1,h2⟩:=tmL_get gb n (i+1) l
   refine ⟨by show (p.2::tmL gb n (i+1) l).length=_; rw [List.length_cons,h1],fun j v h=>?_⟩
   match j with
   | 0=>cases h; exact .inr (by rw [Nat.add_zero,← e]; exact List.mem_cons_self ..)
   | j+1 =>
    have:=h2 j v h
    rw [show i+1+j=i+(j+1) by omega] at this
    exact this.imp id (List.mem_cons_of_mem _)
  | false =>
   obtain ⟨h1,h2⟩:=tmL_get gb n (i+1) (p::l)
   refine ⟨by show (gb i::tmL gb n (i+1) (p::l)).length=_; rw [List.length_cons,h1],fun j v h=>?_⟩
   match j with
   | 0=>cases h; exact .inl rfl
   | j+1 =>
    have:=h2 j v h
    rw [show i+1+j=i+(j+1) by omega] at this
    exact this
theorem tmL_rel [Sig] {A:Act} {N:Nat} (hN:A.tmps.size=N) {ι:Ren} (live:List (Nat×Value)) (hl:∀ p ∈ live,VRel ι p.2 (A.tmps.getD p.1 undef)) : ∃ gb:Nat→Value,LRel ι (tmL gb N 0 live) A.tmps.toList:=by
 have h:∀ i,∃ v:Value,∀ ι:Ren,VRel ι v (A.tmps.getD i undef):=fun i=>garb_ex _
 obtain ⟨k1,k2⟩:=tmL_get (fun i=>Classical.choose (h i)) N 0 live
 refine ⟨fun i=>Classical.choose (h i),by rw [k1]; simp [hN],fun i v v' h1 h2=>?_⟩
 have e:v'=A.tmps.getD i undef:=by
  rw [Array.getElem?_toList] at h2
  rw [Array.getD_eq_getD_getElem?,h2]
  rfl
 rcases k2 i v h1 with hv | hv
 ·rw [hv,e,Nat.zero_add]
  exact Classical.choose_spec (h i) ι
 ·rw [e]
  have:=hl _ hv
  rw [Nat.zero_add] at this
  exact this
theorem known_ok {rn:List (Nat×Nat)} {live0 live1:List (Nat×Value)} {bl bl1:List Blk} (h:knowB rn live0 bl live1 bl1=true) :
  rn.map Prod.fst=bl.map Prod.fst∧(rn.map Prod.fst).Nodup∧(bl1.map Prod.fst).Nodup∧(∀ p ∈ live0,knI rn 3 p.2=true)∧(∀ q ∈ bl,∀ v ∈ q.2.1,knI rn 3 v=true)∧(∀ p ∈ live1,knF 3 p.2=true)∧∀ q ∈ bl1,∀ v ∈ q.2.1,knF 3 v=true:=by
 unfold knowB at h
 simp only [Bool.and_eq_true,List.all_eq_true] at h
 obtain ⟨h1,h2,h3,h4,h5,h6,h7⟩:=h
 exact ⟨eqL_eq h1,nodB_ok h2,nodB_ok h3,h4,h5,h6,h7⟩
theorem tri_pre (k:Kn) {c:Ctx} {N g:Nat} {rn:List (Nat×Nat)} {bl:List Blk} {gl:List Asr} {live0:List (Nat×Value)} (hg:k.gs[g]? = some (star (oldX c.W c.X::gl))) (hids:rn.map Prod.fst=bl.map Prod.fst) (hn:(rn.map Prod.fst).Nodup) (hk0:∀ p ∈ live0,knI rn 3 p.2=true) (hkb:∀ q ∈ bl,∀ v ∈ q.2.1,knI rn 3 v=true)
  {A:Act} {w:World} (h:letI:Sig:=k.sig; At c N (live0.map (cvp (renOf rn))) (bl.map (blkOf (renOf rn))++gl) A w) : letI:Sig:=k.sig; ∃ F,Blks rn bl F w∧Sig.GR g (renOf rn) F w∧(∀ j,F j→j < w.heap.size)∧∃ gb:Nat→Value,LRel (renOf rn) (tmL gb N 0 live0) A.tmps.toList:=by
 letI:Sig:=k.sig
 obtain ⟨sz,df,tm,hh⟩:=h
 obtain ⟨F,h1,h2,h3⟩:=hh.ex
 obtain ⟨F',b1,b2,b3⟩:=blks_of hids hn hkb h1
 have ho:Now (oldX c.W c.X::gl) (fun j=>(j < c.W.heap.size∧¬ c.X j)∨F' j) w:=now_cons ⟨fun j=>Iff.rfl,fun j hj hx=>h2.block j hj hx⟩ b2 (fun j hj=>Nat.lt_of_lt_of_le hj.1 h2.size) (fun j hj hf=>by
  rcases h3 j ((b3 j).2 (.inr hf)) with h | h
  ·exact hj.2 h
  ·omega)
 refine ⟨_,⟨b1.there,b1.inj,fun p hp hf=>?_⟩,⟨_,hg,(star _).mono (fun _=>none) _ _ w (fun _ _ e=>by cases e) ho.st⟩,ho.lt,tmL_rel sz live0 (fun p hp=>?_)⟩
 ·rcases hf with hf | hf
  ·rcases h3 p.2 ((b3 _).2 (.inl ⟨p,hp,rfl⟩)) with h | h
   ·exact hf.2 h
   ·omega
  ·exact b1.out p hp hf
 ·have e:=tm (cvp (renOf rn) p) (List.mem_map_of_mem hp)
  show VRel _ p.2 (A.tmps.getD (cvp (renOf rn) p).1 undef)
  rw [e]
  exact concF_to 3 p.2 (hk0 p hp)
theorem tri_post (k:Kn) {c:Ctx} {g':Nat} {rn:List (Nat×Nat)} {bl1:List Blk} {gl':List Asr} (hg':k.gs[g']? = some (star (oldX c.W c.X::gl'))) (hn1:(bl1.map Prod.fst).Nodup) (hkb:∀ q ∈ bl1,∀ v ∈ q.2.1,knF 3 v=true) {F:Nat→Prop} {w w1:World} {κ:Ren} (hc:Same c.W w) (L:letI:Sig:=k.sig; Left rn bl1 g' F w κ w1) :
  letI:Sig:=k.sig; Hold c (bl1.map (blkOf κ)++gl'.map (frz κ)) w1:=by
 letI:Sig:=k.sig
 obtain ⟨F',⟨a,q1,q2⟩,q3,q4⟩:=L.gh
 rw [hg'] at q1
 cases q1
 obtain ⟨Fo,Fg,⟨o1,o2⟩,n1,n2,n3⟩:=now_uncons (now_frz q2 (fun j hj=>(q3 j hj).1))
 have nb:=now_blks bl1 hn1 hkb L.cls L.inj
 have hnot:∀ j,¬ Fo j→c.X j∨c.W.heap.size≤j:=fun j hj=>by
  rcases Nat.lt_or_ge j c.W.heap.size with h | h
  ·exact .inl (Classical.byContradiction fun hx=>hj ((o1 j).2 ⟨h,hx⟩))
  ·exact .inr h
 have hs:=hc.trans L.turn.same
 refine ⟨⟨_,now_append nb n1 (fun j ⟨q,hq,e⟩ hf=>q4 q hq j e ((n3 j).2 (.inr hf))),⟨hs.os,hs.tape,hs.output,hs.size,fun j hj hx=>o2 j hj hx⟩,fun j hj=>hnot j (fun hf=>?_)⟩⟩
 rcases hj with ⟨q,hq,e⟩ | hj
 ·exact q4 q hq j e ((n3 j).2 (.inl hf))
 ·exact n2 j hf hj
def ovr (rn:List (Nat×Nat)) (κ:Ren) : Ren:=fun id=>match renOf rn id with | some b=>some b | none=>κ id
theorem ovr_eq {rn:List (Nat×Nat)} {κ:Ren} (h:∀ id b,renOf rn id=some b→κ id=some b) : ovr rn κ=κ:=by
 funext id
 unfold ovr
 cases hr:renOf rn id with
 | none=>rfl
 | some b=>exact (h id b hr).symm
theorem tri {P:Program} (hP:P.check=.ok ()) (hm:P.follows .mixedOrders=true) (k:Kn) (hcal:@CalOK k.sig P) {n m N i kk:Nat} {f:FuncId} {p:List Nat} {c:Ctx} (rn:List (Nat×Nat)) (bl bl1:List Blk) (g g':Nat) (gl gl':List Asr) (hg:k.gs[g]? = some (star (oldX c.W c.X::gl))) (hg':k.gs[g']? = some (star (oldX c.W c.X::gl'))) (live0 live1:List (Nat×Value)) (ex:Exit) (hk:knowB rn live0 bl live1 bl1=true)
  (run:∀ gb:Nat→Value,letI:Sig:=k.sig; withB P (fun B=>segB B f p (fun _ c=>Nat.beq (tmL gb N 0 live0).length N && (Nat.ble N 4094 && (idsB m rn bl && segIs ex live1 bl1 g' (fromK (tmL gb N 0 live0) 0 .leaf (fun t=>pieceF B n N kk ((flat c).drop i) t (stOf (objsOf bl g) m)))))))=true) :
  letI:Sig:=k.sig; Pie P f p i kk N c (live0.map (cvp (renOf rn))) (bl.map (blkOf (renOf rn))++gl) ex (fun κ:Ren=>live1.map (cvp (ovr rn κ))) (fun κ:Ren=>bl1.map (blkOf (ovr rn κ))++gl'.map (frz (ovr rn κ))):=by
 letI:Sig:=k.sig
 intro A w Q hA hQ
 obtain ⟨k1,k2,k3,k4,k5,k6,k7⟩:=known_ok hk
 obtain ⟨F,b1,b2,b3,gb,b4⟩:=tri_pre k hg k1 k2 k4 k5 hA
 refine seg_run hP hcal hm (run gb) b1 b2 b3 b4 hA.df (fun κ A1 w1 sz df lv L=>hQ κ A1 w1 (by
  show At c N (live1.map (cvp (ovr rn κ))) (bl1.map (blkOf (ovr rn κ))++gl'.map (frz (ovr rn κ))) A1 w1
  rw [ovr_eq L.old]
  exact ⟨sz,df,fun q hq=>by
   obtain ⟨p0,hp0,rfl⟩:=List.mem_map.1 hq
   exact concF_eq 3 (lv p0 hp0) (k6 p0 hp0),tri_post k hg' k3 k7 hA.hold.same L⟩))
theorem triE {P:Program} (hP:P.check=.ok ()) (hm:P.follows .mixedOrders=true) (k:Kn) (hcal:@CalOK k.sig P) {n m N i kk:Nat} {f:FuncId} {p:List Nat} {c:Ctx} (rn:List (Nat×Nat)) (bl bl1:List Blk) (g g':Nat) (gl gl':List Asr) (hg:k.gs[g]? = some (star (oldX c.W c.X::gl))) (hg':k.gs[g']? = some (star (oldX c.W c.X::gl'))) (live0:List (Nat×Value)) (r:Value) (hk:knowB rn live0 bl [(0,r)] bl1=true)
  (run:∀ gb:Nat→Value,letI:Sig:=k.sig; withB P (fun B=>segB B f p (fun fn c=>Nat.beq (tmL gb N 0 live0).length N && (Nat.beq fn.ntmps N && (Nat.ble N 4094 && (idsB m rn bl && ((bl1.all (fun q=>Nat.beq (q.1 % 4) 0) && isNil ((flat c).drop (i+kk))) && outIs r bl1 (some g') (fromK (tmL gb N 0 live0) 0 .leaf (fun t=>fret B.P fn (pieceF B n N kk ((flat c).drop i) t (stOf (objsOf bl g) m))))))))))=true) :
  letI:Sig:=k.sig; PieE P f p i N c (live0.map (cvp (renOf rn))) (bl.map (blkOf (renOf rn))++gl) (fun κ:Ren=>concF 3 (ovr rn κ) r) (fun κ:Ren=>bl1.map (blkOf (ovr rn κ))++gl'.map (frz (ovr rn κ))):=by
 letI:Sig:=k.sig
 intro A w R hA hQ
 obtain ⟨k1,k2,k3,k4,k5,k6,k7⟩:=known_ok hk
 obtain ⟨F,b1,b2,b3,gb,b4⟩:=tri_pre k hg k1 k2 k4 k5 hA
 refine seg_end hP hcal hm (run gb) b1 b2 b3 b4 hA.df (fun κ v' w1 hv L=>?_)
 rw [concF_eq 3 hv (k6 _ (List.mem_singleton.2 rfl)),← congrArg (fun κ=>concF 3 κ r) (ovr_eq L.old)]
 exact hQ κ w1 (by
  show Hold c (bl1.map (blkOf (ovr rn κ))++gl'.map (frz (ovr rn κ))) w1
  rw [ovr_eq L.old]
  exact tri_post k hg' k3 k7 hA.hold.same L)
end Go.Ev
namespace Go.Ev
open Go.RowKit
set_option linter.unusedVariables false
set_option linter.unusedSimpArgs false
set_option linter.unusedSectionVars false
theorem con_start {P:Program} {f:FuncId} {N:Nat} {args:Array Value} {l:List Asr} {F:Nat→Prop} {w:World} {R:Ending→World→Prop} {tm:List (Nat×Value)} (hN:withB P (fun B=>segB B f [] (fun fn _=>Nat.beq fn.ntmps N))=true) (hn:Now l F w) (ha:args.size≤N) (ht:∀ p ∈ tm,args[p.1]? = some p.2)
  (h:∀ A,At ⟨w,F⟩ N tm l A w→wpL P (stm P f [] 0) (bodyPostM Fence.wide 0 P (fnOf P f) R) A w) : Calls P f args w R :=
 calls_body hN (h _ ⟨start_size ha,rfl,fun p hp=>start_get (ht p hp),Hold.start hn⟩)
theorem At.ret {P:Program} {f:FuncId} {i N:Nat} {v:Value} {c:Ctx} {tm:List (Nat×Value)} {l:List Asr} {A:Act} {w:World} (h:At c N tm l A w) (hr:withB P (fun B=>segB B f [] (fun fn _=>resTmps fn.results.toList [i]))=true) (hv:(i,v) ∈ tm) {R:Ending→World→Prop} (hR:Hold c l w→R (.returned v) w) : bodyPostM Fence.wide 0 P (fnOf P f) R .ret A w :=
 post_ret hr h.df (by rw [show A.tmps.getD i undef=v from h.tm _ hv]; exact hR h.hold)
theorem At.to {N:Nat} {c:Ctx} {tm tm':List (Nat×Value)} {l l':List Asr} {A:Act} {w:World} (h:At c N tm l A w) (ht:∀ p ∈ tm',p ∈ tm) (hl:Hold c l w→Hold c l' w) : At c N tm' l' A w:=⟨h.sz,h.df,fun p hp=>h.tm p (ht p hp),hl h.hold⟩
theorem loop_st {P:Program} {f:FuncId} {p:List Nat} {i:Nat} {Q:Exit→Act→World→Prop} {β:Type} (hl:withB P (fun B=>segB B f p (fun _ c=>isLoop ((flat c).drop i)))=true) (I:β→Act→World→Prop) (μ:β→Nat) {x:β} {A:Act} {w:World} (h0:I x A w)
  (step:∀ x A w,I x A w→wpL P (stm P f (p++[2 * i]) 0) (Exit.then (fun A w=>∃ y,I y A w∧μ y < μ x) (Exit.then (wpL P (stm P f p (i+1)) Q) Q)) A w) : wpL P (stm P f p i) Q A w:=by
 refine in_loop hl ?_
 have key:∀ n x A w,μ x≤n→I x A w→Code.roundsIn Fence.wide 0 P (place P f (p++[2 * i])) (Exit.then (wpL P (stm P f p (i+1)) Q) Q) (n+1) A w:=by
  intro n
  induction n with
  | zero =>
   intro x A w hx h
   rw [roundsIn_succ]
   refine wpIn_mono (wpL_flat (step x A w h)) (fun e a w h=>?_)
   cases e with
   | normal=>obtain ⟨y,_,h2⟩:=h; omega
   | _=>exact h
  | succ n ih =>
   intro x A w hx h
   rw [roundsIn_succ]
   refine wpIn_mono (wpL_flat (step x A w h)) (fun e a w h=>?_)
   cases e with
   | normal=>obtain ⟨y,h1,h2⟩:=h; exact ih y a w (by omega) h1
   | _=>exact h
 exact wpIn_loop_rounds _ (key (μ x) x A w (Nat.le_refl _) h0)
def Imps (w:World) : List Asr→List Asr→Prop
 | [],[]=>True
 | a::l,b::m=>(∀ f,a.p (fun _=>none) f w→b.p (fun _=>none) f w)∧Imps w l m
 | _,_=>False
theorem imps_now:∀ {l m:List Asr} {F:Nat→Prop} {w:World},Imps w l m→Now l F w→Now m F w
 | [],[],_,_,_,h=>h
 | a::l,b::m,F,w,⟨h1,h2⟩,h=>by
  obtain ⟨Fa,Fl,k1,k2,k3,k4⟩:=now_uncons h
  exact now_same (now_cons (h1 Fa k1) (imps_now h2 k2) (fun j hj=>h.lt j ((k4 j).2 (.inl hj))) k3) (fun j=>(k4 j).symm)
 | [],_::_,_,_,h,_=>h.elim
 | _::_,[],_,_,h,_=>h.elim
theorem Hold.conv {c:Ctx} {l m:List Asr} {w:World} (h:Hold c l w) (hi:Imps w l m) : Hold c m w:=by
 obtain ⟨F,h1,h2,h3⟩:=h.ex
 exact ⟨⟨F,imps_now hi h1,h2,h3⟩⟩
theorem Pie.conv {P:Program} {f:FuncId} {p:List Nat} {i k N:Nat} {c:Ctx} {tm:List (Nat×Value)} {l:List Asr} {ex:Exit} {α:Type} {tm':α→List (Nat×Value)} {l' l'':α→List Asr} (h:Pie P f p i k N c tm l ex tm' l') (hi:∀ x w,Imps w (l' x) (l'' x)) : Pie P f p i k N c tm l ex tm' l'' :=
 fun A w Q hA hQ=>h A w Q hA (fun x A1 w1 h1=>hQ x A1 w1 ⟨h1.sz,h1.df,h1.tm,h1.hold.conv (hi x w1)⟩)
theorem PieE.conv {P:Program} {f:FuncId} {p:List Nat} {i N:Nat} {c:Ctx} {tm:List (Nat×Value)} {l:List Asr} {α:Type} {r:α→Value} {l' l'':α→List Asr} (h:PieE P f p i N c tm l r l') (hi:∀ x w,Imps w (l' x) (l'' x)) : PieE P f p i N c tm l r l'' :=
 fun A w R hA hR=>h A w R hA (fun x w1 h1=>hR x w1 (h1.conv (hi x w1)))
theorem undy {κ:Ren} {d:Nat} {a:Value→Asr} {f:Nat→Prop} {w:World} (ha:∀ v,Flat (a v)) (h:(frz κ (atD d a)).p (fun _=>none) f w) : (a (dec ((κ d).getD 0))).p (fun _=>none) f w:=by
 obtain ⟨c,h1,h2⟩:=h
 rw [h1]
 exact ha _ _ _ _ _ h2
def Flats:List Asr→Prop
 | []=>True
 | a::l=>Flat a∧Flats l
theorem flats_get:∀ {l:List Asr},Flats l→∀ a ∈ l,Flat a
 | [],_,a,h=>by cases h
 | b::l,⟨h1,h2⟩,a,h=>by
  rcases List.mem_cons.1 h with rfl | h
  ·exact h1
  ·exact flats_get h2 a h
theorem Hold.frame {m r:List Asr} {F G:Nat→Prop} {w w':World} (h:Hold ⟨w,F⟩ m w') (hr:Now r G w) (hd:∀ j,F j→¬ G j) : Hold ⟨w,fun j=>F j∨G j⟩ (m++r) w':=by
 obtain ⟨F',h1,h2,h3⟩:=h.ex
 have hr':=now_keep hr (fun j hj=>h2.block j (hr.lt j hj) (fun hf=>hd j hf hj)) h2.size
 refine ⟨⟨_,now_append h1 hr' (fun j hj hg=>?_),⟨h2.os,h2.tape,h2.output,h2.size,fun j hj hn=>h2.block j hj (fun hf=>hn (.inl hf))⟩,fun j hj=>hj.elim (fun hj=>(h3 j hj).imp .inl id) (fun hj=>.inl (.inr hj))⟩⟩
 rcases h3 j hj with h | h
 ·exact hd j h hg
 ·have h0:w.heap.size≤j:=h
  have:=hr.lt j hg
  omega
theorem star_of {l m:List Asr} {κ:Ren} {F:Nat→Prop} {w:World} (h:Now l F w) (hl:m.length=l.length) (hm:∀ (i:Nat) a b f,l[i]? = some a→m[i]? = some b→a.p (fun _=>none) f w→b.p κ f w) : (star m).p κ F w:=by
 obtain ⟨⟨Fs,q⟩,lt⟩:=h
 refine ⟨Fs,by rw [q.len,hl],fun i b f h1 h2=>?_,q.apart,q.all⟩
 have hi:i < l.length:=by rw [← hl]; exact (List.getElem?_eq_some_iff.1 h1).1
 exact hm i l[i] b f (List.getElem?_eq_getElem hi) h1 (q.holds i _ f (List.getElem?_eq_getElem hi) h2)
theorem sel_map (l:List Asr) (idx:List Nat) (ι:Ren) : sel (l.map (frz ι)) idx=(sel l idx).map (frz ι):=by
 unfold sel
 rw [List.map_map]
 refine List.map_congr_left (fun i _=>?_)
 simp only [Function.comp,List.getD_eq_getElem?_getD,List.getElem?_map]
 cases l[i]? <;> rfl
theorem gc_gen {k:Kn} {P:Program} {c:Ctx} {f:FuncId} {abs args:List Value} {g g':Nat} {gl lp lqd:List Asr} {d0:Option Nat} {r:Value} (idx rest:List Nat) (hg:k.gs[g]? = some (star (oldX c.W c.X::gl))) (hg':k.gs[g']? = some (star (oldX c.W c.X::(lqd++sel gl rest)))) (hsel:selB gl.length (idx++rest)=true) (hp:sel gl idx=lp) (hf:Flats lp)
  (ha:∀ ι l',(letI:Sig:=k.sig; LRel ι abs l')→l'=args)
  (con:∀ (w:World) (F:Nat→Prop),OldW c.W c.X w→Now lp F w→(∀ j,F j→c.X j∨c.W.heap.size≤j)→Calls P f args.toArray w fun e w'=>∃ (v:Value) (cd:Nat) (lv:List Asr),e=.returned v∧Hold ⟨w,F⟩ lv w'∧lqd.length=lv.length ∧
   ∀ (ι:Ren) (d:Nat),(∀ y,d0=some y→y=d)→ι d=none→(letI:Sig:=k.sig; VRel (ι.upd d cd) r v)∧∀ (i:Nat) a b ff,lv[i]? = some a→lqd[i]? = some b→a.p (fun _=>none) ff w'→b.p (ι.upd d cd) ff w') : GCTrue k P ⟨f,abs,g,d0,r,some g'⟩:=by
 letI:Sig:=k.sig
 intro ι args' F w d hl h1 h2 h3 h4
 have e:=ha ι _ hl
 have ea:args'=args.toArray:=by rw [← e]
 subst ea
 obtain ⟨b,q1,q2⟩:=h1
 rw [hg] at q1
 cases q1
 have hd:ι d=none:=h3.elim id (fun h=>by cases h)
 obtain ⟨Fo,Fg,⟨o1,o2⟩,n1,n2,n3⟩:=now_uncons (l:=gl.map (frz ι)) (now_frz q2 h2)
 obtain ⟨F',s1,s2⟩:=now_sel n1 (idx++rest) (by rw [List.length_map]; exact hsel)
 have hsp:sel (gl.map (frz ι)) (idx++rest)=lp.map (frz ι)++(sel gl rest).map (frz ι):=by
  rw [sel_map,← hp,← List.map_append]
  unfold sel
  rw [List.map_append]
 rw [hsp] at s1
 obtain ⟨F1,F2,p1,p2,p3,p4⟩:=now_split s1
 have pl:Now lp F1 w:=now_map p1 (by simp) (fun i a b ff e1 e2 h=>by
  rw [List.getElem?_map,e2] at e1
  cases e1
  exact flats_get hf b (List.mem_of_getElem? e2) ι _ ff w h)
 have hFg:∀ j,Fg j→c.X j∨c.W.heap.size≤j:=fun j hj=>by
  rcases Nat.lt_or_ge j c.W.heap.size with h | h
  ·exact .inl (Classical.byContradiction fun hx=>n2 j ((o1 j).2 ⟨h,hx⟩) hj)
  ·exact .inr h
 refine (con w F1 o2 pl (fun j hj=>hFg j (s2 j ((p4 j).2 (.inl hj))))).mono ?_
 rintro e' w' ⟨v,cd,lv,rfl,hh,hlen,hrel⟩
 obtain ⟨G,g1,g2,g3⟩:=hh.ex
 obtain ⟨r1,r2⟩:=hrel ι d h4 hd
 have notF1:∀ j,Fo j→¬ F1 j:=fun j ho hf1=>n2 j ho (s2 j ((p4 j).2 (.inl hf1)))
 have kr:Now ((sel gl rest).map (frz ι)) F2 w':=now_keep p2 (fun j hj=>g2.block j (p2.lt j hj) (fun h=>p3 j h hj)) g2.size
 have lt0:∀ j,Fo j→j < w.heap.size:=fun j hj=>h2 j ((n3 j).2 (.inl hj))
 have disG:∀ j,G j→¬ F2 j:=fun j hj hf2=>by
  rcases g3 j hj with h | h
  ·exact p3 j h hf2
  ·have h0:w.heap.size≤j:=h
   have:=p2.lt j hf2
   omega
 have all:=now_cons (a:=oldX c.W c.X) (Fa:=Fo) ⟨o1,fun j hj hx=>(g2.block j (lt0 j ((o1 j).2 ⟨hj,hx⟩)) (notF1 j ((o1 j).2 ⟨hj,hx⟩))).trans (o2 j hj hx)⟩ (now_append g1 kr disG) (fun j hj=>Nat.lt_of_lt_of_le (lt0 j hj) g2.size) (fun j hj hx=>by
  rcases hx with hx | hx
  ·rcases g3 j hx with h | h
   ·exact notF1 j hj h
   ·have h0:w.heap.size≤j:=h
    have:=lt0 j hj
    omega
  ·exact n2 j hj (s2 j ((p4 j).2 (.inr hx))))
 refine ⟨v,rfl,cd,_,r1,⟨_,hg',star_of all (by simp [hlen]) (fun i a b ff e1 e2 h=>?_)⟩,⟨g2.os,g2.tape,g2.output,g2.size,fun j hj hn=>g2.block j hj (fun hf=>hn ((n3 j).2 (.inr (s2 j ((p4 j).2 (.inl hf))))))⟩,fun j hj=>⟨all.lt j hj,?_⟩⟩
 ·match i with
  | 0=>cases e1; cases e2; exact h
  | i+1 =>
   rw [List.getElem?_cons_succ] at e1 e2
   rcases Nat.lt_or_ge i lv.length with hi | hi
   ·rw [List.getElem?_append_left hi] at e1
    rw [List.getElem?_append_left (by rw [hlen]; exact hi)] at e2
    exact r2 i a b ff e1 e2 h
   ·rw [List.getElem?_append_right hi,List.getElem?_map] at e1
    rw [List.getElem?_append_right (by rw [hlen]; exact hi),hlen] at e2
    rw [e2] at e1
    cases e1
    exact b.mono ι _ ff w' (Ren.upd_le (b:=cd) hd) h
 ·rcases hj with hj | hj | hj
  ·exact .inl ((n3 j).2 (.inl hj))
  ·rcases g3 j hj with h | h
   ·exact .inl ((n3 j).2 (.inr (s2 j ((p4 j).2 (.inl h)))))
   ·exact .inr h
  ·exact .inl ((n3 j).2 (.inr (s2 j ((p4 j).2 (.inr hj)))))
theorem gc_con {k:Kn} {P:Program} {c:Ctx} {f:FuncId} {abs args:List Value} {g g':Nat} {gl lp lq:List Asr} {r rv:Value} (idx rest:List Nat) (hg:k.gs[g]? = some (star (oldX c.W c.X::gl))) (hg':k.gs[g']? = some (star (oldX c.W c.X::(lq++sel gl rest)))) (hsel:selB gl.length (idx++rest)=true) (hp:sel gl idx=lp) (hf:Flats lp)
  (ha:∀ ι l',(letI:Sig:=k.sig; LRel ι abs l')→l'=args) (hr:∀ ι,(letI:Sig:=k.sig; VRel ι r rv))
  (con:∀ (w:World) (F:Nat→Prop),OldW c.W c.X w→Now lp F w→(∀ j,F j→c.X j∨c.W.heap.size≤j)→Calls P f args.toArray w fun e w'=>e=.returned rv∧Hold ⟨w,F⟩ lq w') : GCTrue k P ⟨f,abs,g,none,r,some g'⟩:=by
 letI:Sig:=k.sig
 refine gc_gen idx rest hg hg' hsel hp hf ha (fun w F h1 h2 h3=>(con w F h1 h2 h3).mono ?_)
 rintro e w' ⟨rfl,hh⟩
 refine ⟨rv,0,lq,rfl,hh,rfl,fun ι d _ hd=>⟨hr _,fun i a b ff e1 e2 h=>?_⟩⟩
 rw [e1] at e2
 cases e2
 exact a.mono _ _ ff w' (fun _ _ e=>by cases e) h
theorem gc_dyn {k:Kn} {P:Program} {c:Ctx} {f:FuncId} {abs args:List Value} {g g' d1:Nat} {gl lp lqd:List Asr} {r:Value} {ret:Value→Value} {lq:Value→List Asr} (idx rest:List Nat) (hg:k.gs[g]? = some (star (oldX c.W c.X::gl))) (hg':k.gs[g']? = some (star (oldX c.W c.X::(lqd++sel gl rest)))) (hsel:selB gl.length (idx++rest)=true) (hp:sel gl idx=lp) (hf:Flats lp)
  (ha:∀ ι l',(letI:Sig:=k.sig; LRel ι abs l')→l'=args) (hr:∀ (ι:Ren) cd,ι d1=some cd→(letI:Sig:=k.sig; VRel ι r (ret (dec cd)))) (hq:∀ (ι:Ren) cd w',ι d1=some cd→lqd.length=(lq (dec cd)).length∧∀ (i:Nat) a b ff,(lq (dec cd))[i]? = some a→lqd[i]? = some b→a.p (fun _=>none) ff w'→b.p ι ff w')
  (con:∀ (w:World) (F:Nat→Prop),OldW c.W c.X w→Now lp F w→(∀ j,F j→c.X j∨c.W.heap.size≤j)→Calls P f args.toArray w fun e w'=>∃ v cd,dec cd=v∧e=.returned (ret v)∧Hold ⟨w,F⟩ (lq v) w') : GCTrue k P ⟨f,abs,g,some d1,r,some g'⟩:=by
 letI:Sig:=k.sig
 refine gc_gen idx rest hg hg' hsel hp hf ha (fun w F h1 h2 h3=>(con w F h1 h2 h3).mono ?_)
 rintro e w' ⟨v,cd,rfl,rfl,hh⟩
 have up:∀ (ι:Ren),(ι.upd d1 cd) d1=some cd:=fun ι=>by simp [Ren.upd]
 refine ⟨_,cd,lq (dec cd),rfl,hh,(hq _ cd w' (up (fun _=>none))).1,fun ι d hd0 hd=>?_⟩
 obtain rfl:=hd0 d1 rfl
 exact ⟨hr _ cd (up ι),(hq _ cd w' (up ι)).2⟩
def slA (e:TypeId) (sz:Nat) (v:Value) (n:Nat) (xs:List Value) : Asr where
 p:=fun _ F w=>SlV e sz v n xs F w
 keep:=fun _ F w w' hk h=>h.keep hk
 mono:=fun _ _ _ _ _ h=>h
section rows
variable {k:Kn} {P:Program} {g g':Nat} {l:List Asr} {ci:Nat} {t e:TypeId} {sL sI sP sQ sV n sz m:Nat} {v:Value} {xs:List Value} {i:TypeInfo}
theorem sl_len (hg:k.gs[g]? = some (star l)) (hi:l[ci]? = some (slA e sz v n xs)) (ht:P.underlying t=some (.slice e)) (hsz:i.size=sz) (hL:k.val sL=v) (hV:k.val sV=.int .i64 (n:Int)) : GTrue k P ⟨[10,t],[sy sL],none,g,none,sy sV,none⟩:=by
 subst hsz
 refine GTrue.len k ?_
 letI:Sig:=k.sig
 intro ι F w d x' ty q hx
 obtain ⟨Fs,ff,hS,hf,h1⟩:=star_ask hg hi q
 rw [vsymR hx,hL]
 exact ⟨_,w,SlV.len h1 ht ty,rsymR hV,Below.refl _ _⟩
theorem slv_ptr {sz n m:Nat} {v:Value} {xs:List Value} {F:Nat→Prop} {w:World} (h:SlV e sz v n xs F w) (hm:m < n * sz) : ∃ b off c,v=.slice (some ⟨b,off,none⟩) n c∧ptrR v m=.pointer (some ⟨b,off+m,none⟩)∧F b∧w.cell? ⟨b,off+m,none⟩=xs[m]?∧w.frozen? ⟨b,off+m,none⟩=false:=by
 obtain ⟨h1,⟨_,rfl,hF⟩ | ⟨b,off,c,arr,rfl,hF,hb0,hx,hsz,hnc⟩⟩:=h
 ·simp at hm
 ·exact ⟨b,off,c,rfl,rfl,(hF b).2 rfl,by rw [← hx m hm]; simp [World.cell?,hb0],by simp [World.frozen?,hb0]⟩
theorem sl_index {kd:IntKind} {j:Nat} (hg:k.gs[g]? = some (star l)) (hi:l[ci]? = some (slA e sz v n xs)) (ht:P.underlying t=some (.slice e)) (hinf:P.info? e=some i) (hsz:i.size=sz) (hL:k.val sL=v) (hI:k.val sI=.int kd (j:Int)) (hj:j < n) (hP:k.val sP=ptrR v (j * sz)) : GTrue k P ⟨[3,t],[sy sL,sy sI],none,g,none,sy sP,none⟩:=by
 subst hsz
 refine GTrue.index k ?_
 letI:Sig:=k.sig
 intro ι F w d x' y' q hx hy
 obtain ⟨Fs,ff,hS,hf,h1⟩:=star_ask hg hi q
 rw [vsymR hx,vsymR hy,hL,hI]
 obtain ⟨b,off,c,e1,e2,_⟩:=SlV.at (kd:=kd) h1 ht hinf hj
 exact ⟨_,w,e2,rsymR (by rw [hP,e1]; rfl),Below.refl _ _⟩
theorem sl_field {f fo:Nat} (hg:k.gs[g]? = some (star l)) (hi:l[ci]? = some (slA e sz v n xs)) (hm:m < n * sz) (hF:∀ b o w,(Instr.fieldAt t (.pointer (some ⟨b,o,none⟩)) f).run P w=.ok (.pointer (some ⟨b,o+fo,none⟩)) w) (hP:k.val sP=ptrR v m) (hQ:k.val sQ=ptrR v (m+fo)) : GTrue k P ⟨[7,t,f],[sy sP],none,g,none,sy sQ,none⟩:=by
 refine GTrue.fieldAddr k ?_
 letI:Sig:=k.sig
 intro ι F w d x' q hx
 obtain ⟨Fs,ff,hS,hf,h1⟩:=star_ask hg hi q
 rw [vsymR hx,hP]
 obtain ⟨b,off,c,rfl,_,_⟩:=slv_ptr h1 hm
 exact ⟨_,w,hF b (off+m) w,rsymR (by rw [hQ]; show Value.pointer (some ⟨b,off+(m+fo),none⟩)=_; rw [Nat.add_assoc]),Below.refl _ _⟩
theorem sl_load {x r:Value} (hg:k.gs[g]? = some (star l)) (hi:l[ci]? = some (slA e sz v n xs)) (hL:LoadOne P t) (hm:xs[m]? = some x) (hn:m < n * sz) (hP:k.val sP=ptrR v m) (hV:∀ ι,(letI:Sig:=k.sig; VRel ι r x)) : GTrue k P ⟨[1,t],[sy sP],none,g,none,r,none⟩:=by
 refine GTrue.load k ?_
 letI:Sig:=k.sig
 intro ι F w d x' q hx
 obtain ⟨Fs,ff,hS,hf,h1⟩:=star_ask hg hi q
 rw [vsymR hx,hP]
 obtain ⟨b,off,c,_,e2,_,e3,_⟩:=slv_ptr h1 hn
 rw [e2]
 exact ⟨x,w,hL b (off+m) x w (by rw [e3,hm]),hV _,Below.refl _ _⟩
def StoreOne (P:Program) (t:TypeId) : Prop:=∀ b o x x0 (w:World),w.cell? ⟨b,o,none⟩=some x0→w.frozen? ⟨b,o,none⟩=false→x.oneCell'=true→(Instr.storeAt t (.pointer (some ⟨b,o,none⟩)) x).run P w=.ok () (w.setCell ⟨b,o,none⟩ x)
theorem turn_set {b o:Nat} {x:Value} {w:World} {F:Nat→Prop} (h:F b) : Turn F w (w.setCell ⟨b,o,none⟩ x):=by
 have hs:=@setCells_below noSig (base:=fun _=>False) (b:=b) (fun h=>h) [x] o w
 exact ⟨hs.os,hs.tape,hs.output,by have:=@setCells_size noSig b [x] o w; exact Nat.le_of_eq this.symm,fun j hj hn=>@setCells_other noSig b [x] o w j (fun (e:j=b)=>hn (e ▸ h))⟩
theorem sl_store {x r:Value} (hg:k.gs[g]? = some (star l)) (hi:l[ci]? = some (slA e sz v n xs)) (hg':k.gs[g']? = some (star (l.set ci (slA e sz v n (xs.set m x))))) (hL:StoreOne P t) (hn:m < n * sz) (hP:k.val sP=ptrR v m) (hV:∀ ι y,(letI:Sig:=k.sig; VRel ι r y)→y=x) (hc:x.oneCell'=true) : GTrue k P ⟨[2,t],[sy sP,r],none,g,none,undef,some g'⟩:=by
 refine GTrue.store k ?_
 letI:Sig:=k.sig
 intro ι F w d x' y' q hx hy
 obtain ⟨Fs,ff,hS,hf,h1⟩:=star_ask hg hi q
 rw [vsymR hx,hP,hV _ _ hy]
 obtain ⟨b,off,c,e1,e2,e0,e3,e4⟩:=slv_ptr h1 hn
 rw [e2]
 have hlt:m < xs.length:=by rw [h1.1]; exact hn
 rw [List.getElem?_eq_getElem hlt] at e3
 have hset:=SlV.set (b:=b) (off:=off) (c:=c) h1 e1 hn x
 exact ⟨_,hL b (off+m) x _ w e3 e4 hc,one_end hg' hS q.lt hf (ask_fresh q) 0 hset (turn_set e0) (fun j hj=>⟨Nat.lt_of_lt_of_le (h1.lt j hj) (turn_set (x:=x) (o:=off+m) e0).size,.inl hj⟩) (undef_rel _)⟩
end rows
end Go.Ev
namespace Go.Ev
open Go.RowKit
set_option linter.unusedVariables false
set_option linter.unusedSimpArgs false
section
variable {P:Program} {kT e:TypeId} {b r n cnt d:Nat} {f:Int→Option Int} {left:Int→Bool} {i:Int} {c:Ctx} {l:List Asr} {w:World} {κ:Ren}
theorem Hold.next (h:Hold c (nextA P kT e b r n cnt f left::l) w) : ∃ i c',c' < cnt∧left i=true∧wfI i∧(f i).isSome=true∧Hold c (curA P kT e b r n c' f (lessI left i) i::l) w:=by
 obtain ⟨⟨i,c'⟩,⟨h1,h2,h3,h4⟩,hh⟩:=h.headE (b:=fun x:Int×Nat=>curA P kT e b r n x.2 f (lessI left x.1) x.1) (p:=fun x=>x.2 < cnt∧left x.1=true∧wfI x.1∧(f x.1).isSome=true) (fun F ⟨h1,i,c',h2,h3,h4⟩=>⟨(i,c'),⟨h2,h3,h4.1,h4.2.1⟩,h1,h4⟩)
 exact ⟨i,c',h1,h2,h3,h4,hh⟩
theorem Hold.cur (h:Hold c (curA P kT e b r n cnt f left i::l) w) : Hold c (rngA P kT e b (.st (ptrV r)) n cnt f left::l) w :=
 h.head (fun F ⟨h1,h2⟩=>⟨r,rfl,h1,h2.2.2.1⟩)
end
end Go.Ev
namespace Go.Ev
open Go.RowKit
set_option linter.unusedVariables false
set_option linter.unusedSimpArgs false
set_option linter.unusedSectionVars false
section
variable {k:Kn} {P:Program} {g g':Nat} {l:List Asr} {ci:Nat} {t u e:TypeId} {sL sP sQ sV n sz m:Nat} {v:Value} {xs:List Value} {i:TypeInfo} {z:Value}
theorem one_all {ι:Ren} {c c':List Value} (h:letI:Sig:=k.sig; LRel ι c c') (ho:c.all oneCell=true) : ∀ u ∈ c',u.oneCell'=true:=by
 letI:Sig:=k.sig
 intro u hu
 rw [List.all_eq_true] at ho
 obtain ⟨i,hi⟩:=List.getElem?_of_mem hu
 have hlt:i < c.length:=by
  rw [h.1]
  exact (List.getElem?_eq_some_iff.1 hi).1
 exact one_one ((h.2 i _ _ (List.getElem?_eq_getElem hlt) hi).one (ho _ (List.getElem_mem hlt)))
theorem sl_append {d1 e':Nat} {c cs:List Value} (hg:k.gs[g]? = some (star l)) (hi:l[ci]? = some (slA e sz v n xs)) (hg':k.gs[g']? = some (star (l.set ci (atD d1 (fun v'=>slA e sz v' (n+m) (xs++cs)))))) (ht:P.underlying t=some (.slice e)) (hu:P.underlying u=some (.slice e')) (hinf:P.info? e=some i) (hsz:i.size=sz) (h0:0 < sz) (hz:i.zero=some z) (hzs:z.cells.size=i.size)
  (hb:(n+m) * i.bytes≤140737488355328) (hnm:n+m≤1000000000) (hL:k.val sL=v) (hm:c.length=m * sz) (hc:∀ ι c',(letI:Sig:=k.sig; LRel ι c c')→c'=cs) : GTrue k P ⟨[11,t,u],[sy sL],some (sz,1,c),g,some d1,.complex .f32 d1 0,some g'⟩:=by
 subst hsz
 refine GTrue.append k ?_
 letI:Sig:=k.sig
 intro ι F w d x' y' c' m' ty q hx hcr hcm ho hr hl
 obtain ⟨Fs,ff,hS,hf,h1⟩:=star_ask hg hi q
 have hmm:m'=m:=Nat.eq_of_mul_eq_mul_right h0 (by rw [← hcm,hm])
 subst hmm
 obtain rfl:=q.name d1 rfl
 rw [vsymR hx,hL]
 have hs:Src P i.size u y' m' c' w:=⟨.inl ⟨_,hu⟩,hl,hr w rfl,hr w.drew rfl,by rw [← hcr.1]; exact hm,one_all hcr ho⟩
 obtain ⟨v2,w2,F2,r1,r2,r3,r4⟩:=SlV.append (ty:=ty) h1 ht hinf hz hzs hs hb hnm
 rw [hc _ _ hcr] at r2
 obtain ⟨cc,hcc⟩:=r2.code
 have hup:(ι.upd d1 cc) d1=some cc:=by simp [Ren.upd]
 exact ⟨v2,w2,r1,one_end hg' hS q.lt hf (ask_fresh q) cc ⟨cc,hup,by rw [hcc]; exact r2⟩ r3 r4 (.dyn d1 cc v2 hup hcc)⟩
theorem ro_callR {w0:World} {X:Nat→Prop} {f:FuncId} {abs args:List Value} {r rv:Value} (hg:k.gs[g]? = some (star l)) (hi:l[ci]? = some (oldX w0 X)) (hc:∀ w,OldW w0 X w→Calls P f args.toArray w fun e w'=>e=.returned rv∧Below w.heap.size w w') (hr:∀ ι,(letI:Sig:=k.sig; VRel ι r rv))
  (ha:∀ ι l',(letI:Sig:=k.sig; LRel ι abs l')→l'=args) : GCTrue k P ⟨f,abs,g,none,r,none⟩:=by
 letI:Sig:=k.sig
 intro ι args' F w d hl h1 h2 h3 h4
 have e:=ha ι _ hl
 obtain ⟨b,q1,q2⟩:=h1
 rw [hg] at q1
 cases q1
 obtain ⟨Fs,q2⟩:=q2
 have hlt:ci < Fs.length:=by rw [q2.len]; exact (List.getElem?_eq_some_iff.1 hi).1
 obtain ⟨_,o3⟩:=q2.holds ci _ _ hi (List.getElem?_eq_getElem hlt)
 have ea:args'=args.toArray:=by rw [← e]
 rw [ea]
 refine (hc w o3).mono ?_
 rintro e w' ⟨rfl,hb⟩
 exact ⟨_,rfl,hr ι,hb⟩
theorem args_nil:∀ ι l',(letI:Sig:=k.sig; LRel ι [] l')→l'=[]:=by
 letI:Sig:=k.sig
 intro ι l' h
 exact List.eq_nil_of_length_eq_zero h.1.symm
theorem args_cons {x v:Value} {abs args:List Value} (hx:IsV k x v) (h:∀ ι l',(letI:Sig:=k.sig; LRel ι abs l')→l'=args) : ∀ ι l',(letI:Sig:=k.sig; LRel ι (x::abs) l')→l'=v::args:=by
 letI:Sig:=k.sig
 intro ι l' hl
 match l',hl with
 | [],hl=>exact absurd hl.1 (by simp)
 | y::l',hl =>
  rw [hx ι y (hl.2 0 x y rfl rfl),h ι l' ⟨by simpa using hl.1,fun i a b e1 e2=>hl.2 (i+1) a b (by simpa using e1) (by simpa using e2)⟩]
theorem isBool {k:Kn} {b:Bool} : IsV k (.bool b) (.bool b):=fun ι x' hx=>by
 letI:Sig:=k.sig
 cases hx with
 | bool=>rfl
theorem isAgg {k:Kn} {abs cs:List Value} (h:∀ ι l',(letI:Sig:=k.sig; LRel ι abs l')→l'=cs) : IsV k (.agg abs.toArray) (.agg cs.toArray):=fun ι x' hx=>by
 letI:Sig:=k.sig
 cases hx with
 | agg f f' hf hh =>
  have:=h ι f'.toList ⟨by simpa using hf,fun i v v' e1 e2=>hh i v v' (by simpa using e1) (by simpa using e2)⟩
  rw [← this]
theorem isNilp {k:Kn} : IsV k (.pointer none) (.pointer none):=fun ι x' hx=>by
 letI:Sig:=k.sig
 cases hx with
 | ptr0=>rfl
theorem isNils {k:Kn} : IsV k (.slice none 0 0) (.slice none 0 0):=fun ι x' hx=>by
 letI:Sig:=k.sig
 cases hx with
 | slice0=>rfl
variable {b:Nat} {cs:List Value} {T:TypeId}
theorem blk_nil (hP:k.val sP=.pointer (some ⟨b,m,none⟩)) : GTrue k P ⟨[9],[sy sP],none,g,none,sy sP,none⟩:=by
 letI:Sig:=k.sig
 intro o hk ev ι F w d hv _ h1 h2 h3 h4
 obtain ⟨a,ho⟩:=gk_nilCheck hk
 rw [ho] at hv
 obtain ⟨x',e,hx⟩:=ops1 hv
 simp [Op.operands] at e
 subst e
 refine ⟨.value (ev a),ev a,w,?_,.inl rfl,hx,Below.refl _ _⟩
 have ea:ev a=.pointer (some ⟨b,m,none⟩):=by rw [vsymR hx,hP]
 simp [execOp,ho,ea]
end
theorem SlV.ro {e:TypeId} {sz n:Nat} {v:Value} {xs:List Value} {F:Nat→Prop} {w:World} (h:SlV e sz v n xs F w) : SlR sz v n xs w:=by
 obtain ⟨h1,⟨he,h2,_⟩ | ⟨b,off,c,arr,rfl,hF,hb0,hx,hsz,hnc⟩⟩:=h
 ·obtain ⟨a,rfl⟩:=he.base
  exact ⟨h1,.inl ⟨h2,_,_,rfl⟩⟩
 ·refine ⟨h1,.inr ⟨b,off,c,rfl,⟨(Array.getElem?_eq_some_iff.1 hb0).1,hnc⟩,fun j hj=>?_⟩⟩
  rw [← hx j hj]
  simp [World.cell?,hb0]
theorem SlV.off {e:TypeId} {sz n:Nat} {v:Value} {xs:List Value} {F X:Nat→Prop} {w:World} (h:SlV e sz v n xs F w) (hd:∀ j,F j→¬ X j) : OffX X v:=by
 obtain ⟨h1,⟨he,h2,_⟩ | ⟨b,off,c,arr,rfl,hF,hb0,hx,hsz,hnc⟩⟩:=h
 ·rcases he with rfl | ⟨b,off,rfl⟩
  ·trivial
  ·exact fun h0=>absurd h0 (Nat.lt_irrefl 0)
 ·exact fun _=>hd b ((hF b).2 rfl)
end Go.Ev
namespace Go.Ev
open Go.RowKit
set_option linter.unusedVariables false
set_option linter.unusedSimpArgs false
set_option linter.unusedSectionVars false
def mapV (P:Program) (kT e:TypeId) (v:Value) (n:Nat) (f:Int→Option Int) : Asr where
 p:=fun _ F w=>∃ b,v=.map (some b)∧(∀ j,F j↔j=b)∧MapIs P kT e b n f w
 keep:=fun ι F w w' hk ⟨b,h0,h1,h2⟩=>⟨b,h0,h1,h2.keep P kT e (hk b ((h1 b).2 rfl))⟩
 mono:=fun _ _ _ _ _ h=>h
theorem Hold.mapV {P:Program} {kT e:TypeId} {v:Value} {n:Nat} {f:Int→Option Int} {c:Ctx} {l:List Asr} {w:World} (h:Hold c (mapV P kT e v n f::l) w) : ∃ b,v=.map (some b)∧Hold c (mapA P kT e b n f::l) w :=
 h.headE (fun F ⟨b,h0,h1,h2⟩=>⟨b,h0,h1,h2⟩)
theorem Hold.nilSl {e:TypeId} {sz:Nat} {c:Ctx} {l:List Asr} {w:World} (h:Hold c l w) : Hold c (slA e sz (.slice none 0 0) 0 []::l) w:=by
 obtain ⟨F,h1,h2,h3⟩:=h.ex
 refine ⟨⟨_,now_cons (a:=slA e sz (.slice none 0 0) 0 []) (SlV.nil e sz w) h1 (fun j hj=>hj.elim) (fun j hj=>hj.elim),h2,fun j hj=>hj.elim (fun h=>h.elim) (h3 j)⟩⟩
theorem gk_makeMap {op:Op} {t:TypeId} (h:gkey op=some [18,t]) : op=.makeMap t none:=by
 unfold gkey at h
 split at h <;> first | (cases h; done) | skip
 all_goals first | (cases h; rfl) | (simp at h)
section
variable {k:Kn} {P:Program} {g g':Nat} {l:List Asr} {t kT e:TypeId}
theorem grow_end {r:Value} {ι:Ren} {F f':Nat→Prop} {w w':World} {d:Nat} {a':Asr} (hg':k.gs[g']? = some (star (l++[a']))) (hS:(star l).p ι F w) (lt:∀ x,F x→x < w.heap.size) (hd:ι d=none) (c:Nat) {v':Value} (ha:a'.p (ι.upd d c) f' w') (hb:Below w.heap.size w w') (hs:∀ x,f' x→x < w'.heap.size∧w.heap.size≤x) (hv:letI:Sig:=k.sig; VRel (ι.upd d c) r v') : letI:Sig:=k.sig; GEnd ι d F w r (some g') v' w':=by
 letI:Sig:=k.sig
 obtain ⟨Fs,q⟩:=hS
 refine ⟨c,fun j=>F j∨f' j,hv,⟨_,hg',Fs++[f'],by simp [q.len],fun i a f h1 h2=>?_,fun i j f f2 hij h1 h2 x hx hx'=>?_,fun x=>⟨fun h=>?_,fun ⟨i,f,h1,h2⟩=>?_⟩⟩,Turn.below hb,fun j hj=>?_⟩
 ·rcases Nat.lt_or_ge i l.length with hi | hi
  ·rw [List.getElem?_append_left hi] at h1
   rw [List.getElem?_append_left (by rw [q.len]; exact hi)] at h2
   refine a.mono ι _ f w' (Ren.upd_le (b:=c) hd) (a.keep ι f w w' (fun x hx=>hb.block x (lt x ((q.all x).2 ⟨i,f,h2,hx⟩))) (q.holds i a f h1 h2))
  ·rw [List.getElem?_append_right hi] at h1
   rw [List.getElem?_append_right (by rw [q.len]; exact hi),q.len] at h2
   cases hk:i - l.length with
   | zero=>rw [hk] at h1 h2; cases h1; cases h2; exact ha
   | succ m=>rw [hk] at h1; cases h1
 ·rcases Nat.lt_or_ge i Fs.length with hi | hi
  ·rw [List.getElem?_append_left hi] at h1
   rcases Nat.lt_or_ge j Fs.length with hj | hj
   ·rw [List.getElem?_append_left hj] at h2
    exact q.apart i j f f2 hij h1 h2 x hx hx'
   ·rw [List.getElem?_append_right hj] at h2
    cases hk:j - Fs.length with
    | zero =>
     rw [hk] at h2; cases h2
     have h3:=lt x ((q.all x).2 ⟨i,f,h1,hx⟩)
     have h4:=(hs x hx').2
     omega
    | succ m=>rw [hk] at h2; cases h2
  ·rw [List.getElem?_append_right hi] at h1
   cases hk:i - Fs.length with
   | succ m=>rw [hk] at h1; cases h1
   | zero =>
    rw [hk] at h1; cases h1
    rcases Nat.lt_or_ge j Fs.length with hj | hj
    ·rw [List.getElem?_append_left hj] at h2
     have h3:=lt x ((q.all x).2 ⟨j,f2,h2,hx'⟩)
     have h4:=(hs x hx).2
     omega
    ·rw [List.getElem?_append_right hj] at h2
     cases hk':j - Fs.length with
     | zero=>omega
     | succ m=>rw [hk'] at h2; cases h2
 ·rcases h with h | h
  ·obtain ⟨i,f,h1,h2⟩:=(q.all x).1 h
   exact ⟨i,f,by rw [List.getElem?_append_left (List.getElem?_eq_some_iff.1 h1).1]; exact h1,h2⟩
  ·exact ⟨Fs.length,f',by simp,h⟩
 ·rcases Nat.lt_or_ge i Fs.length with hi | hi
  ·rw [List.getElem?_append_left hi] at h1
   exact .inl ((q.all x).2 ⟨i,f,h1,h2⟩)
  ·rw [List.getElem?_append_right hi] at h1
   cases hk:i - Fs.length with
   | zero=>rw [hk] at h1; cases h1; exact .inr h2
   | succ m=>rw [hk] at h1; cases h1
 ·rcases hj with hj | hj
  ·exact ⟨Nat.lt_of_lt_of_le (lt j hj) hb.size,.inl hj⟩
  ·exact ⟨(hs j hj).1,.inr (hs j hj).2⟩
theorem mk_map {d1:Nat} (hg:k.gs[g]? = some (star l)) (hg':k.gs[g']? = some (star (l++[atD d1 (fun v=>mapV P kT e v 0 (fun _=>none))]))) : GTrue k P ⟨[18,t],[],none,g,some d1,.complex .f32 d1 0,some g'⟩:=by
 letI:Sig:=k.sig
 intro o hk ev ι F w d hv _ h1 h2 h3 h4
 have ho:=gk_makeMap hk
 obtain ⟨b,q1,q2⟩:=h1
 rw [hg] at q1
 cases q1
 obtain rfl:=h4 d1 rfl
 have hd:ι d1=none:=h3.elim id (fun h=>by cases h)
 refine ⟨.value (.map (some w.heap.size)),.map (some w.heap.size),w.alloc (.map #[] 0),?_,.inl rfl,?_⟩
 ·simp [execOp,ho,Instr.makeMap,newObj]
  rfl
 ·have hup:(ι.upd d1 (prn 2 w.heap.size)) d1=some (prn 2 w.heap.size):=by simp [Ren.upd]
  refine grow_end hg' q2 h2 hd (prn 2 w.heap.size) (f':=fun j=>j=w.heap.size) ⟨_,hup,w.heap.size,dec_map _,fun j=>Iff.rfl,.map [],World.ownsMap_made w P kT _,fun i hi=>?_⟩ ((Below.refl _ _).alloc (Nat.le_refl _) _) (fun x hx=>⟨by rw [hx]; simp,by rw [hx]; exact Nat.le_refl _⟩) (.dyn d1 _ _ hup (dec_map _))
  exact ⟨rfl,rfl⟩
end
theorem gc_dynL {k:Kn} {P:Program} {c:Ctx} {f:FuncId} {abs args:List Value} {g g' d1:Nat} {gl lp:List Asr} {r:Value} {ret:Value→Value} (fs:List (Value→Asr)) (idx rest:List Nat) (hg:k.gs[g]? = some (star (oldX c.W c.X::gl))) (hg':k.gs[g']? = some (star (oldX c.W c.X::(fs.map (atD d1)++sel gl rest)))) (hsel:selB gl.length (idx++rest)=true) (hp:sel gl idx=lp) (hf:Flats lp)
  (ha:∀ ι l',(letI:Sig:=k.sig; LRel ι abs l')→l'=args) (hr:∀ (ι:Ren) cd,ι d1=some cd→(letI:Sig:=k.sig; VRel ι r (ret (dec cd))))
  (con:∀ (w:World) (F:Nat→Prop),OldW c.W c.X w→Now lp F w→(∀ j,F j→c.X j∨c.W.heap.size≤j)→Calls P f args.toArray w fun e w'=>∃ v cd,dec cd=v∧e=.returned (ret v)∧Hold ⟨w,F⟩ (fs.map (fun f=>f v)) w') : GCTrue k P ⟨f,abs,g,some d1,r,some g'⟩:=by
 refine gc_dyn (lq:=fun v=>fs.map (fun f=>f v)) idx rest hg hg' hsel hp hf ha hr (fun ι cd w' hi=>⟨by simp,fun i a b ff h1 h2 h=>?_⟩) con
 rw [List.getElem?_map] at h1 h2
 cases hfi:fs[i]? with
 | none=>rw [hfi] at h1; cases h1
 | some q =>
  rw [hfi] at h1 h2
  cases h1
  cases h2
  exact ⟨cd,hi,(q (dec cd)).mono _ _ ff w' (fun _ _ e=>by cases e) h⟩
def cutV (sz:Nat) (v:Value) (lo hi:Nat) : Value :=
 match v with
 | .slice none _ c=>.slice none (hi - lo) (c - lo)
 | .slice (some a) _ c=>.slice (some (if c=lo then a else a.add (lo * sz))) (hi - lo) (c - lo)
 | v=>v
theorem cutV_leaf {sz lo hi:Nat} {v:Value} (h:leafV v=true) : leafV (cutV sz v lo hi)=true:=by
 unfold cutV
 split
 ·rfl
 ·rfl
 ·exact h
section cuts
variable {k:Kn} {P:Program} {g:Nat} {t e:TypeId} {sL sA sB sV n sz lo hi:Nat} {v:Value} {xs:List Value} {w0:World} {i:TypeInfo} {kd kd':IntKind}
theorem cut_run {lov hiv:Option Value} (hlo:lov=none∧lo=0∨lov=some (.int kd (lo:Int))) (hhi:hiv=some (.int kd' (hi:Int))) (hs:SlR sz v n xs w0) (ht:P.underlying t=some (.slice e)) (hinf:P.info? e=some i) (hsz:i.size=sz) (h1:lo≤hi) (h2:hi≤n) (w:World) :
  (Instr.sliceAt t v lov hiv none).run P w=.ok (cutV sz v lo hi) w:=by
 subst hsz
 subst hhi
 have hbd:∀ c:Nat,n≤c→(Instr.sliceBounds true n c lov (some (.int kd' (hi:Int))) none).run P w=.ok (lo,hi,c) w:=by
  intro c hc
  have e1:(hi:Int)≤(c:Int):=by omega
  have e2:(lo:Int)≤(hi:Int):=by omega
  rcases hlo with ⟨rfl,rfl⟩ | rfl
  ·simp [Instr.sliceBounds,run_sliceBound,e1]
  ·simp [Instr.sliceBounds,run_sliceBound,e1,e2]
 have hs':(Instr.sliceAt t v lov (some (.int kd' (hi:Int))) none).run P w=(Instr.slice t v lov (some (.int kd' (hi:Int))) none).run P w:=by
  simp [Instr.sliceAt,run_underlying ht]
 rw [hs']
 obtain ⟨hl,⟨rfl,a,c,rfl⟩ | ⟨b,off,c,rfl,⟨hb,hc⟩,hx⟩⟩:=hs
 ·obtain rfl:hi=0:=by omega
  obtain rfl:lo=0:=by omega
  cases a with
  | none =>
   simp only [Instr.slice,Sem.run_bind,run_underlying ht,Result.andThen]
   rw [hbd c (Nat.zero_le _)]
   simp [sizeOf,typeInfo,hinf,cutV]
  | some a =>
   simp only [Instr.slice,Sem.run_bind,run_underlying ht,Result.andThen]
   rw [hbd c (Nat.zero_le _)]
   by_cases e0:c=0 <;> simp [sizeOf,typeInfo,hinf,cutV,e0]
 ·simp only [Instr.slice,Sem.run_bind,run_underlying ht,Result.andThen]
  rw [hbd c hc]
  by_cases e0:c=lo <;> simp [sizeOf,typeInfo,hinf,cutV,e0]
end cuts
theorem rtup2' {k:Kn} {ι:Ren} {a b a' b':Value} (h:letI:Sig:=k.sig; VRel ι a a') (h':letI:Sig:=k.sig; VRel ι b b') : letI:Sig:=k.sig; VRel ι (.tuple #[a,b]) (.tuple #[a',b']):=by
 letI:Sig:=k.sig
 refine .tuple _ _ rfl (fun i v v' h1 h2=>?_)
 match i with
 | 0=>cases h1; cases h2; exact h
 | 1=>cases h1; cases h2; exact h'
 | i+2=>simp at h1
end Go.Ev
namespace Go.Ev
open Go.RowKit
set_option linter.unusedVariables false
set_option linter.unusedSimpArgs false
set_option linter.unusedSectionVars false
def grp (l:List Asr) : Asr where
 p:=fun _ F w=>Now l F w
 keep:=fun _ F w w' hk h=>⟨(star l).keep _ F w w' hk h.st,fun j hj=>by
  have h1:=hk j hj
  rw [Array.getElem?_eq_getElem (h.lt j hj)] at h1
  exact (Array.getElem?_eq_some_iff.1 h1).1⟩
 mono:=fun _ _ _ _ _ h=>h
def exA {β:Type} (q:β→Prop) (a:β→Asr) : Asr where
 p:=fun ι F w=>∃ x,q x∧(a x).p ι F w
 keep:=fun ι F w w' hk ⟨x,h1,h2⟩=>⟨x,h1,(a x).keep ι F w w' hk h2⟩
 mono:=fun ι κ F w hle ⟨x,h1,h2⟩=>⟨x,h1,(a x).mono ι κ F w hle h2⟩
theorem now_open {l m:List Asr} {F:Nat→Prop} {w:World} (h:Now (grp l::m) F w) : Now (l++m) F w:=by
 obtain ⟨Fa,Fl,k1,k2,k3,k4⟩:=now_uncons h
 exact now_same (now_append k1 k2 k3) (fun j=>(k4 j).symm)
theorem now_shut {l m:List Asr} {F:Nat→Prop} {w:World} (h:Now (l++m) F w) : Now (grp l::m) F w:=by
 obtain ⟨F1,F2,h1,h2,h3,h4⟩:=now_split h
 exact now_same (now_cons (a:=grp l) h1 h2 (fun j hj=>h1.lt j hj) h3) (fun j=>(h4 j).symm)
theorem now_ex {β:Type} {q:β→Prop} {a:β→Asr} {m:List Asr} {F:Nat→Prop} {w:World} (h:Now (exA q a::m) F w) : ∃ x,q x∧Now (a x::m) F w:=by
 obtain ⟨Fa,Fl,⟨x,hx,k1⟩,k2,k3,k4⟩:=now_uncons h
 exact ⟨x,hx,now_same (now_cons k1 k2 (fun j hj=>h.lt j ((k4 j).2 (.inl hj))) k3) (fun j=>(k4 j).symm)⟩
section
variable {c:Ctx} {l m:List Asr} {w:World}
theorem Hold.open (h:Hold c (grp l::m) w) : Hold c (l++m) w:=by
 obtain ⟨F,h1,h2,h3⟩:=h.ex
 exact ⟨⟨F,now_open h1,h2,h3⟩⟩
theorem Hold.shut (h:Hold c (l++m) w) : Hold c (grp l::m) w:=by
 obtain ⟨F,h1,h2,h3⟩:=h.ex
 exact ⟨⟨F,now_shut h1,h2,h3⟩⟩
theorem Hold.getX {β:Type} {q:β→Prop} {a:β→Asr} (h:Hold c (exA q a::m) w) : ∃ x,q x∧Hold c (a x::m) w:=by
 obtain ⟨F,h1,h2,h3⟩:=h.ex
 obtain ⟨x,hx,k⟩:=now_ex h1
 exact ⟨x,hx,⟨⟨F,k,h2,h3⟩⟩⟩
theorem Hold.putX {β:Type} {q:β→Prop} {a:β→Asr} (x:β) (hx:q x) (h:Hold c (a x::m) w) : Hold c (exA q a::m) w:=h.head (fun F hF=>⟨x,hx,hF⟩)
end
theorem Hold.step {c:Ctx} {l m r:List Asr} {w w':World} (h:Hold c (l++r) w) (k:∀ F,Now l F w→(∀ j,F j→c.X j∨c.W.heap.size≤j)→Hold ⟨w,F⟩ m w') : Hold c (m++r) w':=by
 obtain ⟨F,h1,h2,h3⟩:=h.ex
 obtain ⟨F1,F2,k1,k2,k3,k4⟩:=now_split h1
 have:=(k F1 k1 (fun j hj=>h3 j ((k4 j).2 (.inl hj)))).frame k2 k3
 exact this.into (l:=l) h2 (fun j hj=>h3 j ((k4 j).2 hj))
end Go.Ev
namespace Go.Ev
open Go.RowKit
set_option linter.unusedVariables false
set_option linter.unusedSimpArgs false
set_option linter.unusedSectionVars false
section
variable {k:Kn} {P:Program} {g g':Nat} {l:List Asr} {ci:Nat} {t u e:TypeId} {sL sS sV n sz m:Nat} {v:Value} {xs:List Value} {i:TypeInfo} {z:Value}
theorem SlR.src {e':Nat} {w:World} (h:SlR sz v m xs w) (hu:P.underlying u=some (.slice e')) (h1:∀ x ∈ xs,x.oneCell'=true) : Src P sz u v m xs w:=by
 obtain ⟨hl,⟨rfl,a,c,rfl⟩ | ⟨b,off,c,rfl,⟨hb,hc⟩,hx⟩⟩:=h
 ·have:xs=[]:=List.eq_nil_of_length_eq_zero (by rw [hl]; simp)
  subst this
  cases a with
  | none=>exact Src.ofNil w hu c
  | some a=>exact Src.ofSlice w hu a 0 c [] (by simp) (fun j x h=>by simp at h) (fun x h=>by cases h)
 ·refine Src.ofSlice w hu ⟨b,off,none⟩ m c xs hl (fun j x hj=>?_) h1
  rw [addMk,hx j (by rw [← hl]; exact (List.getElem?_eq_some_iff.1 hj).1),hj]
theorem vdynR {k:Kn} {ι:Ren} {d:Nat} {x':Value} (h:letI:Sig:=k.sig; VRel ι (.complex .f32 d 0) x') : ∃ c,ι d=some c∧dec c=x':=by
 letI:Sig:=k.sig
 cases h with
 | dyn id c _ h h'=>exact ⟨c,h,h'⟩
theorem sl_lenD {d1:Nat} (hg:k.gs[g]? = some (star l)) (hi:l[ci]? = some (atD d1 (fun v=>slA e sz v n xs))) (ht:P.underlying t=some (.slice e)) (hsz:i.size=sz) (hV:k.val sV=.int .i64 (n:Int)) : GTrue k P ⟨[10,t],[.complex .f32 d1 0],none,g,none,sy sV,none⟩:=by
 subst hsz
 refine GTrue.len k ?_
 letI:Sig:=k.sig
 intro ι F w d x' ty q hx
 obtain ⟨Fs,ff,hS,hf,c,h0,h1⟩:=star_ask hg hi q
 obtain ⟨c',e0,e1⟩:=vdynR hx
 rw [h0] at e0
 cases e0
 rw [← e1]
 exact ⟨_,w,SlV.len h1 ht ty,rsymR hV,Below.refl _ _⟩
theorem sl_appendD {d1 d2 e':Nat} {c cs:List Value} (hg:k.gs[g]? = some (star l)) (hi:l[ci]? = some (atD d2 (fun v=>slA e sz v n xs))) (hg':k.gs[g']? = some (star (l.set ci (atD d1 (fun v'=>slA e sz v' (n+m) (xs++cs)))))) (ht:P.underlying t=some (.slice e)) (hu:P.underlying u=some (.slice e')) (hinf:P.info? e=some i) (hsz:i.size=sz) (h0:0 < sz) (hz:i.zero=some z) (hzs:z.cells.size=i.size)
  (hb:(n+m) * i.bytes≤140737488355328) (hnm:n+m≤1000000000) (hm:c.length=m * sz) (hc:∀ ι c',(letI:Sig:=k.sig; LRel ι c c')→c'=cs) : GTrue k P ⟨[11,t,u],[.complex .f32 d2 0],some (sz,1,c),g,some d1,.complex .f32 d1 0,some g'⟩:=by
 subst hsz
 refine GTrue.append k ?_
 letI:Sig:=k.sig
 intro ι F w d x' y' c' m' ty q hx hcr hcm ho hr hl
 obtain ⟨Fs,ff,hS,hf,cd,h0',h1⟩:=star_ask hg hi q
 obtain ⟨c2,e0,e1⟩:=vdynR hx
 rw [h0'] at e0
 cases e0
 rw [← e1]
 have hmm:m'=m:=Nat.eq_of_mul_eq_mul_right h0 (by rw [← hcm,hm])
 subst hmm
 obtain rfl:=q.name d1 rfl
 have hs:Src P i.size u y' m' c' w:=⟨.inl ⟨_,hu⟩,hl,hr w rfl,hr w.drew rfl,by rw [← hcr.1]; exact hm,one_all hcr ho⟩
 obtain ⟨v2,w2,F2,r1,r2,r3,r4⟩:=SlV.append (ty:=ty) h1 ht hinf hz hzs hs hb hnm
 rw [hc _ _ hcr] at r2
 obtain ⟨cc,hcc⟩:=r2.code
 have hup:(ι.upd d1 cc) d1=some cc:=by simp [Ren.upd]
 exact ⟨v2,w2,r1,one_end hg' hS q.lt hf (ask_fresh q) cc ⟨cc,hup,by rw [hcc]; exact r2⟩ r3 r4 (.dyn d1 cc v2 hup hcc)⟩
end
end Go.Ev
namespace Go.Ev
open Go.RowKit
set_option linter.unusedVariables false
set_option linter.unusedSimpArgs false
set_option linter.unusedSectionVars false
theorem gk_make {op:Op} {t:TypeId} (h:gkey op=some [19,t]) : ∃ x y,op=.makeSlice t x y:=by
 unfold gkey at h
 split at h <;> first | (cases h; done) | skip
 all_goals first | (simp at h; done) | skip
 simp at h
 subst h
 exact ⟨_,_,rfl⟩
section
variable {k:Kn} {P:Program} {g g':Nat} {l:List Asr} {t e:TypeId} {n sz:Nat} {i:TypeInfo} {z:Value}
theorem GTrue.make {d0 ng:Option Nat} {r x y:Value} (h:letI:Sig:=k.sig; ∀ ι F w d x' y',Ask k g d0 ng ι F w d→VRel ι x x'→VRel ι y y'→VStep P (Instr.makeSlice t x' y') ι d F w r ng) : GTrue k P ⟨[19,t],[x,y],none,g,d0,r,ng⟩:=by
 letI:Sig:=k.sig
 intro o hk ev ι F w d hv _ h1 h2 h3 h4
 obtain ⟨a,b,ho⟩:=gk_make hk
 rw [ho] at hv
 obtain ⟨x',y',e,hx,hy⟩:=ops2 hv
 simp [Op.operands] at e
 obtain ⟨rfl,rfl⟩:=e
 obtain ⟨v',w',r1,r2⟩:=h ι F w d _ _ ⟨h1,h2,h3,h4⟩ hx hy
 refine ⟨.value v',v',w',?_,.inl rfl,r2⟩
 unfold execOp
 rw [ho]
 simp only
 rw [Sem.run_bind,r1]
 rfl
theorem grown_below {w w':World} (h:w.grownBy w' none) : Below w.heap.size w w':=⟨h.os,h.tape,h.output,h.size,fun j hj=>h.block j hj (by simp)⟩
end
end Go.Ev
namespace Go.Ev
open Go.RowKit
theorem argD_here {k:Kn} {d2:Nat} {abs:List Value} {args:List Value} (h:∀ ι l',(letI:Sig:=k.sig; LRel ι abs l')→l'=args) : ∀ ι l',(letI:Sig:=k.sig; LRel ι (.complex .f32 d2 0::abs) l')→∃ c,ι d2=some c∧l'=(fun v=>v::args) (dec c):=by
 letI:Sig:=k.sig
 intro ι l' hl
 match l',hl with
 | [],hl=>exact absurd hl.1 (by simp)
 | x'::m,hl =>
  obtain ⟨c,e1,e2⟩:=vdynR (hl.2 0 _ _ rfl rfl)
  refine ⟨c,e1,?_⟩
  show x'::m=dec c::args
  rw [e2,h ι m ⟨by have:=hl.1; simpa using this,fun i v v' h1 h2=>hl.2 (i+1) v v' (by simpa using h1) (by simpa using h2)⟩]
theorem argD_cons {k:Kn} {d2:Nat} {x v:Value} {abs:List Value} {args:Value→List Value} (hx:IsV k x v) (h:∀ ι l',(letI:Sig:=k.sig; LRel ι abs l')→∃ c,ι d2=some c∧l'=args (dec c)) : ∀ ι l',(letI:Sig:=k.sig; LRel ι (x::abs) l')→∃ c,ι d2=some c∧l'=(fun u=>v::args u) (dec c):=by
 letI:Sig:=k.sig
 intro ι l' hl
 match l',hl with
 | [],hl=>exact absurd hl.1 (by simp)
 | x'::m,hl =>
  obtain ⟨c,e1,e2⟩:=h ι m ⟨by have:=hl.1; simpa using this,fun i v v' h1 h2=>hl.2 (i+1) v v' (by simpa using h1) (by simpa using h2)⟩
  refine ⟨c,e1,?_⟩
  show x'::m=v::args (dec c)
  rw [e2,hx ι x' (hl.2 0 _ _ rfl rfl)]
end Go.Ev
namespace Go.Ev
open Go.RowKit
def HF (d2:Nat) (lpd:List Asr) (lp:Value→List Asr) : Prop:=∀ (ι:Ren) c,ι d2=some c→lpd.length=(lp (dec c)).length∧∀ (i:Nat) a b ff w,lpd[i]? = some a→(lp (dec c))[i]? = some b→a.p ι ff w→b.p (fun _=>none) ff w
theorem hf_nil {d2:Nat} : HF d2 [] (fun _=>[]):=fun ι c hc=>⟨rfl,fun i a b ff w e1 e2=>by cases e1⟩
theorem hf_at {d2:Nat} {a:Value→Asr} {lpd:List Asr} {lp:Value→List Asr} (ha:∀ v,Flat (a v)) (h:HF d2 lpd lp) : HF d2 (atD d2 a::lpd) (fun v=>a v::lp v):=by
 intro ι c hc
 obtain ⟨h1,h2⟩:=h ι c hc
 refine ⟨by simp [h1],fun i x y ff w e1 e2 hx=>?_⟩
 match i with
 | 0 =>
  cases e1
  cases e2
  obtain ⟨c',hc',hx⟩:=hx
  rw [hc] at hc'
  cases hc'
  exact ha _ _ _ _ _ hx
 | i+1=>exact h2 i x y ff w (by simpa using e1) (by simpa using e2) hx
theorem hf_flat {d2:Nat} {b:Asr} {lpd:List Asr} {lp:Value→List Asr} (hb:Flat b) (h:HF d2 lpd lp) : HF d2 (b::lpd) (fun v=>b::lp v):=by
 intro ι c hc
 obtain ⟨h1,h2⟩:=h ι c hc
 refine ⟨by simp [h1],fun i x y ff w e1 e2 hx=>?_⟩
 match i with
 | 0 =>
  cases e1
  cases e2
  exact hb _ _ _ _ hx
 | i+1=>exact h2 i x y ff w (by simpa using e1) (by simpa using e2) hx
end Go.Ev
namespace Go.Ev
open Go.RowKit
theorem gc_read {k:Kn} {P:Program} {c:Ctx} {f:FuncId} {abs args:List Value} {g:Nat} {gl lp:List Asr} {r rv:Value} (idx:List Nat) (hg:k.gs[g]? = some (star (oldX c.W c.X::gl))) (hsel:selB gl.length idx=true) (hp:sel gl idx=lp) (hf:Flats lp)
  (ha:∀ ι l',(letI:Sig:=k.sig; LRel ι abs l')→l'=args) (hr:∀ ι,(letI:Sig:=k.sig; VRel ι r rv))
  (con:∀ (w:World) (F:Nat→Prop),OldW c.W c.X w→Now lp F w→Calls P f args.toArray w fun e w'=>e=.returned rv∧Below w.heap.size w w') : GCTrue k P ⟨f,abs,g,none,r,none⟩:=by
 letI:Sig:=k.sig
 intro ι args' F w d hl h1 h2 h3 h4
 have e:=ha ι _ hl
 have ea:args'=args.toArray:=by rw [← e]
 subst ea
 obtain ⟨b,q1,q2⟩:=h1
 rw [hg] at q1
 cases q1
 obtain ⟨Fo,Fg,⟨o1,o2⟩,n1,n2,n3⟩:=now_uncons (l:=gl.map (frz ι)) (now_frz q2 h2)
 obtain ⟨F',s1,s2⟩:=now_sel n1 idx (by rw [List.length_map]; exact hsel)
 rw [sel_map,hp] at s1
 have pl:Now lp F' w:=now_map s1 (by simp) (fun i a b ff e1 e2 h=>by
  rw [List.getElem?_map,e2] at e1
  cases e1
  exact flats_get hf b (List.mem_of_getElem? e2) ι _ ff w h)
 refine (con w F' o2 pl).mono ?_
 rintro e' w' ⟨rfl,hb⟩
 exact ⟨_,rfl,hr ι,hb⟩
end Go.Ev
namespace Go.Ev
open Go.RowKit
theorem gk_eql {op:Op} {t:TypeId} (h:gkey op=some [20,t]) : ∃ x y z,op=.binOp .eql t x y z:=by
 unfold gkey at h
 split at h <;> first | (cases h; done) | skip
 all_goals first | (simp at h; done) | skip
 simp at h
 subst h
 exact ⟨_,_,_,rfl⟩
section
variable {k:Kn} {P:Program} {g:Nat} {t:TypeId} {a:Addr} {s:Nat}
theorem ptr_eql (hv:k.val s=.pointer (some a)) (ht:P.underlying t=some (.pointer (P.pointee t))) : GTrue k P ⟨[20,t],[sy s,.pointer none],none,g,none,.bool false,none⟩:=by
 letI:Sig:=k.sig
 intro o hk ev ι F w d hl _ h1 h2 h3 h4
 obtain ⟨x,y,z,ho⟩:=gk_eql hk
 rw [ho] at hl
 obtain ⟨x',y',e,hx,hy⟩:=ops2 hl
 simp [Op.operands] at e
 obtain ⟨rfl,rfl⟩:=e
 refine ⟨.value (.bool false),.bool false,w,?_,.inl rfl,.bool _,Below.refl _ _⟩
 unfold execOp
 rw [ho]
 simp only
 rw [vsymR hx,hv,isNilp _ _ hy]
 simp [eqGuard,run_eql_pointer_nil w t (some a) ht]
end
end Go.Ev
