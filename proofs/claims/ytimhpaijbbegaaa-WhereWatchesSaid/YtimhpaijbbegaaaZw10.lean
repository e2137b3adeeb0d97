/- Part of a proof: see the last text. -/
import Derived.Test.YtimhpaijbbegaaaZw9
import Derived.Deep.AppendSrc
import Derived.Deep.Upon
import Derived.Orders
namespace Go.Ev
open Go.RowKit
set_option linter.unusedVariables false
set_option linter.unusedSimpArgs false
set_option linter.unusedSectionVars false
variable [Sig]
theorem heap_setCells {e:TypeId} {b:Nat} : ∀ (vs:List Value) (o:Nat) (w:World) (cur:Array Value),w.heap[b]? = some (.cells cur e (0,0)) →
  ∃ cur',(w.setCells b o vs).heap[b]? = some (.cells cur' e (0,0))∧cur'.size=cur.size∧(∀ k,(k < o∨o+vs.length≤k)→cur'[k]? = cur[k]?)∧(∀ j v,vs[j]? = some v→o+j < cur.size→cur'[o+j]? = some v):=by
 intro vs
 induction vs with
 | nil=>intro o w cur h; exact ⟨cur,h,rfl,fun k _=>rfl,fun j v h=>by simp at h⟩
 | cons x r ih =>
  intro o w cur h
  obtain ⟨cur',h1,h2,h3,h4⟩:=ih (o+1) (w.setCell ⟨b,o,none⟩ x) (cur.setIfInBounds o x) (heap_setCell_same h)
  refine ⟨cur',h1,by simpa using h2,?_,?_⟩
  ·intro k hk
   rw [h3 k (by simp at hk; omega),Array.getElem?_setIfInBounds,if_neg (by simp at hk; omega)]
  ·intro j v hj hlt
   match j with
   | 0 =>
    simp at hj
    subst hj
    rw [Nat.add_zero,h3 o (by omega),Array.getElem?_setIfInBounds,if_pos rfl,if_pos (by simpa using hlt)]
   | j+1 =>
    have:=h4 j v (by simpa using hj) (by simp; omega)
    rw [show o+(j+1)=o+1+j by omega]
    exact this
theorem setCells_size {b:Nat} : ∀ (vs:List Value) (o:Nat) (w:World),(w.setCells b o vs).heap.size=w.heap.size:=by
 intro vs
 induction vs with
 | nil=>intro o w; rfl
 | cons x r ih=>intro o w; rw [show (w.setCells b o (x::r))=((w.setCell ⟨b,o,none⟩ x).setCells b (o+1) r) from rfl,ih]; simp [World.setCell]
theorem setCells_other {b:Nat} : ∀ (vs:List Value) (o:Nat) (w:World) (j:Nat),j ≠ b→(w.setCells b o vs).heap[j]? = w.heap[j]?:=by
 intro vs
 induction vs with
 | nil=>intro o w j hj; rfl
 | cons x r ih =>
  intro o w j hj
  rw [show (w.setCells b o (x::r))=((w.setCell ⟨b,o,none⟩ x).setCells b (o+1) r) from rfl,ih _ _ _ hj]
  exact Below.heap_setCell _ _ _ _ hj
theorem setCells_below {base:Nat→Prop} {b:Nat} (hb:¬ base b) : ∀ (vs:List Value) (o:Nat) (w:World),Out base w (w.setCells b o vs):=by
 intro vs
 induction vs with
 | nil=>intro o w; exact Out.refl _ _
 | cons x r ih=>intro o w; exact ((Out.refl base w).setCell (p:=⟨b,o,none⟩) hb x).trans (ih (o+1) _)
def srcLen:Value→Option Nat
 | .slice _ n _=>some n
 | .string b=>some b.size
 | _=>none
def srcCells (s:St) (sz:Nat) : Value→Option (Array Value×List Touch)
 | .slice none 0 0=>some (#[],[])
 | .slice (some ⟨id,off,none⟩) n _ =>
  match s.look id with
  | some (.cells a _ _)=>if off+n * sz≤a.size∧(a.extract off (off+n * sz)).toList.all oneCell=true then some (a.extract off (off+n * sz),[⟨id,none,false⟩]) else none
  | _=>none
 | .string b=>if sz=1 then some ((byteCells b).toArray,[]) else none
 | _=>none
theorem one_one {v:Value} (h:oneCell v=true) : v.oneCell'=true:=by cases v <;> first | rfl | cases h
theorem srcCells_rel {P:Program} {base:Nat→Prop} {ι:Ren} {s:St} {w:World} {sz:Nat} {x x':Value} {c:Array Value} {l:List Touch} {n:Nat} (hr:Rep P base ι s.look w) (hx:VRel ι x x') (h:srcCells s sz x=some (c,l)) (hn:srcLen x=some n) :
  ∃ c':Array Value,ARel ι c c'∧c.size=n * sz∧c.toList.all oneCell=true∧(∀ w':World,w'.heap=w.heap→(Builtin.firstCells sz n x').run P w'=.ok c' w')∧(∀ w':World,(Builtin.lenOf x').run P w'=.ok n w'):=by
 cases hx with
 | slice0 =>
  simp only [srcCells,Option.some.injEq,Prod.mk.injEq] at h
  simp only [srcLen,Option.some.injEq] at hn
  obtain ⟨rfl,rfl⟩:=h
  subst hn
  exact ⟨#[],ARel.empty ι,by simp,by simp,fun w' _=>rfl,fun w'=>rfl⟩
 | string b =>
  simp only [srcCells] at h
  simp only [srcLen,Option.some.injEq] at hn
  split at h
  ·rename_i hsz
   cases h
   subst hn hsz
   refine ⟨(byteCells b).toArray,ARel.of_flat (fun i v hv=>?_),by simp [byteCells_length],?_,fun w' _=>firstCells_string b w',fun w'=>rfl⟩
   ·have:=List.mem_of_getElem? (by simpa using hv:(byteCells b)[i]? = some v)
    obtain ⟨q,_,rfl⟩:=List.mem_map.1 this
    exact .int _ _
   ·rw [List.all_eq_true]
    intro v hv
    obtain ⟨q,_,rfl⟩:=List.mem_map.1 (by simpa using hv:v ∈ byteCells b)
    rfl
  ·cases h
 | slice id off b m cc cc' hb h0 h1 h2 h3 =>
  simp only [srcLen,Option.some.injEq] at hn
  subst hn
  simp only [srcCells] at h
  cases hl:s.look id with
  | none=>simp [hl] at h
  | some o =>
   cases o with
   | cells a e f =>
    simp only [hl] at h
    split at h
    ·rename_i hc
     cases h
     obtain ⟨b',o',i1,i2,i3,i4⟩:=hr.there id _ hl (hr.real hl hb)
     rw [hb] at i1
     cases i1
     obtain ⟨hf,a',rfl,j1,j2,j3,j4⟩:=i3
     have hsz:(a.extract off (off+m * sz)).size=m * sz:=by simp; omega
     have hsz':(a'.extract off (off+m * sz)).size=m * sz:=by simp; omega
     refine ⟨a'.extract off (off+m * sz),⟨by rw [hsz,hsz'],fun i v v' g1 g2=>?_⟩,hsz,hc.2,fun w' hw'=>?_,fun w'=>rfl⟩
     ·rw [Array.getElem?_extract] at g1 g2
      split at g1
      ·split at g2
       ·exact j3 _ v v' g1 g2
       ·cases g2
      ·cases g1
     ·have:=run_firstCells_some (P:=P) w' sz m ⟨b,off,none⟩ m cc' (a'.extract off (off+m * sz)).toList (by simp; omega) (fun j u hu=>by
       rw [Addr.add_mk]
       have hu':(a'.extract off (off+m * sz))[j]? = some u:=by rw [← Array.getElem?_toList]; exact hu
       rw [Array.getElem?_extract] at hu'
       split at hu'
       ·simp only [World.cell?,hw',i2]
        exact hu'
       ·cases hu')
      rw [Array.toArray_toList] at this
      exact this
    ·cases h
   | _=>simp [hl] at h
 | sliceE id off b hb h0 =>
  simp only [srcLen,Option.some.injEq] at hn
  subst hn
  simp only [srcCells] at h
  cases hl:s.look id with
  | none=>simp [hl] at h
  | some o =>
   cases o with
   | cells a e f =>
    simp only [hl] at h
    split at h
    ·rename_i hc
     cases h
     refine ⟨#[],⟨by simp; omega,fun i v v' g1 g2=>by simp at g2⟩,by simp; omega,hc.2,fun w' hw'=>?_,fun w'=>rfl⟩
     have:=run_firstCells_some (P:=P) w' sz 0 ⟨b,off,none⟩ 0 0 [] (by simp) (fun j u hu=>by simp at hu)
     simpa using this
    ·cases h
   | _=>simp [hl] at h
 | _=>cases h
def aAppend (P:Program) (s:St) (t u:TypeId) (dst src:Value) : Option (Value×St) :=
 match P.underlying t,srcLen src,dst with
 | some (.slice e),some m,.slice ba n c =>
  match P.info? e with
  | some i =>
   match i.zero,(match P.underlying u with | some (.slice _) | some .string=>true | _=>false) with
   | some z,true =>
    if m=0 then some (dst,s)
    else if (n+m) * i.bytes≤140737488355328∧n+m≤1000000000∧4 * s.next+1 < lim∧0 < i.size∧z.cells.size=i.size∧(n=0∨ba.isSome=true) then
     match srcCells s i.size src,srcCells s i.size dst with
     | some (news,l1),some (olds,l2) =>
      let id:=4 * s.next+1
      let v:Value:=.slice (some ⟨id,0,none⟩) (n+m) (n+m)
      match ba with
      | none=>some (v,{ s.put id (some (.cells (olds++news) e (0,0))) with next:=s.next+1,log:=⟨id,none,true⟩::(l1++(l2++s.log)) })
      | some a =>
       if gro a.block then
        match a.off,s.look a.block with
        | 0,some (.cells _ e0 _)=>if e0=e∧a.block < lim then some (v,{ (s.put a.block none).put id (some (.cells (olds++news) e (0,0))) with next:=s.next+1,log:=⟨id,none,true⟩::⟨a.block,none,true⟩::(l1++(l2++s.log)) }) else none
        | _,_=>none
       else if c < n+m then some (v,{ s.put id (some (.cells (olds++news) e (0,0))) with next:=s.next+1,log:=⟨id,none,true⟩::(l1++(l2++s.log)) })
       else none
     | _,_=>none
    else none
   | _,_=>none
  | none=>none
 | _,_,_=>none
theorem gro_id (n:Nat) : gro (4 * n+1)=true:=by simp [gro,Nat.add_mod]
theorem Rep.grown {P:Program} {base:Nat→Prop} {ι:Ren} {H:Nat→Option Obj} {s:St} {w:World} {id cap:Nat} {c c':Array Value} {e:TypeId} {ti:TypeInfo} (hs:s.look=H) (hr:Rep P base ι H w) (hlim:id < lim) (hn:ι id=none) (hn2:ι (id+1)=none) (hg:gro id=true)
  (hc:c.size≤c'.size) (hcr:∀ (i:Nat) (v v':Value),c[i]? = some v→c'[i]? = some v'→VRel ι v v') (hi:P.info? e=some ti) (hsz:c'.size=cap * ti.size) :
  Rep P base ((ι.upd (id+1) cap).upd id w.heap.size) (s.put id (some (.cells c e (0,0)))).look { w with heap:=w.heap.push (.cells c' e (0,0)) }:=by
 have h1:RLe ι (ι.upd (id+1) cap):=Ren.upd_le hn2
 have hr1:Rep P base (ι.upd (id+1) cap) s.look w:=by
  rw [hs]
  have back0:∀ x o b,H x=some o→(ι.upd (id+1) cap) x=some b→ι x=some b:=by
   intro x o b hx g
   unfold Ren.upd at g
   split at g
   ·rename_i ex
    exfalso
    subst ex
    cases hgo:gnum o with
    | none =>
     obtain ⟨b2,_,k,_⟩:=hr.there _ o hx hgo
     rw [hn2] at k
     cases k
    | some gg =>
     obtain ⟨e3,_⟩:=hr.gh _ o gg hx hgo
     unfold gro at hg
     simp at hg
     omega
   ·exact g
  refine ⟨?_,?_,hr.sz,hr.ghk (fun _ _ _ h _=>h) h1 (by unfold Ren.upd; rw [if_neg (fun e3=>by unfold gro at hg; simp at hg; omega)]) (Nat.le_refl _) (fun _ _ _=>rfl) (fun x ox bb hx hbb=>.inl ⟨x,ox,hx,back0 x ox bb hx hbb⟩)⟩
  ·intro x y ox oy b hx hy g1 g2
   exact hr.inj x y ox oy b hx hy (back0 x ox b hx g1) (back0 y oy b hy g2)
  ·intro x ox hx hrl
   obtain ⟨b,o',k1,k2,k3,k4⟩:=hr.there x ox hx hrl
   exact ⟨b,o',h1 _ _ k1,k2,k3.mono h1,k4⟩
 refine Rep.new hr1 hlim (by unfold gro at hg; simp at hg; omega) ?_ ?_
 ·unfold Ren.upd
  rw [if_neg (by omega)]
  exact hn
 ·refine ⟨rfl,c',rfl,hc,(fun g=>by rw [hg] at g; cases g),fun i v v' a b=>(hcr i v v' a b).mono h1,fun _=>⟨cap,ti,by simp [Ren.upd],hi,hsz⟩⟩
theorem Rep.drop {P:Program} {base:Nat→Prop} {ι:Ren} {s:St} {w:World} {id:Nat} (hr:Rep P base ι s.look w) (hlim:id < lim) : Rep P base ι (s.put id none).look w:=by
 have live:∀ x o,(s.put id none).look x=some o→x ≠ id∧s.look x=some o:=by
  intro x o hx
  by_cases e:x=id
  ·subst e; rw [St.look_put_same _ _ _ hlim] at hx; cases hx
  ·rw [St.look_put_other _ _ _ _ e] at hx; exact ⟨e,hx⟩
 refine ⟨fun x y ox oy b hx hy g1 g2=>hr.inj x y ox oy b (live x ox hx).2 (live y oy hy).2 g1 g2,fun x ox hx=>hr.there x ox (live x ox hx).2,hr.sz,hr.ghk (fun x ox g hx _=>(live x ox hx).2) (RLe.refl _) rfl (Nat.le_refl _) (fun _ _ _=>rfl) (fun x ox bb hx hbb=>.inl ⟨x,ox,(live x ox hx).2,hbb⟩)⟩
def AppS (P:Program) (base:Nat→Prop) (ι:Ren) (s s1:St) (w:World) (v:Value) (m':Sem Value) : Prop :=
 ∃ (κ:Ren) (v':Value) (w1:World),m'.run P w=.ok v' w1∧Rep P base κ s1.look w1∧(∀ id,(id < 4 * s.next∨4 * s1.next≤id)→κ id=ι id)∧VRel κ v v'∧Out base w w1
theorem ARel.append {ι:Ren} {a a' b b':Array Value} (h:ARel ι a a') (k:ARel ι b b') : ARel ι (a++b) (a'++b'):=by
 refine ⟨by simp [h.1,k.1],fun i e e' h1 h2=>?_⟩
 rw [Array.getElem?_append] at h1 h2
 rw [h.1] at h1
 split at h1
 ·rename_i c
  rw [if_pos c] at h2
  exact h.2 i e e' h1 h2
 ·rename_i c
  rw [if_neg c] at h2
  exact k.2 _ e e' h1 h2
theorem all_one {ι:Ren} {c c':Array Value} (h:ARel ι c c') (ha:c.toList.all oneCell=true) : ∀ u ∈ c'.toList,u.oneCell'=true:=by
 intro u hu
 rw [List.all_eq_true] at ha
 obtain ⟨i,hi⟩:=List.getElem?_of_mem hu
 have hi':c'[i]? = some u:=by rw [← Array.getElem?_toList]; exact hi
 rcases h.get i with ⟨e1,e2⟩ | ⟨x,x',e1,e2,hx⟩
 ·rw [hi'] at e2; cases e2
 ·rw [hi'] at e2
  cases e2
  exact one_one (hx.one (ha x (by rw [Array.mem_toList_iff]; exact Array.mem_of_getElem? e1)))
theorem grow_sound {P:Program} {base:Nat→Prop} {ι:Ren} {s:St} {w:World} {t u ty e:TypeId} {i:TypeInfo} {z:Value} {ba':Option Addr} {n c' m:Nat} {src':Value} {olds olds' news news':Array Value} {lg:List Touch}
  (hr:Rep P base ι s.look w) (ht:P.underlying t=some (.slice e)) (hu:(∃ e',P.underlying u=some (.slice e'))∨P.underlying u=some .string) (hi:P.info? e=some i) (hz:i.zero=some z) (hzs:z.cells.size=i.size)
  (hbytes:(n+m) * i.bytes≤140737488355328) (hnm:n+m≤1000000000) (hm:0 < m) (hlim:4 * s.next+1 < lim) (hg:c' < n+m)
  (ho:ARel ι olds olds') (ho2:olds.size=n * i.size) (ho3:∀ w':World,w'.heap=w.heap→(Builtin.firstCells i.size n (.slice ba' n c')).run P w'=.ok olds' w')
  (hn:ARel ι news news') (hn2:news.size=m * i.size) (hn3:news.toList.all oneCell=true) (hn4:∀ w':World,w'.heap=w.heap→(Builtin.firstCells i.size m src').run P w'=.ok news' w') (hn5:∀ w':World,(Builtin.lenOf src').run P w'=.ok m w')
  (hfr:∀ id,4 * s.next≤id→id < 4 * (s.next+1)→ι id=none) :
  AppS P base ι s { s.put (4 * s.next+1) (some (.cells (olds++news) e (0,0))) with next:=s.next+1,log:=lg } w (.slice (some ⟨4 * s.next+1,0,none⟩) (n+m) (n+m)) (Builtin.append_ #[t,u] ty #[.slice ba' n c',src']):=by
 have hsrc:Src P i.size u src' m news'.toList w:=by
  refine ⟨hu,hn5,?_,?_,by rw [Array.length_toList,← hn.1,hn2],all_one hn hn3⟩
  ·rw [Array.toArray_toList]; exact hn4 w rfl
  ·rw [Array.toArray_toList]; exact hn4 w.drew rfl
 have hrun:=run_append_grow_src (P:=P) w t u ty e i z ht hi hz ba' n c' olds'.toList (by rw [Array.toArray_toList]; exact ho3 w.drew rfl) src' m news'.toList hsrc hg (by omega) (growslice_fits hg hbytes)
 have hcap:=grownCap_ge w (n+m) c' e
 generalize grownCap w (n+m) c' e=cap at hrun hcap
 have e1:(olds'.toList++news'.toList).toArray=olds'++news':=by
  apply Array.ext'
  simp
 rw [e1] at hrun
 have hrel:=ho.append hn
 have hsz:(olds'++news').size=(n+m) * i.size:=by
  rw [← hrel.1,Array.size_append,ho2,hn2,Nat.add_mul]
 have hzc:(Builtin.zeroCells z.cells (cap - (n+m))).size=(cap - (n+m)) * i.size:=by
  simp [Builtin.zeroCells,hzs]
 have hrep:=Rep.grown (P:=P) (H:=s.look) (s:=s) (id:=4 * s.next+1) (cap:=cap) (c:=olds++news) (c':=olds'++news'++Builtin.zeroCells z.cells (cap - (n+m))) (e:=e) (ti:=i) (w:=w.drew) rfl ⟨hr.inj,hr.there,hr.sz,hr.ghk (fun _ _ _ h _=>h) (RLe.refl _) rfl (Nat.le_refl _) (fun _ _ _=>rfl) (fun x ox bb hx hbb=>.inl ⟨x,ox,hx,hbb⟩)⟩ hlim (hfr _ (by omega) (by omega)) (hfr _ (by omega) (by omega)) (gro_id _)
  (by rw [hrel.1,Array.size_append (xs:=olds'++news')]; omega)
  (fun k v v' g1 g2=>by
   have hk:k < (olds'++news').size:=by
    rw [← hrel.1]
    rcases Nat.lt_or_ge k (olds++news).size with g | g
    ·exact g
    ·rw [Array.getElem?_eq_none g] at g1; cases g1
   rw [Array.getElem?_append_left hk] at g2
   exact hrel.2 k v v' g1 g2)
  hi (by rw [Array.size_append (xs:=olds'++news'),hsz,hzc,← Nat.add_mul]; congr 1; omega)
 refine ⟨_,_,_,hrun,hrep,?_,?_,?_⟩
 ·intro id hid
  have hid':id < 4 * s.next∨4 * (s.next+1)≤id:=hid
  unfold Ren.upd
  rw [if_neg (by omega),if_neg (by omega)]
 ·refine .slice _ 0 _ _ _ _ (by simp [Ren.upd]) (fun g=>by rw [gro_id] at g; cases g) (fun _=>⟨hcap,fun _=>?_⟩) (by omega) (Nat.le_refl _)
  simp [Ren.upd]
 ·exact ((Out.refl base w).drew).alloc hr.sz _
theorem room_sound {P:Program} {base:Nat→Prop} {ι:Ren} {s:St} {w:World} {t u ty e:TypeId} {i:TypeInfo} {id b n c' m:Nat} {src':Value} {a0:Array Value} {f0:Nat×Nat} {olds olds' news news':Array Value} {lg:List Touch}
  (hr:Rep P base ι s.look w) (hl:s.look id=some (.cells a0 e f0)) (hb:ι id=some b) (hgid:gro id=true) (hcap:ι (id+1)=some c') (hidl:id < lim)
  (ht:P.underlying t=some (.slice e)) (hu:(∃ e',P.underlying u=some (.slice e'))∨P.underlying u=some .string) (hi:P.info? e=some i)
  (hm:0 < m) (hlim:4 * s.next+1 < lim) (hg:n+m≤c')
  (ho:ARel ι olds olds') (ho2:olds.size=n * i.size) (ho3:∀ w':World,w'.heap=w.heap→(Builtin.firstCells i.size n (.slice (some ⟨b,0,none⟩) n c')).run P w'=.ok olds' w') (hoe:olds=a0.extract 0 (0+n * i.size))
  (hn:ARel ι news news') (hn2:news.size=m * i.size) (hn3:news.toList.all oneCell=true) (hn4:∀ w':World,w'.heap=w.heap→(Builtin.firstCells i.size m src').run P w'=.ok news' w') (hn5:∀ w':World,(Builtin.lenOf src').run P w'=.ok m w')
  (hfr:∀ id,4 * s.next≤id→id < 4 * (s.next+1)→ι id=none) :
  AppS P base ι s { (s.put id none).put (4 * s.next+1) (some (.cells (olds++news) e (0,0))) with next:=s.next+1,log:=lg } w (.slice (some ⟨4 * s.next+1,0,none⟩) (n+m) (n+m)) (Builtin.append_ #[t,u] ty #[.slice (some ⟨b,0,none⟩) n c',src']):=by
 obtain ⟨b',o',i1,i2,i3,i4⟩:=hr.there id _ hl (hr.real hl hb)
 rw [hb] at i1
 cases i1
 obtain ⟨hf,cur,rfl,j1,j2,j3,j4⟩:=i3
 obtain ⟨cap,ti,k1,k2,k3⟩:=j4 hgid
 rw [hcap] at k1
 cases k1
 rw [hi] at k2
 cases k2
 have hsrc:Src P i.size u src' m news'.toList w:=by
  refine ⟨hu,hn5,?_,?_,by rw [Array.length_toList,← hn.1,hn2],all_one hn hn3⟩
  ·rw [Array.toArray_toList]; exact hn4 w rfl
  ·rw [Array.toArray_toList]; exact hn4 w.drew rfl
 have hnl:news'.toList.length=m * i.size:=by rw [Array.length_toList,← hn.1,hn2]
 have hfit:n * i.size+m * i.size≤cur.size:=by
  rw [k3,← Nat.add_mul]
  exact Nat.mul_le_mul_right _ hg
 have hrun:=run_append_room_src (P:=P) w t u ty e i ht hi b 0 n c' src' m news'.toList hsrc hg
  (fun j hj=>by
   have hlt:0+n * i.size+j < cur.size:=by omega
   simp only [World.cell?,i2,Array.getElem?_eq_getElem hlt]
   rfl)
  (fun j hj=>by simp [World.frozen?,i2])
 obtain ⟨cur2,s1,s2,s3,s4⟩:=heap_setCells (b:=b) news'.toList (0+n * i.size) w cur i2
 have hnid:ι (4 * s.next+1)=none:=hfr _ (by omega) (by omega)
 have hnid2:ι (4 * s.next+1+1)=none:=hfr _ (by omega) (by omega)
 have hle1:RLe ι (ι.upd (4 * s.next+1+1) c'):=Ren.upd_le hnid2
 have hle2:RLe (ι.upd (4 * s.next+1+1) c') ((ι.upd (4 * s.next+1+1) c').upd (4 * s.next+1) b):=Ren.upd_le (by unfold Ren.upd; rw [if_neg (by omega)]; exact hnid)
 have hle:=hle1.trans hle2
 have hrel:=ho.append hn
 have hne:id ≠ 4 * s.next+1:=by intro e; rw [e,hnid] at hb; cases hb
 have lives:∀ x ox,x ≠ 4 * s.next+1→((s.put id none).put (4 * s.next+1) (some (.cells (olds++news) e (0,0)))).look x=some ox→x ≠ id∧s.look x=some ox:=by
  intro x ox hx h
  rw [St.look_put_other _ _ _ _ hx] at h
  by_cases ex:x=id
  ·subst ex; rw [St.look_put_same _ _ _ hidl] at h; cases h
  ·rw [St.look_put_other _ _ _ _ ex] at h; exact ⟨ex,h⟩
 have back:∀ x ox bb,s.look x=some ox→((ι.upd (4 * s.next+1+1) c').upd (4 * s.next+1) b) x=some bb→ι x=some bb:=by
  intro x ox bb hx h
  cases hgo:gnum ox with
  | none =>
   obtain ⟨b2,o2,g1,_⟩:=hr.there x ox hx hgo
   have:=hle _ _ g1
   rw [h] at this
   cases this
   exact g1
  | some gg =>
   obtain ⟨e3,_⟩:=hr.gh _ ox gg hx hgo
   subst e3
   unfold Ren.upd at h
   rw [if_neg (by omega),if_neg (by omega)] at h
   exact h
 have hrep:Rep P base ((ι.upd (4 * s.next+1+1) c').upd (4 * s.next+1) b) ((s.put id none).put (4 * s.next+1) (some (.cells (olds++news) e (0,0)))).look (w.setCells b (0+n * i.size) news'.toList):=by
  refine ⟨?_,?_,by rw [setCells_size]; exact hr.sz,hr.ghk (fun x ox g hx hg=>?_) hle (by unfold Ren.upd; rw [if_neg (by omega),if_neg (by omega)]) (by rw [setCells_size]; exact Nat.le_refl _) (fun j hj _=>setCells_other _ _ _ _ (hj id _ b hl hb)) (fun x ox bb hx hbb=>?_)⟩
  rotate_left 2
  ·by_cases ex:x=4 * s.next+1
   ·subst ex
    rw [St.look_put_same _ _ _ hlim] at hx
    cases hx
    cases hg
   ·exact (lives x ox ex hx).2
  ·by_cases ex:x=4 * s.next+1
   ·subst ex
    simp only [Ren.upd,if_true,Option.some.injEq] at hbb
    subst hbb
    exact .inl ⟨id,_,hl,hb⟩
   ·exact .inl ⟨x,ox,(lives x ox ex hx).2,back x ox bb (lives x ox ex hx).2 hbb⟩
  ·intro x y ox oy bb hx hy g1 g2
   by_cases ex:x=4 * s.next+1
   ·by_cases ey:y=4 * s.next+1
    ·rw [ex,ey]
    ·exfalso
     obtain ⟨y1,y2⟩:=lives y oy ey hy
     have:=back y oy bb y2 g2
     subst ex
     simp only [Ren.upd,if_true,Option.some.injEq] at g1
     subst g1
     exact y1 (hr.inj y id oy _ b y2 hl this hb)
   ·obtain ⟨x1,x2⟩:=lives x ox ex hx
    have hx3:=back x ox bb x2 g1
    by_cases ey:y=4 * s.next+1
    ·exfalso
     subst ey
     simp only [Ren.upd,if_true,Option.some.injEq] at g2
     subst g2
     exact x1 (hr.inj x id ox _ b x2 hl hx3 hb)
    ·obtain ⟨y1,y2⟩:=lives y oy ey hy
     exact hr.inj x y ox oy bb x2 y2 hx3 (back y oy bb y2 g2)
  ·intro x ox hx hrl
   by_cases ex:x=4 * s.next+1
   ·subst ex
    rw [St.look_put_same _ _ _ hlim] at hx
    cases hx
    refine ⟨b,_,by simp [Ren.upd],s1,⟨rfl,cur2,rfl,?_,(fun g=>by rw [gro_id] at g; cases g),?_,fun _=>⟨c',i,by simp [Ren.upd],hi,by rw [s2]; exact k3⟩⟩,i4⟩
    ·rw [s2,Array.size_append,ho2,hn2]; exact hfit
    ·intro k v v' g1 g2
     by_cases hk:k < olds.size
     ·rw [Array.getElem?_append_left hk] at g1
      rw [s3 k (by omega)] at g2
      rw [hoe,Array.getElem?_extract] at g1
      split at g1
      ·rw [Nat.zero_add] at g1
       exact (j3 k v v' g1 g2).mono hle
      ·cases g1
     ·rw [Array.getElem?_append_right (Nat.le_of_not_lt hk)] at g1
      have hkn:k - olds.size < news.size:=by
       rcases Nat.lt_or_ge (k - olds.size) news.size with g | g
       ·exact g
       ·rw [Array.getElem?_eq_none g] at g1; cases g1
      rcases hn.get (k - olds.size) with ⟨e1,e2⟩ | ⟨x,x',e1,e2,hx⟩
      ·rw [g1] at e1; cases e1
      ·rw [g1] at e1
       cases e1
       have:=s4 (k - olds.size) x' (by rw [Array.getElem?_toList]; exact e2) (by omega)
       rw [show 0+n * i.size+(k - olds.size)=k by omega,g2] at this
       cases this
       exact hx.mono hle
   ·obtain ⟨x1,x2⟩:=lives x ox ex hx
    obtain ⟨b2,o2,g1,g2,g3,g4⟩:=hr.there x ox x2 hrl
    have hbb:b2 ≠ b:=by
     intro eb
     subst eb
     exact x1 (hr.inj x id ox _ b2 x2 hl g1 hb)
    exact ⟨b2,o2,hle _ _ g1,by rw [setCells_other _ _ _ _ hbb]; exact g2,g3.mono hle,g4⟩
 refine ⟨_,_,_,hrun,hrep,?_,?_,setCells_below i4 _ _ _⟩
 ·intro x hx
  have hx':x < 4 * s.next∨4 * (s.next+1)≤x:=hx
  unfold Ren.upd
  rw [if_neg (by omega),if_neg (by omega)]
 ·refine .slice _ 0 _ _ _ _ (by simp [Ren.upd]) (fun g=>by rw [gro_id] at g; cases g) (fun _=>⟨hg,fun _=>?_⟩) (by omega) (Nat.le_refl _)
  simp [Ren.upd]
theorem nothing_src {P:Program} {ι:Ren} {x x':Value} {sz:Nat} {u:TypeId} {w:World} (hx:VRel ι x x') (hl:srcLen x=some 0) (hu:(∃ e',P.underlying u=some (.slice e'))∨P.underlying u=some .string) : Src P sz u x' 0 [] w:=by
 have key:(∀ w':World,(Builtin.lenOf x').run P w'=.ok 0 w')∧∀ w':World,(Builtin.firstCells sz 0 x').run P w'=.ok #[] w':=by
  cases hx with
  | slice0=>exact ⟨fun _=>rfl,fun _=>rfl⟩
  | slice id off b n c c' h h0 h1 h2 h3 =>
   simp only [srcLen,Option.some.injEq] at hl
   subst hl
   exact ⟨fun _=>rfl,fun w'=>by simpa using run_firstCells_some (P:=P) w' sz 0 ⟨b,off,none⟩ 0 c' [] (by simp) (fun j u hu=>by simp at hu)⟩
  | sliceE id off b h h0=>exact ⟨fun _=>rfl,fun w'=>by simpa using run_firstCells_some (P:=P) w' sz 0 ⟨b,off,none⟩ 0 0 [] (by simp) (fun j u hu=>by simp at hu)⟩
  | string s =>
   simp only [srcLen,Option.some.injEq] at hl
   refine ⟨fun w'=>by rw [← hl]; rfl,fun w'=>?_⟩
   simp [Builtin.firstCells]
  | _=>cases hl
 exact ⟨hu,key.1,by simpa using key.2 w,by simpa using key.2 w.drew,by simp,fun _ h=>by cases h⟩
theorem aAppend_sound {P:Program} {base:Nat→Prop} {ι:Ren} {s s1:St} {w:World} {t u ty:TypeId} {dst dst' src src' v:Value} (hr:Rep P base ι s.look w) (hd:VRel ι dst dst') (hx:VRel ι src src')
  (ha:aAppend P s t u dst src=some (v,s1)) (hfr:∀ id,4 * s.next≤id→id < 4 * s1.next→ι id=none) : AppS P base ι s s1 w v (Builtin.append_ #[t,u] ty #[dst',src']):=by
 unfold aAppend at ha
 split at ha
 ·rename_i e m ba n c ht hm
  split at ha
  ·rename_i i hi
   split at ha
   ·rename_i z hz hu0
    have hu:(∃ e',P.underlying u=some (.slice e'))∨P.underlying u=some .string:=by
     split at hu0
     ·rename_i e' he; exact .inl ⟨e',he⟩
     ·rename_i he; exact .inr he
     ·cases hu0
    split at ha
    ·rename_i hm0
     subst hm0
     cases ha
     have hsrc:=nothing_src (P:=P) (sz:=i.size) (w:=w) hx hm hu
     have hdd:∃ ba' c',dst'=.slice ba' n c'∧n≤c':=by
      cases hd with
      | slice0=>exact ⟨none,0,rfl,Nat.le_refl _⟩
      | slice id off b _ _ c' h h0 h1 h2 h3 =>
       refine ⟨_,c',rfl,?_⟩
       cases hg:gro id with
       | false=>rw [← h0 hg]; exact h3
       | true=>exact Nat.le_trans h3 (h1 hg).1
      | sliceE id off b h h0=>exact ⟨_,0,rfl,Nat.le_refl _⟩
     obtain ⟨ba',c',rfl,hle⟩:=hdd
     exact ⟨ι,_,w,run_append_nothing w t u ty e i ht hi ba' n c' hle src' hsrc,hr,fun _ _=>rfl,hd,Out.refl _ _⟩
    ·rename_i hm0
     split at ha
     ·rename_i hc
      obtain ⟨hc1,hc2,hc3,hc4,hc5,hc6⟩:=hc
      split at ha
      ·rename_i news l1 olds l2 hnw hol
       obtain ⟨news',n1,n2,n3,n4,n5⟩:=srcCells_rel hr hx hnw hm
       dsimp only at ha
       cases ba with
       | none =>
        dsimp only at ha
        cases ha
        cases hd with
        | slice0 =>
         obtain ⟨olds',o1,o2,o3,o4,o5⟩:=srcCells_rel hr (VRel.slice0 (ι:=ι)) hol rfl
         exact grow_sound hr ht hu hi hz hc5 hc1 hc2 (by omega) hc3 (by omega) o1 o2 o4 n1 n2 n3 n4 n5 (fun id h1 h2=>hfr id h1 h2)
       | some a =>
        dsimp only at ha
        split at ha
        ·rename_i hg
         split at ha
         ·rename_i a1 e0 f0 hoff hl
          split at ha
          ·rename_i he
           obtain ⟨rfl,hal⟩:=he
           cases ha
           have hdv:=hd
           cases hd with
           | slice id off b _ _ c' hb h0 h1 h2 h3 =>
            dsimp only at hoff hl hg hal
            subst hoff
            obtain ⟨olds',o1,o2,o3,o4,o5⟩:=srcCells_rel hr hdv hol rfl
            by_cases hroom:n+m≤c'
            ·have hoe:olds=a1.extract 0 (0+n * i.size):=by
              simp only [srcCells,hl] at hol
              split at hol
              ·cases hol; rfl
              ·cases hol
             exact room_sound hr hl hb hg ((h1 hg).2 rfl) hal ht hu hi (by omega) hc3 hroom o1 o2 o4 hoe n1 n2 n3 n4 n5 (fun id h1 h2=>hfr id h1 h2)
            ·obtain ⟨κ,v',w1,r1,r2,r3,r4,r5⟩:=grow_sound (s:=s.put id none) (lg:=⟨4 * s.next+1,none,true⟩::⟨id,none,true⟩::(l1++(l2++s.log))) (ty:=ty) (Rep.drop hr hal) ht hu hi hz hc5 hc1 hc2 (by omega) hc3 (by omega) o1 o2 o4 n1 n2 n3 n4 n5 (fun id h1 h2=>hfr id h1 h2)
             exact ⟨κ,v',w1,r1,r2,r3,r4,r5⟩
           | sliceE id off b hb h0=>rw [h0] at hg; cases hg
          ·cases ha
         ·cases ha
        ·rename_i hg
         split at ha
         ·rename_i hroom
          cases ha
          have hdv:=hd
          obtain ⟨olds',o1,o2,o3,o4,o5⟩:=srcCells_rel hr hdv hol rfl
          cases hd with
          | slice id off b _ _ c' hb h0 h1 h2 h3 =>
           have:c=c':=h0 (by simpa using hg)
           exact grow_sound hr ht hu hi hz hc5 hc1 hc2 (by omega) hc3 (by omega) o1 o2 o4 n1 n2 n3 n4 n5 (fun id h1 h2=>hfr id h1 h2)
          | sliceE id off b hb h0=>exact grow_sound hr ht hu hi hz hc5 hc1 hc2 (by omega) hc3 (by omega) o1 o2 o4 n1 n2 n3 n4 n5 (fun id h1 h2=>hfr id h1 h2)
         ·cases ha
      ·cases ha
     ·cases ha
   ·cases ha
  ·cases ha
 ·cases ha
def inRoom (P:Program) (u:TypeId) (d x:Value) : Bool :=
 match d,srcLen x,P.underlying u with
 | .slice (some a) n c,some m,some (.slice _)=>!gro a.block && decide (n+m≤c)
 | .slice (some a) n c,some m,some .string=>!gro a.block && decide (n+m≤c)
 | _,_,_=>false
theorem srcLen_rel {ι:Ren} {x x':Value} {m:Nat} (h:VRel ι x x') (hm:srcLen x=some m) : srcLen x'=some m:=by
 cases h <;> first | exact hm | cases hm
theorem sim_appendIn {P:Program} {base:Nat→Prop} {ι:Ren} {d d' x x':Value} (t u ty:TypeId) (hd:VRel ι d d') (hx:VRel ι x x') (h:inRoom P u d x=true) :
  Sim P base VV ι (Builtin.append_ #[t,u] ty #[d,x]) (Builtin.append_ #[t,u] ty #[d',x']):=by
 have hh:∃ a n c m,d=.slice (some a) n c∧srcLen x=some m∧gro a.block=false∧n+m≤c∧((∃ e,P.underlying u=some (.slice e))∨P.underlying u=some .string):=by
  unfold inRoom at h
  split at h
  ·rename_i a n c m e hm hu
   simp only [Bool.and_eq_true,Bool.not_eq_true',decide_eq_true_eq] at h
   exact ⟨a,n,c,m,rfl,hm,h.1,h.2,.inl ⟨e,hu⟩⟩
  ·rename_i a n c m hm hu
   simp only [Bool.and_eq_true,Bool.not_eq_true',decide_eq_true_eq] at h
   exact ⟨a,n,c,m,rfl,hm,h.1,h.2,.inr hu⟩
  ·cases h
 obtain ⟨a,n,c,m,rfl,hm,hg,hroom,hu⟩:=hh
 have lenx:∀ x,srcLen x=some m→Builtin.lenOf x=pure m:=by
  intro x hx
  cases x <;> first | (cases hx; done) | (simp only [srcLen,Option.some.injEq] at hx; subst hx; rfl)
 have main:∀ (id off b:Nat),ι id=some b→VRel ι (.slice (some ⟨id,off,none⟩) n c) (.slice (some ⟨b,off,none⟩) n c)→Sim P base VV ι (Builtin.append_ #[t,u] ty #[.slice (some ⟨id,off,none⟩) n c,x]) (Builtin.append_ #[t,u] ty #[.slice (some ⟨b,off,none⟩) n c,x']):=by
  intro id off b hb hself
  unfold Builtin.append_
  simp only [List.getElem?_toArray,List.getElem?_cons_zero,List.getElem?_cons_succ]
  refine Sim.bnd (sim_underlying t) (fun κ a a' hle ha=>?_)
  obtain ⟨rfl,h2⟩:=ha
  cases a' with
  | slice elem =>
   dsimp only
   refine Sim.bnd (sim_sizeOf elem) (fun κ2 sz sz' hle2 hs=>?_)
   subst hs
   refine Sim.bnd (sim_underlying u) (fun κ2' y y' hle2' hy=>?_)
   obtain ⟨rfl,hy⟩:=hy
   refine Sim.bnd (R:=fun _ z z'=>z=false∧z'=false) (Sim.ret ?_) (fun κ3 z z' hle3 hz=>?_)
   ·rcases hu with ⟨e,hu⟩ | hu
    ·rw [hu] at hy; cases hy; exact ⟨rfl,rfl⟩
    ·rw [hu] at hy; cases hy; exact ⟨rfl,rfl⟩
   ·obtain ⟨rfl,rfl⟩:=hz
    simp only [Bool.false_eq_true,if_false,Bool.not_false,if_true]
    rw [lenx x hm,lenx x' (srcLen_rel hx hm)]
    refine Sim.bnd (R:=fun _ l l'=>l=m∧l'=m) (Sim.ret ⟨rfl,rfl⟩) (fun κ4 l l' hle4 hl=>?_)
    obtain ⟨rfl,rfl⟩:=hl
    simp only [hroom,if_true]
    have hle3:=RLe.trans hle2' hle3
    have hx4:=(((hx.mono hle).mono hle2).mono hle3).mono hle4
    refine Sim.bnd (sim_firstCells sz' l' hx4) (fun κ5 cs cs' hle5 hc=>?_)
    rw [Addr.add_mk,Addr.add_mk]
    refine Sim.bnd (sim_storeCells _ _ 0 κ5 (hle5 _ _ (hle4 _ _ (hle3 _ _ (hle2 _ _ (hle _ _ hb))))) hc.list) (fun κ6 _ _ hle6 _=>Sim.ret ?_)
    have hm6:=(((((hself.mono hle).mono hle2).mono hle3).mono hle4).mono hle5).mono hle6
    cases hm6 with
    | slice _ _ _ _ _ _ q0 q1 q2 q3 q4=>exact .slice _ _ _ _ _ _ q0 q1 q2 q3 hroom
    | sliceE _ _ _ q0 q1 =>
     have:0+l'=0:=by omega
     rw [this]
     exact .sliceE _ _ _ q0 q1
  | _=>exact Sim.halt
 cases hd with
 | slice id off b _ _ c' hb h0 h1 h2 h3 =>
  have hc:c=c':=h0 hg
  subst hc
  exact main id off b hb (.slice id off b n c c hb h0 h1 h2 h3)
 | sliceE id off b hb h0=>exact main id off b hb (.sliceE id off b hb h0)
end Go.Ev
namespace Go.Ev
open Go.RowKit
set_option linter.unusedVariables false
set_option linter.unusedSimpArgs false
set_option linter.unusedSectionVars false
variable [Sig]
theorem sim_len {P:Program} {base:Nat→Prop} {ι:Ren} {x x':Value} (t ty:TypeId) (hx:VRel ι x x') : Sim P base VV ι (Builtin.len_ #[t] ty #[x]) (Builtin.len_ #[t] ty #[x']):=by
 unfold Builtin.len_
 simp only [List.getElem?_toArray,List.getElem?_cons_zero,List.getElem?_cons_succ]
 refine Sim.bnd (sim_underlying t) (fun κ d d' hle hd=>?_)
 obtain ⟨rfl,h2⟩:=hd
 have hx2:=hx.mono hle
 cases d' with
 | string=>cases hx2 <;> first | exact Sim.ret (.int _ _) | exact Sim.halt
 | array n e=>exact Sim.ret (.int _ _)
 | slice e=>cases hx2 <;> first | exact Sim.ret (.int _ _) | exact Sim.halt
 | map k e =>
  cases hx2 with
  | map0=>exact Sim.ret (.int _ _)
  | map id b hb =>
   dsimp only
   refine Sim.bnd (R:=fun κ (o o':Obj)=>ORel P κ id o o') (Sim.getObj hb (fun o o' ho _=>Sim.pure ho)) (fun κ2 o o' hle2 ho=>?_)
   cases o with
   | map es n =>
    obtain ⟨es',rfl,he⟩:=ho
    dsimp only
    rw [← he.1]
    exact Sim.ret (.int _ _)
   | _=>exact Sim.halt
  | _=>exact Sim.halt
 | pointer arr =>
  dsimp only
  refine Sim.bnd (sim_underlying arr) (fun κ2 d d' hle2 hd=>?_)
  obtain ⟨rfl,h3⟩:=hd
  cases d' <;> first | exact Sim.ret (.int _ _) | exact Sim.halt
 | chan a b=>cases hx2 <;> exact Sim.halt
 | _=>exact Sim.halt
def capOk:Value→Bool
 | .slice none _ _=>true
 | .slice (some a) _ _=>!gro a.block
 | _=>false
theorem sim_cap {P:Program} {base:Nat→Prop} {ι:Ren} {x x':Value} (t ty:TypeId) (hx:VRel ι x x') (hc:capOk x=true) : Sim P base VV ι (Builtin.cap_ #[t] ty #[x]) (Builtin.cap_ #[t] ty #[x']):=by
 unfold Builtin.cap_
 simp only [List.getElem?_toArray,List.getElem?_cons_zero,List.getElem?_cons_succ]
 refine Sim.bnd (sim_underlying t) (fun κ d d' hle hd=>?_)
 obtain ⟨rfl,h2⟩:=hd
 have hx2:=hx.mono hle
 cases d' with
 | array n e=>exact Sim.ret (.int _ _)
 | slice e =>
  cases hx2 with
  | slice id off b n c c' h h0 h1 h2 h3 =>
   have hg:gro id=false:=by simpa [capOk] using hc
   rw [h0 hg]
   exact Sim.ret (.int _ _)
  | slice0=>exact Sim.ret (.int _ _)
  | sliceE id off b h h0=>exact Sim.ret (.int _ _)
  | _=>exact Sim.halt
 | pointer arr =>
  dsimp only
  refine Sim.bnd (sim_underlying arr) (fun κ2 d d' hle2 hd=>?_)
  obtain ⟨rfl,h3⟩:=hd
  cases d' <;> first | exact Sim.ret (.int _ _) | exact Sim.halt
 | chan a b=>cases hx2 <;> exact Sim.halt
 | _=>exact Sim.halt
theorem Sim.none {α β:Type} {P:Program} {base:Nat→Prop} {R:Ren→α→β→Prop} {ι:Ren} {m:Sem α} {m':Sem β} (h:∀ s,arun P m s=Option.none) : Sim P base R ι m m':=by
 intro s w a s1 hr ha
 rw [h] at ha
 cases ha
theorem arun_bind_none1 {α β:Type} {P:Program} (m:Sem α) (f:α→Sem β) (h:∀ s,arun P m s=Option.none) (s:St) : arun P (m >>= f) s=Option.none:=by
 show arun P (m.bind f) s=Option.none
 rw [arun_bind,h]
 rfl
theorem sim_askRoom {P:Program} {base:Nat→Prop} {ι:Ren} (n:Nat) : Sim P base (fun _ _ _=>True) ι (Go.askRoom n) (Go.askRoom n):=by
 unfold Go.askRoom
 split
 ·exact Sim.mark (Sim.pure trivial)
 ·exact Sim.ret trivial
theorem sim_makeSlice {P:Program} {base:Nat→Prop} {ι:Ren} {l l' c c':Value} (t:TypeId) (hz:zOk P (elemT P t)=true) (hq:zPos P (elemT P t)=true) (hl:VRel ι l l') (hc:VRel ι c c') : Sim P base VV ι (Instr.makeSlice t l c) (Instr.makeSlice t l' c'):=by
  unfold Instr.makeSlice
  refine Sim.bnd (sim_underlying t) (fun κ d d' hle hd=>?_)
  obtain ⟨rfl,h2⟩:=hd
  cases d' with
  | slice elem =>
    dsimp only
    have he:elemT P t=elem:=by simp [elemT,h2]
    rw [he] at hz hq
    refine Sim.bnd (sim_asInt (hl.mono hle)) (fun κ2 a a' hle2 ha=>?_)
    subst ha
    refine Sim.bnd (sim_asInt ((hc.mono hle).mono hle2)) (fun κ3 b b' hle3 hb=>?_)
    subst hb
    refine Sim.bnd (sim_typeInfo elem) (fun κ4 i i' hle4 hi=>?_)
    obtain ⟨rfl,hi2⟩:=hi
    have fin:∀ (κ:Ren) (zero zero':Array Value) (n L C:Nat),ARel κ zero zero'→(n=0∨0 < zero.size)→L≤C→Sim P base VV κ
        (do let a ← Go.newRow elem ((Array.range n).map (zero[· % zero.size]!))
            pure (Value.slice (some a) L C))
        (do let a ← Go.newRow elem ((Array.range n).map (zero'[· % zero'.size]!))
            pure (Value.slice (some a) L C)):=by
      intro κ zero zero' n L C hzr hpos hLC
      refine Sim.bnd (sim_newRow elem (hzr.zeros n hpos)) (fun κ4 a a' hle4 ha=>?_)
      obtain ⟨id,b,rfl,rfl,hb,hg⟩:=ha
      by_cases hC:0 < C
      · exact Sim.ret (.slice id 0 b L C C hb (fun _=>rfl) (fun g=>by rw [hg] at g; cases g) hC hLC)
      · obtain ⟨rfl,rfl⟩ : C=0∧L=0:=by omega
        exact Sim.ret (.sliceE id 0 b hb hg)
    split
    · split
      · exact Sim.none (fun s=>arun_bind_none1 _ _ (fun s=>arun_panic _ s) s)
      · split
        · exact Sim.none (fun s=>arun_bind_none1 _ _ (fun s=>arun_panic _ s) s)
        · exact Sim.none (fun s=>arun_bind_none1 _ _ (fun s=>rfl) s)
    · rename_i hcond
      simp only [Bool.or_eq_true,decide_eq_true_eq,not_or] at hcond
      refine Sim.bnd (sim_askRoom _) (fun κ5 _ _ hle5 _=>?_)
      refine Sim.bnd (sim_sizeOf elem) (fun κ6 sz sz' hle6 hs=>?_)
      subst hs
      split
      · rename_i h0
        refine Sim.bnd (R:=fun _ p p'=>p = #[]∧p' = #[]) (Sim.ret ⟨rfl,rfl⟩) (fun κ7 z z' hle7 hz7=>?_)
        obtain ⟨rfl,rfl⟩:=hz7
        exact fin κ7 #[] #[] _ _ _ (ARel.empty κ7) (.inl h0) (by omega)
      · refine Sim.bnd (sim_zeroPos elem hz hq) (fun κ7 v v' hle7 hv=>?_)
        obtain ⟨rfl,hv,hpos⟩:=hv
        refine Sim.bnd (R:=fun κ p p'=>ARel κ p p'∧0 < p.size) (Sim.ret ⟨cells_rel hv,hpos⟩) (fun κ8 z z' hle8 hz8=>?_)
        exact fin κ8 z z' _ _ _ hz8.1 (.inr hz8.2) (by omega)
  | _=>exact Sim.halt
def sv (r:Option (Value×St)) : Option (Next×St):=r.map fun (v,s)=>(.value v,s)
def su {α:Type} (r:Option (α×St)) : Option (Next×St):=r.map fun (_,s)=>(.skip,s)
theorem OpS.of_val {P:Program} {base:Nat→Prop} {ι:Ren} {s s1:St} {w:World} {n:Next} {m m':Sem Value} (h:Sim P base VV ι m m') (hr:Rep P base ι s.look w) (ha:sv (arun P m s)=some (n,s1))
    (hfr:∀ id,4 * s.next≤id→id < 4 * s1.next→ι id=none) : OpS P base ι s s1 w n (do pure (.value (← m'))):=by
  unfold sv at ha
  rw [Option.map_eq_some_iff] at ha
  obtain ⟨⟨v,s2⟩,h1,h2⟩:=ha
  cases h2
  obtain ⟨κ,v',w1,r1,r2,r3,r4,r5⟩:=h s w v s1 hr h1 hfr
  exact ⟨κ,.value v',w1,by rw [Sem.run_bind,r1]; rfl,r2,r3,r4,r5⟩
theorem OpS.of_unit {P:Program} {base:Nat→Prop} {ι:Ren} {s s1:St} {w:World} {n:Next} {m m':Sem Unit} (h:Sim P base (fun _ _ _=>True) ι m m') (hr:Rep P base ι s.look w) (ha:su (arun P m s)=some (n,s1))
    (hfr:∀ id,4 * s.next≤id→id < 4 * s1.next→ι id=none) : OpS P base ι s s1 w n (do m'; pure .skip):=by
  unfold su at ha
  rw [Option.map_eq_some_iff] at ha
  obtain ⟨⟨v,s2⟩,h1,h2⟩:=ha
  cases h2
  obtain ⟨κ,v',w1,r1,r2,r3,r4,r5⟩:=h s w v s1 hr h1 hfr
  exact ⟨κ,.skip,w1,by rw [Sem.run_bind,r1]; rfl,r2,r3,trivial,r5⟩
theorem OpS.of_pure {P:Program} {base:Nat→Prop} {ι:Ren} {s:St} {w:World} {n n':Next} {m':Sem Next} (hr:Rep P base ι s.look w) (h:m'.run P w=.ok n' w) (hn:NRel P ι n n') : OpS P base ι s s w n m' :=
 ⟨ι,n',w,h,hr,fun _ _=>rfl,hn,Out.refl _ _⟩
def fnOk (P:Program) (f:FuncId) : Bool :=
 match P.funcs[f]? with
 | some fn=>fn.name != "runtime.NumGoroutine" && fn.body.isSome
 | none=>false
theorem run_callFunc {P:Program} {f:FuncId} (h:fnOk P f=true) (args:Array Value) (w:World) : (Go.callFunc f args).run P w=.ok (.enter f args) w:=by
 unfold fnOk at h
 split at h
 ·rename_i fn hf
  simp only [Bool.and_eq_true,bne_iff_ne,ne_eq] at h
  unfold Go.callFunc
  show (match P.funcs[f]? with | none=>Go.stuck "call: no such function" | some fn=>_:Sem Next).run P w=_
  rw [hf]
  dsimp only
  have h1:(fn.name == "runtime.NumGoroutine")=false:=by simpa using h.1
  have h2:fn.body.isNone=false:=by
   cases hb:fn.body with
   | none=>rw [hb] at h; cases h.2
   | some x=>rfl
  rw [if_neg (by rw [h1]; decide),if_neg (by rw [h2]; decide)]
  rfl
 ·cases h
theorem sim_getObjR {P:Program} {base:Nat→Prop} {ι:Ren} {id b:Nat} (hb:ι id=some b) : Sim P base (fun κ (o o':Obj)=>ORel P κ id o o') ι (Go.getObj id) (Go.getObj b) :=
 Sim.getObj hb (fun o o' ho _=>Sim.pure ho)
theorem sim_setObjR {P:Program} {base:Nat→Prop} {ι:Ren} {id b:Nat} {o o':Obj} (hb:ι id=some b) (ho:ORel P ι id o o') (hc:∀ c e f,o ≠ .cells c e f) : Sim P base (fun _ _ _=>True) ι (Go.setObj id o) (Go.setObj b o') :=
 Sim.setObj hb ho hc (Sim.pure trivial)
theorem sim_getLoop {P:Program} {base:Nat→Prop} {ι:Ren} {id b:Nat} (hb:ι id=some b) : Sim P base (fun κ r r'=>LoopRel P κ r r') ι (Instr.getLoop id) (Instr.getLoop b):=by
 unfold Instr.getLoop
 refine Sim.bnd (sim_getObjR hb) (fun κ o o' hle ho=>?_)
 cases o with
 | loop l =>
  obtain ⟨l',rfl,hl⟩:=ho
  exact Sim.ret hl
 | _=>exact Sim.halt
theorem fold_rel {ι:Ren} : ∀ (ps:List Tmp) (l l':List Value) (t t':Array Value),l.length=l'.length→(∀ (i:Nat) (v v':Value),l[i]? = some v→l'[i]? = some v'→VRel ι v v')→ARel ι t t' →
  ARel ι ((ps.zip l).foldl (fun t (x:Tmp×Value)=>t.setIfInBounds x.1 x.2) t) ((ps.zip l').foldl (fun t (x:Tmp×Value)=>t.setIfInBounds x.1 x.2) t'):=by
 intro ps
 induction ps with
 | nil=>intro l l' t t' _ _ h; exact h
 | cons p ps ih =>
  intro l l' t t' hl hv h
  cases l with
  | nil =>
   cases l' with
   | nil=>exact h
   | cons v' l'=>cases hl
  | cons v l =>
   cases l' with
   | nil=>cases hl
   | cons v' l' =>
    rw [List.zip_cons_cons,List.zip_cons_cons,List.foldl_cons,List.foldl_cons]
    exact ih l l' _ _ (by simpa using hl) (fun i x x' a b=>hv (i+1) x x' a b) (getElem?_set_rel h (hv 0 v v' rfl rfl) p)
theorem sim_yield {P:Program} {base:Nat→Prop} {ι:Ren} {id b:Nat} {args args':Array Value} (hb:ι id=some b) (ha:ARel ι args args') : Sim P base (NRel P) ι (Instr.yield id args) (Instr.yield b args'):=by
 unfold Instr.yield
 refine Sim.bnd (sim_getLoop hb) (fun κ r r' hle hr=>?_)
 rw [← hr.params,← ha.1]
 split
 ·exact Sim.halt
 ·refine Sim.ret ⟨hle _ _ hb,?_,hr.assign,hr.body,hr.ok1,hr.ok2⟩
  have e:∀ (ps:Array Tmp) (l:Array Value) (t:Array Value),(ps.zip l).foldl (fun tmps (x:Tmp×Value)=>tmps.setIfInBounds x.1 x.2) t=(ps.toList.zip l.toList).foldl (fun tmps (x:Tmp×Value)=>tmps.setIfInBounds x.1 x.2) t:=by
   intro ps l t
   rw [← Array.foldl_toList,Array.toList_zip]
  show ARel κ ((r.params.zip args).foldl (fun tmps (x:Tmp×Value)=>tmps.setIfInBounds x.1 x.2) r.tmps) ((r.params.zip args').foldl (fun tmps (x:Tmp×Value)=>tmps.setIfInBounds x.1 x.2) r'.tmps)
  rw [e,e]
  have ha2:=ha.mono hle
  exact fold_rel _ _ _ _ _ (by simpa using ha2.1) (fun i v v' a b=>ha2.2 i v v' (by simpa using a) (by simpa using b)) hr.tmps
def RdRel (ι:Ren) : Option Nat→Option Nat→Prop
 | none,none=>True
 | some l,some b=>ι l=some b
 | _,_=>False
theorem RdRel.mono {ι κ:Ren} (hk:RLe ι κ) {r r':Option Nat} (h:RdRel ι r r') : RdRel κ r r':=by
 cases r <;> cases r' <;> first | exact h | exact hk _ _ h
theorem sim_enterLoop {P:Program} {base:Nat→Prop} {ι:Ren} {t t':Array Value} {rd rd':Option Nat} (fn fn':FuncId) (ps:Array Tmp) (assign body:Code) (ht:ARel ι t t') (hrd:RdRel ι rd rd') (ho1:CodeOK P assign) (ho2:CodeOK P body) :
    Sim P base (fun κ x x'=>κ x.1=some x'.1∧DRel κ x.2 x'.2) ι (Instr.enterLoop fn t ps assign body rd) (Instr.enterLoop fn' t' ps assign body rd'):=by
  unfold Instr.enterLoop
  have fin:∀ (κ:Ren) (d d':Nat) (m m':List Deferred),RLe ι κ→κ d=some d'→DRel κ m m'→Sim P base (fun κ x x'=>κ x.1=some x'.1∧DRel κ x.2 x'.2) κ
      (do pure (← Go.newObj (.loop { state:=.ready,pending:=none,fn,tmps:=t,params:=ps,assign,body,defers:=d }),m) : Sem (Nat×List Deferred))
      (do pure (← Go.newObj (.loop { state:=.ready,pending:=none,fn:=fn',tmps:=t',params:=ps,assign,body,defers:=d' }),m') : Sem (Nat×List Deferred)):=by
    intro κ d d' m m' hle hd hm
    exact Sim.bnd (sim_newObj (P:=P) (base:=base) ⟨_,rfl,rfl,rfl,ht.mono hle,rfl,rfl,rfl,hd,ho1,ho2⟩) (fun κ2 a b hle2 hab=>Sim.ret ⟨hab,hm.mono hle2⟩)
  cases rd with
  | none =>
    cases rd' with
    | some b=>exact hrd.elim
    | none =>
      dsimp only
      refine Sim.bnd (sim_newObj (P:=P) (base:=base) (o:=.deferred (some [])) (o':=.deferred (some [])) ⟨rfl,.inr rfl⟩) (fun κ r r' hle hr=>?_)
      exact fin κ r r' _ _ hle hr (.cons r r' [] [] hr .nil)
  | some l =>
    cases rd' with
    | none=>exact hrd.elim
    | some b =>
      dsimp only
      refine Sim.bnd (sim_getLoop hrd) (fun κ r r' hle hr=>?_)
      exact fin κ _ _ _ _ hle hr.defers .nil
theorem LoopRel.set {P:Program} {ι:Ren} {r r':Loop} (h:LoopRel P ι r r') (st:LoopState) (pe:Option Code) : LoopRel P ι { r with state:=st,pending:=pe } { r' with state:=st,pending:=pe } :=
 ⟨rfl,rfl,h.tmps,h.params,h.assign,h.body,h.defers,h.ok1,h.ok2⟩
theorem sim_beginRound {P:Program} {base:Nat→Prop} {ι:Ren} {id b:Nat} (hb:ι id=some b) : Sim P base (fun _ _ _=>True) ι (Instr.beginRound id) (Instr.beginRound b):=by
 unfold Instr.beginRound
 refine Sim.bnd (sim_getLoop hb) (fun κ r r' hle hr=>?_)
 refine Sim.bnd (sim_setObjR (hle _ _ hb) ⟨_,rfl,⟨rfl,hr.pending,hr.tmps,hr.params,hr.assign,hr.body,hr.defers,hr.ok1,hr.ok2⟩⟩ (by intro c e f x; cases x)) (fun κ2 _ _ hle2 _=>?_)
 rw [← hr.state]
 cases r.state with
 | ready=>exact Sim.ret trivial
 | _=>exact Sim.panics
theorem sim_endRound {P:Program} {base:Nat→Prop} {ι:Ren} {id b:Nat} (hb:ι id=some b) (jump:Option Code) : Sim P base VV ι (Instr.endRound id jump) (Instr.endRound b jump):=by
 unfold Instr.endRound
 refine Sim.bnd (sim_getLoop hb) (fun κ r r' hle hr=>?_)
 refine Sim.bnd (sim_setObjR (hle _ _ hb) ⟨_,rfl,hr.set _ _⟩ (by intro c e f x; cases x)) (fun κ2 _ _ hle2 _=>?_)
 exact Sim.ret (.bool _)
theorem sim_endLoop {P:Program} {base:Nat→Prop} {ι:Ren} {id b:Nat} (hb:ι id=some b) : Sim P base (fun _ x y=>y=x) ι (Instr.endLoop id) (Instr.endLoop b):=by
 unfold Instr.endLoop
 refine Sim.bnd (sim_getLoop hb) (fun κ r r' hle hr=>?_)
 rw [← hr.state]
 split
 ·exact Sim.bnd (R:=fun _ _ _=>False) Sim.panics (fun κ2 _ _ _ hx=>hx.elim)
 ·refine Sim.bnd (sim_setObjR (hle _ _ hb) ⟨_,rfl,⟨rfl,hr.pending,hr.tmps,hr.params,hr.assign,hr.body,hr.defers,hr.ok1,hr.ok2⟩⟩ (by intro c e f x; cases x)) (fun κ2 _ _ hle2 _=>?_)
  exact Sim.ret hr.pending.symm
theorem sim_takeDeferred {P:Program} {base:Nat→Prop} {ι:Ren} {id b:Nat} (hb:ι id=some b) : Sim P base (fun _ x y=>x=[]∧y=[]) ι (Instr.takeDeferred id) (Instr.takeDeferred b):=by
 unfold Instr.takeDeferred
 refine Sim.bnd (sim_getObjR hb) (fun κ o o' hle ho=>?_)
 cases o with
 | deferred d =>
  obtain ⟨rfl,hd⟩:=ho
  rcases hd with rfl | rfl
  ·exact Sim.halt
  ·exact Sim.bnd (sim_setObjR (hle _ _ hb) ⟨rfl,.inl rfl⟩ (by intro c e f x; cases x)) (fun κ2 _ _ hle2 _=>Sim.ret ⟨rfl,rfl⟩)
 | _=>exact Sim.halt
end Go.Ev
namespace Go.Ev
open Go.RowKit
set_option linter.unusedVariables false
set_option linter.unusedSimpArgs false
set_option linter.unusedSectionVars false
variable [Sig]
def aNilEq (P:Program) (t:TypeId) (x y:Value) : Bool :=
 match P.underlying t,x,y with
 | some (.pointer _),.pointer (some _),.pointer none=>true
 | some (.pointer _),.pointer none,.pointer (some _)=>true
 | some (.interface _),.iface _ _,.nilIface=>true
 | some (.interface _),.nilIface,.iface _ _=>true
 | some (.slice _),.slice (some _) _ _,.slice none 0 0=>true
 | some (.slice _),.slice none 0 0,.slice (some _) _ _=>true
 | some (.map _ _),.map (some _),.map none=>true
 | some (.map _ _),.map none,.map (some _)=>true
 | some (.func _ _ _),.func _ _ _,.nilFunc=>true
 | some (.func _ _ _),.nilFunc,.func _ _ _=>true
 | _,_,_=>false
theorem aNilEq_rel {P:Program} {ι:Ren} {t:TypeId} {x y x' y':Value} (hx:VRel ι x x') (hy:VRel ι y y') (h:aNilEq P t x y=true) : aNilEq P t x' y'=true:=by
 unfold aNilEq at h ⊢
 split at h
 all_goals first | (cases h; done) | skip
 all_goals (rename_i hu; cases hx <;> cases hy <;> simp [hu])
theorem run_nilEq1 {P:Program} {t:TypeId} {x y:Value} (h:aNilEq P t x y=true) (n:Nat) (w:World) : (Op.equalIn (n+1) t x y).run P w=.ok false w:=by
 unfold aNilEq at h
 split at h
 all_goals first | (cases h; done) | skip
 all_goals
  rename_i hu
  unfold Op.equalIn
  rw [Sem.run_bind,run_underlying' hu]
  rfl
theorem run_nilEq {P:Program} {t:TypeId} {ox oy:Operand} {x y:Value} (h:aNilEq P t x y=true) (w:World) :
    (do eqGuard .eql t ox oy x y; binOp .eql t x y:Sem Value).run P w=.ok (.bool false) w∧(do eqGuard .neq t ox oy x y; binOp .neq t x y:Sem Value).run P w=.ok (.bool true) w:=by
  have he:(Op.equal t x y).run P w=.ok false w:=run_nilEq1 h 9999 w
  have hg:∀ op,(eqGuard op t ox oy x y).run P w=.ok () w:=by
    intro op
    unfold aNilEq at h
    split at h
    all_goals first | (cases h; done) | skip
    all_goals (unfold eqGuard; split <;> rfl)
  constructor
  · rw [Sem.run_bind,hg]
    show (binOp .eql t x y).run P w=_
    have:binOp .eql t x y=(do pure (.bool (← Op.equal t x y)) : Sem Value):=by
      unfold aNilEq at h
      split at h
      all_goals first | (cases h; done) | rfl
    rw [this,Sem.run_bind,he]
    rfl
  · rw [Sem.run_bind,hg]
    show (binOp .neq t x y).run P w=_
    have:binOp .neq t x y=(do pure (.bool (!(← Op.equal t x y))) : Sem Value):=by
      unfold aNilEq at h
      split at h
      all_goals first | (cases h; done) | rfl
    rw [this,Sem.run_bind,he]
    rfl
def aMethod (P:Program) (t:TypeId) (v:Value) (name:String) : Option FuncId :=
 match P.info? t with
 | some i =>
  match i.methods.find? (·.name == name) with
  | some m =>
   match m.path.isEmpty,m.func,P.underlying t with
   | true,some (f,true),some (.pointer _)=>some f
   | true,some (f,false),some (.pointer _)=>none
   | true,some (f,false),some _=>some f
   | _,_,_=>none
  | none=>none
 | none=>none
theorem run_typeInfo' {P:Program} {t:TypeId} {i:TypeInfo} (h:P.info? t=some i) (w:World) : (Go.typeInfo t).run P w=.ok i w:=by
 unfold Go.typeInfo
 show (match P.info? t with | some i=>(Pure.pure i:Sem TypeInfo) | none=>Go.stuck "no such type").run P w=_
 rw [h]
 rfl
theorem run_method {P:Program} {t:TypeId} {v:Value} {name:String} {f:FuncId} (h:aMethod P t v name=some f) (n:Nat) (w:World) : (Go.method (n+1) t v name).run P w=.ok (f,v) w:=by
  unfold aMethod at h
  split at h
  · rename_i i hi
    split at h
    · rename_i m hm
      unfold Go.method
      rw [Sem.run_bind,run_typeInfo' hi]
      dsimp only [Result.andThen]
      rw [hm]
      dsimp only
      have hp:m.path.isEmpty=true→m.path.toList=[]:=by
        intro e
        rw [Array.isEmpty_iff] at e
        rw [e]
      split at h
      · rename_i g e hpe hfn hu
        cases h
        rw [hp hpe,hfn]
        show (do let r ← receiverAt t (.val v) true _; pure (f,r) : Sem _).run P w=_
        unfold receiverAt
        rw [Sem.run_bind,Sem.run_bind,run_underlying' hu]
        rfl
      · cases h
      · rename_i g d hne hpe hfn hu
        cases h
        rw [hp hpe,hfn]
        show (do let r ← receiverAt t (.val v) false _; pure (f,r) : Sem _).run P w=_
        unfold receiverAt
        rw [Sem.run_bind,Sem.run_bind,run_underlying' hu]
        dsimp only [Result.andThen]
        cases d with
        | pointer e=>exact (hne e rfl).elim
        | _=>rfl
      · cases h
    · cases h
  · cases h
def allOk (xs:List Operand) : Bool:=xs.all opdOk
def flatOp:Op→Bool
 | .binOp _ _ _ _ _ | .unOp _ _ _ | .convert _ _ _=>true
 | .call { callee:=.builtin .min,.. } | .call { callee:=.builtin .max,.. }=>true
 | _=>false
def aFlat (P:Program) (a:Act) (o:Oper) (s:St) : Option (Next×St) :=
 if flatOp o.op && o.op.operands.toList.all (fun x=>opdOk x && flatN 5 (a.eval x)) then
  match qrun P (execOp a.eval o) with
  | some (.value v)=>if flatN 5 v then some (.value v,s) else none
  | _=>none
 else none
def sBin (op:BinOp) (x y:Value) (s:St) : Option (Next×St):=(Sig.bin op x y).map fun r=>(.value r,s)
def sUna (op:UnOp) (x:Value) (s:St) : Option (Next×St):=(Sig.una op x).map fun r=>(.value r,s)
theorem sym_eq {ι:Ren} {x x':Value} (h:VRel ι x x') (hs:symV x=true) : x'=cvV Sig.val x:=by
 cases h with
 | sym n m _ hh=>exact hh.symm
 | _=>first | rfl | cases hs | (simp [symV] at hs)
theorem sym_rel {ι:Ren} {r:Value} (hs:symV r=true) : VRel ι r (cvV Sig.val r):=by
 cases r with
 | bool b=>exact .bool b
 | int k n=>exact .int k n
 | float k n=>exact .float k n
 | string b=>exact .string b
 | complex k n m =>
  cases k with
  | f64=>exact .sym n m _ rfl
  | f32=>cases hs
 | pointer a =>
  cases a with
  | none=>exact .ptr0
  | some a=>cases hs
 | slice a n c =>
  cases a with
  | some a=>cases hs
  | none =>
   cases n with
   | succ n=>simp [symV] at hs
   | zero =>
    cases c with
    | zero=>exact .slice0
    | succ c=>simp [symV] at hs
 | map a =>
  cases a with
  | none=>exact .map0
  | some a=>cases hs
 | nilFunc=>exact .nilFunc
 | nilIface=>exact .nilIface
 | _=>cases hs
def sCnv (P:Program) (t u:TypeId) (x:Value) (s:St) : Option (Next×St) :=
 match P.underlying t,P.underlying u with
 | some (.int _),some (.int k)=>(Sig.cnv k x).map fun r=>(.value r,s)
 | _,_=>none
def evs (a:Act) (xs:Array Operand) : Array Value:=xs.map a.eval
def evp (a:Act) (ps:Array (Nat×Operand)) : Array (Nat×Value):=ps.map fun (i,x)=>(i,a.eval x)
def aCall (P:Program) (a:Act) (c:Call) (ty:TypeId) (s:St) : Option (Next×St) :=
 if allOk c.operands.toList then
  match c.callee with
  | .value f =>
   match a.eval f with
   | .func (.func g) first captured=>if fnOk P g then some (.enter g ((first++evs a c.args)++captured),s) else none
   | .func (.yield l) first captured=>if first.isEmpty && captured.isEmpty then arun P (Instr.yield l (evs a c.args)) s else none
   | _=>none
  | .invoke r name =>
   match a.eval r with
   | .iface t v=>(match aMethod P t v name with | some f=>if fnOk P f then some (.enter f (#[v]++evs a c.args),s) else none | none=>none)
   | _=>none
  | .builtin b =>
   match b,c.args.toList,c.argTypes.toList with
   | .len,[x],[t]=>sv (arun P (Builtin.len_ #[t] ty #[a.eval x]) s)
   | .cap,[x],[t]=>if capOk (a.eval x) then sv (arun P (Builtin.cap_ #[t] ty #[a.eval x]) s) else none
   | .append,[x,y],[t,u]=>if inRoom P u (a.eval x) (a.eval y) then sv (arun P (Builtin.append_ #[t,u] ty #[a.eval x,a.eval y]) s) else sv (aAppend P s t u (a.eval x) (a.eval y))
   | .copy,[x,y],[t,u]=>sv (arun P (Builtin.copy_ #[t,u] ty #[a.eval x,a.eval y]) s)
   | .delete,[x,y],[t,u]=>(aDelete P s t (a.eval x) (a.eval y)).map fun s1=>(.value (.tuple #[]),s1)
   | _,_,_=>none
 else none
def aexec (P:Program) (a:Act) (o:Oper) (s:St) : Option (Next×St) :=
 match o.op with
 | .move x | .assign x=>if opdOk x then some (.value (a.eval x),s) else none
 | .pick c x y =>
  if allOk [c,x,y] then
   match a.eval c with
   | .bool b=>some (.value (if b then a.eval x else a.eval y),s)
   | _=>none
  else none
 | .alloc t=>if zOk P t then sv (arun P (Instr.alloc t true (.tuple #[])) s) else none
 | .box t x=>if opdOk x then sv (arun P (Instr.box t (a.eval x)) s) else none
 | .build t ps=>if zOk P t && allOk (ps.toList.map (·.2)) then sv (arun P (Instr.build t (evp a ps)) s) else none
 | .buildSlice t n ps=>if zOk P (elemT P t) && zPos P (elemT P t) && allOk (ps.toList.map (·.2)) then sv (arun P (Instr.buildSlice t n (evp a ps)) s) else none
 | .load t x=>if opdOk x then sv (arun P (Instr.loadAt t (a.eval x)) s) else none
 | .store t x y=>if allOk [x,y] then su (arun P (Instr.storeAt t (a.eval x) (a.eval y)) s) else none
 | .nilCheck x =>
  if opdOk x then
   match a.eval x with
   | .pointer (some b)=>some (.value (a.eval x),s)
   | .func (.func _) _ _=>some (.value (a.eval x),s)
   | .iface _ _=>some (.value (a.eval x),s)
   | _=>none
  else none
 | .binOp op t x y _ =>
  match aFlat P a o s with
  | some r=>some r
  | none=>if allOk [x,y] then (if aNilEq P t (a.eval x) (a.eval y) then (match op with | .eql=>some (.value (.bool false),s) | .neq=>some (.value (.bool true),s) | _=>none) else sBin op (a.eval x) (a.eval y) s) else none
 | .unOp op _ x =>
  match aFlat P a o s with
  | some r=>some r
  | none=>if opdOk x then sUna op (a.eval x) s else none
 | .convert t u x =>
  match aFlat P a o s with
  | some r=>some r
  | none=>if opdOk x then sCnv P t u (a.eval x) s else none
 | .makeInterface t x=>if opdOk x then sv (arun P (Instr.makeInterface t (a.eval x)) s) else none
 | .makeFunc (.func f) first captured=>if allOk first.toList && allOk captured.toList then some (.value (.func (.func f) (evs a first) (evs a captured)),s) else none
 | .makeMap t none=>sv (arun P (Instr.makeMap t none) s)
 | .makeMap t (some x)=>if opdOk x then sv (arun P (Instr.makeMap t (some (a.eval x))) s) else none
 | .makeSlice t l c=>if zOk P (elemT P t) && zPos P (elemT P t) && allOk [l,c] then sv (arun P (Instr.makeSlice t (a.eval l) (a.eval c)) s) else none
 | .slice t x lo hi mx =>
  if slOk P t && opdOk x && allOk lo.toList && allOk hi.toList && allOk mx.toList && mxOk (a.eval x) (mx.map a.eval) then
   match arun P (Instr.sliceAt t (a.eval x) (lo.map a.eval) (hi.map a.eval) (mx.map a.eval)) s with
   | some (v,s1)=>if resOk v then some (.value v,s1) else none
   | none=>none
  else none
 | .fieldAddr t x f=>if opdOk x && fldOk P t f then sv (arun P (Instr.fieldAt t (a.eval x) f) s) else none
 | .field t x f=>if opdOk x then sv (arun P (Instr.field t (a.eval x) f) s) else none
 | .indexAddr t x i=>if allOk [x,i] then sv (arun P (Instr.indexAt t (a.eval x) (a.eval i)) s) else none
 | .index t x i=>if allOk [x,i] then sv (arun P (Instr.index t (a.eval x) (a.eval i)) s) else none
 | .lookup t m k ok=>if allOk [m,k] then sv (aLookup P s t (a.eval m) (a.eval k) ok) else none
 | .mapUpdate t m k v=>if allOk [m,k,v] then (aUpdate P s t (a.eval m) (a.eval k) (a.eval v)).map fun s1=>(.skip,s1) else none
 | .insert t m k v=>if allOk [m,k,v] then (aUpdate P s t (a.eval m) (a.eval k) (a.eval v)).map fun s1=>(.skip,s1) else none
 | .mapEntry t m k=>if allOk [m,k] then sv (aEntry P s t (a.eval m) (a.eval k)) else none
 | .entryStore _ m st v=>if allOk [m,st,v] then (aStamp s (a.eval m) (a.eval st) (a.eval v)).map fun s1=>(.skip,s1) else none
 | .range t x=>if opdOk x then sv (arun P (Instr.range t (a.eval x)) s) else none
 | .next x str=>if opdOk x then sv (arun P (Instr.next (a.eval x) str o.type) s) else none
 | .entry x=>if opdOk x then sv (arun P (Instr.entry (a.eval x)) s) else none
 | .typeAssert x t u ok=>if opdOk x && (!ok || zOk P u) then sv (arun P (Instr.typeAssert (a.eval x) t u ok) s) else none
 | .extract x i=>if opdOk x then sv (arun P (Instr.extract (a.eval x) i) s) else none
 | .call c=>(match aFlat P a o s with | some r=>some r | none=>aCall P a c o.type s)
 | _=>none
end Go.Ev
