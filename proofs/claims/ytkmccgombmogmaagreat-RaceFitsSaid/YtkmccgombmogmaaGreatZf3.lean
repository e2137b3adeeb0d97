/- Part of a proof: see the last text. -/
import Derived.Test.YtkmccgombmogmaaGreatZf2
import Derived.Deep.AppendSrc
import Derived.Deep.Upon
import Derived.Orders
set_option linter.unusedSectionVars false
set_option linter.unusedSimpArgs false
set_option linter.unusedVariables false
namespace Go.Ev
open Go.RowKit
variable[bB]
theorem jO{e:TypeId}{b:Nat} : ∀ (vs:List Value) (o:Nat) (w:World) (cur:Array Value),w.heap[b]? = some (.cells cur e (0,0))->
  ∃ cur',(w.setCells b o vs).heap[b]? = some (.cells cur' e (0,0))/\cur'.size=cur.size/\(∀ k,(k<o\/o+vs.length<=k)->cur'[k]? = cur[k]?)/\(∀ j v,vs[j]? = some v->o+j<cur.size->cur'[o+j]? = some v):=by
 intro vs
 induction vs with
 | nil=>intro o w cur h;exact⟨cur,h,rfl,λk _=>rfl,λj v h=>by simp at h⟩
 | cons x r ih =>
  intro o w cur h;obtain⟨cur',h1,h2,h3,h4⟩:=ih (o+1) (w.setCell ⟨b,o,none⟩ x) (cur.setIfInBounds o x) (heap_setCell_same h);refine⟨cur',h1,by simpa using h2,?_,?_⟩
  ·intro k hk
   rw[h3 k (by simp at hk;omega),Array.getElem?_setIfInBounds,if_neg (by simp at hk;omega)]
  ·intro j v hj hlt
   match j with
   | 0 =>
    simp at hj;subst hj;rw[Nat.add_zero,h3 o (by omega),Array.getElem?_setIfInBounds,if_pos rfl,if_pos (by simpa using hlt)]
   | j+1 =>
    have:=h4 j v (by simpa using hj) (by simp;omega);rw[show o+(j+1)=o+1+j by omega];exact this
theorem setCells_size{b:Nat} : ∀ (vs:List Value) (o:Nat) (w:World),(w.setCells b o vs).heap.size=w.heap.size:=by
 intro vs
 induction vs with
 | nil=>intro o w;rfl
 | cons x r ih=>intro o w;rw[show(w.setCells b o (x::r))=((w.setCell ⟨b,o,none⟩ x).setCells b (o+1) r) from rfl,ih];simp[World.setCell]
theorem eX{b:Nat} : ∀ (vs:List Value) (o:Nat) (w:World) (j:Nat),j≠b->(w.setCells b o vs).heap[j]? = w.heap[j]?:=by
 intro vs
 induction vs with
 | nil=>intro o w j hj;rfl
 | cons x r ih =>
  intro o w j hj;rw[show(w.setCells b o (x::r))=((w.setCell ⟨b,o,none⟩ x).setCells b (o+1) r) from rfl,ih _ _ _ hj];exact Below.heap_setCell _ _ _ _ hj
theorem du{base:Nat->Prop}{b:Nat}(hb:¬ base b):∀ (vs:List Value) (o:Nat) (w:World),Out base w (w.setCells b o vs):=by
 intro vs
 induction vs with
 | nil=>intro o w;exact Out.refl _ _
 | cons x r ih=>intro o w;exact((Out.refl base w).setCell (p:=⟨b,o,none⟩) hb x).trans (ih (o+1) _)
def eY:Value->Option Nat
 | .slice _ n _=>some n
 | .string b=>some b.size
 | _=>none
def b7(s:St)(sz:Nat):Value->Option (Array Value×List Touch)
 | .slice none 0 0=>some (#[],[])
 | .slice (some ⟨id,off,none⟩) n _ =>
  match s.look id with
  | some (.cells a _ _)=>if off+n*sz<=a.size/\(a.extract off (off+n*sz)).toList.all oneCell=true then some (a.extract off (off+n*sz),[⟨id,none,false⟩]) else none
  | _=>none
 | .string b=>if sz=1 then some ((byteCells b).toArray,[]) else none
 | _=>none
theorem one_one{v:Value}(h:oneCell v=true):v.oneCell'=true:=by cases v<;>first | rfl | cases h
theorem f7{P:Program}{base:Nat->Prop}{ι:am}{s:St}{w:World}{sz:Nat}{x x':Value}{c:Array Value}{l:List Touch}{n:Nat}(hr:dL P base ι s.look w)(hx:aq ι x x')(h:b7 s sz x=some (c,l))(hn:eY x=some n) :
  ∃ c':Array Value,bZ ι c c'/\c.size=n*sz/\c.toList.all oneCell=true/\(∀ w':World,w'.heap=w.heap->(Builtin.firstCells sz n x').run P w'=.ok c' w')/\(∀ w':World,(Builtin.lenOf x').run P w'=.ok n w'):=by
 cases hx with
 | dF =>
  simp only[b7,Option.some.injEq,Prod.mk.injEq]at h;simp only[eY,Option.some.injEq]at hn;obtain⟨rfl,rfl⟩:=h;subst hn;exact⟨#[],bZ.empty ι,by simp,by simp,λw' _=>rfl,λw'=>rfl⟩
 | string b =>
  simp only[b7]at h;simp only[eY,Option.some.injEq]at hn
  split at h
  ·rename_i hsz
   cases h;subst hn hsz;refine⟨(byteCells b).toArray,bZ.of_flat (λi v hv=>?_),by simp[byteCells_length],?_,λw' _=>firstCells_string b w',λw'=>rfl⟩
   ·have:=List.mem_of_getElem? (by simpa using hv:(byteCells b)[i]? = some v)
    obtain⟨q,_,rfl⟩:=List.mem_map.1 this;exact .int _ _
   ·rw[List.all_eq_true]
    intro v hv;obtain⟨q,_,rfl⟩:=List.mem_map.1 (by simpa using hv:v ∈ byteCells b);rfl
  ·cases h
 | slice id off b m cc cc' hb h0 h1 h2 h3 =>
  simp only[eY,Option.some.injEq]at hn;subst hn;simp only[b7]at h;cases hl:s.look id with
  | none=>simp[hl]at h
  | some o =>
   cases o with
   | cells a e f =>
    simp only[hl]at h
    split at h
    ·rename_i hc
     cases h;obtain⟨b',o',i1,i2,i3,i4⟩:=hr.there id _ hl (hr.real hl hb);rw[hb]at i1;cases i1;obtain⟨hf,a',rfl,j1,j2,j3,j4⟩:=i3;have hsz:(a.extract off (off+m*sz)).size=m*sz:=by simp;omega
     have hsz':(a'.extract off (off+m*sz)).size=m*sz:=by simp;omega
     refine⟨a'.extract off (off+m*sz),⟨by rw[hsz,hsz'],λi v v' g1 g2=>?_⟩,hsz,hc.2,λw' hw'=>?_,λw'=>rfl⟩
     ·rw[Array.getElem?_extract]at g1 g2
      split at g1
      ·split at g2
       ·exact j3 _ v v' g1 g2
       ·cases g2
      ·cases g1
     ·have:=run_firstCells_some (P:=P) w' sz m ⟨b,off,none⟩ m cc' (a'.extract off (off+m*sz)).toList (by simp;omega) (λj u hu=>by
       rw[Addr.fY];have hu':(a'.extract off (off+m*sz))[j]? = some u:=by rw[← Array.getElem?_toList];exact hu
       rw[Array.getElem?_extract]at hu'
       split at hu'
       ·simp only[World.cell?,hw',i2]
        exact hu'
       ·cases hu')
      rw[Array.toArray_toList]at this;exact this
    ·cases h
   | _=>simp[hl]at h
 | dK id off b hb h0 =>
  simp only[eY,Option.some.injEq]at hn;subst hn;simp only[b7]at h;cases hl:s.look id with
  | none=>simp[hl]at h
  | some o =>
   cases o with
   | cells a e f =>
    simp only[hl]at h
    split at h
    ·rename_i hc
     cases h;refine⟨#[],⟨by simp;omega,λi v v' g1 g2=>by simp at g2⟩,by simp;omega,hc.2,λw' hw'=>?_,λw'=>rfl⟩;have:=run_firstCells_some (P:=P) w' sz 0 ⟨b,off,none⟩ 0 0 [] (by simp) (λj u hu=>by simp at hu);simpa using this
    ·cases h
   | _=>simp[hl]at h
 | _=>cases h
def de(P:Program)(s:St)(t u:TypeId)(dst src:Value):Option (Value×St) :=
 match P.underlying t,eY src,dst with
 | some (.slice e),some m,.slice ba n c =>
  match P.info? e with
  | some i =>
   match i.zero,(match P.underlying u with | some (.slice _) | some .string=>true | _=>false) with
   | some z,true =>
    if m=0 then some (dst,s)
    else if (n+m)*i.bytes<=140737488355328/\n+m<=1000000000/\4*s.next+1<lim/\0<i.size/\z.cells.size=i.size/\(n=0\/ba.isSome=true) then
     match b7 s i.size src,b7 s i.size dst with
     | some (news,l1),some (olds,l2) =>
      let id:=4*s.next+1
      let v:Value:=.slice (some ⟨id,0,none⟩) (n+m) (n+m)
      match ba with
      | none=>some (v,{ s.put id (some (.cells (olds++news) e (0,0))) with next:=s.next+1,log:=⟨id,none,true⟩::(l1++(l2++s.log)) })
      | some a =>
       if iV a.block then
        match a.off,s.look a.block with
        | 0,some (.cells _ e0 _)=>if e0=e/\a.block<lim then some (v,{ (s.put a.block none).put id (some (.cells (olds++news) e (0,0))) with next:=s.next+1,log:=⟨id,none,true⟩::⟨a.block,none,true⟩::(l1++(l2++s.log)) }) else none
        | _,_=>none
       else if c<n+m then some (v,{ s.put id (some (.cells (olds++news) e (0,0))) with next:=s.next+1,log:=⟨id,none,true⟩::(l1++(l2++s.log)) })
       else none
     | _,_=>none
    else none
   | _,_=>none
  | none=>none
 | _,_,_=>none
theorem vh(n:Nat):iV (4*n+1)=true:=by simp[iV,Nat.add_mod]
theorem dL.grown{P:Program}{base:Nat->Prop}{ι:am}{H:Nat->Option Obj}{s:St}{w:World}{id cap:Nat}{c c':Array Value}{e:TypeId}{ti:TypeInfo}(hs:s.look=H)(hr:dL P base ι H w)(hlim:id<lim)(hn:ι id=none)(hn2:ι (id+1)=none)(hg:iV id=true)
  (hc:c.size<=c'.size) (hcr:∀ (i:Nat) (v v':Value),c[i]? = some v->c'[i]? = some v'->aq ι v v') (hi:P.info? e=some ti) (hsz:c'.size=cap*ti.size) :
  dL P base ((ι.upd (id+1) cap).upd id w.heap.size) (s.put id (some (.cells c e (0,0)))).look { w with heap:=w.heap.push (.cells c' e (0,0)) }:=by
 have h1:ju ι (ι.upd (id+1) cap):=am.ie hn2;have hr1:dL P base (ι.upd (id+1) cap) s.look w:=by
  rw[hs];have Eo:∀ x o b,H x=some o->(ι.upd (id+1) cap) x=some b->ι x=some b:=by
   intro x o b hx g;unfold am.upd at g
   split at g
   ·rename_i ex
    exfalso;subst ex;cases hgo:qy o with
    | none =>
     obtain⟨b2,_,k,_⟩:=hr.there _ o hx hgo;rw[hn2]at k;cases k
    | some gg =>
     obtain⟨e3,_⟩:=hr.gh _ o gg hx hgo;unfold iV at hg;simp at hg;omega
   ·exact g
  refine⟨?_,?_,hr.sz,hr.Lb (λ_ _ _ h _=>h) h1 (by unfold am.upd;rw[if_neg (λe3=>by unfold iV at hg;simp at hg;omega)]) (Nat.le_refl _) (λ_ _ _=>rfl) (λx ox bb hx hbb=>.inl ⟨x,ox,hx,Eo x ox bb hx hbb⟩)⟩
  ·intro x y ox oy b hx hy g1 g2
   exact hr.inj x y ox oy b hx hy (Eo x ox b hx g1) (Eo y oy b hy g2)
  ·intro x ox hx hrl
   obtain⟨b,o',k1,k2,k3,k4⟩:=hr.there x ox hx hrl;exact⟨b,o',h1 _ _ k1,k2,k3.mono h1,k4⟩
 refine dL.new hr1 hlim (by unfold iV at hg;simp at hg;omega) ?_ ?_
 ·unfold am.upd
  rw[if_neg (by omega)];exact hn
 ·refine⟨rfl,c',rfl,hc,(λg=>by rw[hg]at g;cases g),λi v v' a b=>(hcr i v v' a b).mono h1,λ_=>⟨cap,ti,by simp[am.upd],hi,hsz⟩⟩
theorem dL.drop{P:Program}{base:Nat->Prop}{ι:am}{s:St}{w:World}{id:Nat}(hr:dL P base ι s.look w)(hlim:id<lim):dL P base ι (s.put id none).look w:=by
 have live:∀ x o,(s.put id none).look x=some o->x≠id/\s.look x=some o:=by
  intro x o hx
  by_cases e:x=id
  ·subst e;rw[St.cx _ _ _ hlim]at hx;cases hx
  ·rw[St.bD _ _ _ _ e]at hx;exact⟨e,hx⟩
 refine⟨λx y ox oy b hx hy g1 g2=>hr.inj x y ox oy b (live x ox hx).2 (live y oy hy).2 g1 g2,λx ox hx=>hr.there x ox (live x ox hx).2,hr.sz,hr.Lb (λx ox g hx _=>(live x ox hx).2) (ju.refl _) rfl (Nat.le_refl _) (λ_ _ _=>rfl) (λx ox bb hx hbb=>.inl ⟨x,ox,(live x ox hx).2,hbb⟩)⟩
def Mc(P:Program)(base:Nat->Prop)(ι:am)(s s1:St)(w:World)(v:Value)(m':Sem Value):Prop :=
 ∃ (κ:am) (v':Value) (w1:World),m'.run P w=.ok v' w1/\dL P base κ s1.look w1/\(∀ id,(id<4*s.next\/4*s1.next<=id)->κ id=ι id)/\aq κ v v'/\Out base w w1
theorem bZ.append{ι:am}{a a' b b':Array Value}(h:bZ ι a a')(k:bZ ι b b'):bZ ι (a++b) (a'++b'):=by
 refine⟨by simp[h.1,k.1],λi e e' h1 h2=>?_⟩;rw[Array.getElem?_append]at h1 h2;rw[h.1]at h1
 split at h1
 ·rename_i c
  rw[if_pos c]at h2;exact h.2 i e e' h1 h2
 ·rename_i c
  rw[if_neg c]at h2;exact k.2 _ e e' h1 h2
theorem qH{ι:am}{c c':Array Value}(h:bZ ι c c')(ha:c.toList.all oneCell=true):∀ u ∈ c'.toList,u.oneCell'=true:=by
 intro u hu;rw[List.all_eq_true]at ha;obtain⟨i,hi⟩:=List.getElem?_of_mem hu;have hi':c'[i]? = some u:=by rw[← Array.getElem?_toList];exact hi
 rcases h.get i with ⟨e1,e2⟩ | ⟨x,x',e1,e2,hx⟩
 ·rw[hi']at e2;cases e2
 ·rw[hi']at e2
  cases e2;exact one_one (hx.one (ha x (by rw[Array.mem_toList_iff];exact Array.mem_of_getElem? e1)))
theorem kE{P:Program}{base:Nat->Prop}{ι:am}{s:St}{w:World}{t u ty e:TypeId}{i:TypeInfo}{z:Value}{ba':Option Addr}{n c' m:Nat}{src':Value}{olds olds' news news':Array Value}{lg:List Touch}
  (hr:dL P base ι s.look w) (ht:P.underlying t=some (.slice e)) (hu:(∃ e',P.underlying u=some (.slice e'))\/P.underlying u=some .string) (hi:P.info? e=some i) (hz:i.zero=some z) (hzs:z.cells.size=i.size)
  (hbytes:(n+m)*i.bytes<=140737488355328) (hnm:n+m<=1000000000) (hm:0<m) (hlim:4*s.next+1<lim) (hg:c'<n+m)
  (ho:bZ ι olds olds') (ho2:olds.size=n*i.size) (ho3:∀ w':World,w'.heap=w.heap->(Builtin.firstCells i.size n (.slice ba' n c')).run P w'=.ok olds' w')
  (hn:bZ ι news news') (hn2:news.size=m*i.size) (P6:news.toList.all oneCell=true) (NU:∀ w':World,w'.heap=w.heap->(Builtin.firstCells i.size m src').run P w'=.ok news' w') (P7:∀ w':World,(Builtin.lenOf src').run P w'=.ok m w')
  (hfr:∀ id,4*s.next<=id->id<4*(s.next+1)->ι id=none) :
  Mc P base ι s { s.put (4*s.next+1) (some (.cells (olds++news) e (0,0))) with next:=s.next+1,log:=lg } w (.slice (some ⟨4*s.next+1,0,none⟩) (n+m) (n+m)) (Builtin.append_ #[t,u] ty #[.slice ba' n c',src']):=by
 have hsrc:Src P i.size u src' m news'.toList w:=by
  refine⟨hu,P7,?_,?_,by rw[Array.length_toList,← hn.1,hn2],qH hn P6⟩
  ·rw[Array.toArray_toList];exact NU w rfl
  ·rw[Array.toArray_toList];exact NU w.drew rfl
 have hrun:=run_append_grow_src (P:=P) w t u ty e i z ht hi hz ba' n c' olds'.toList (by rw[Array.toArray_toList];exact ho3 w.drew rfl) src' m news'.toList hsrc hg (by omega) (growslice_fits hg hbytes);have hcap:=grownCap_ge w (n+m) c' e;generalize grownCap w (n+m) c' e=cap at hrun hcap;have e1:(olds'.toList++news'.toList).toArray=olds'++news':=by
  apply Array.ext';simp
 rw[e1]at hrun;have hrel:=ho.append hn;have hsz:(olds'++news').size=(n+m)*i.size:=by
  rw[← hrel.1,Array.size_append,ho2,hn2,Nat.add_mul]
 have hzc:(Builtin.zeroCells z.cells (cap-(n+m))).size=(cap-(n+m))*i.size:=by
  simp[Builtin.zeroCells,hzs]
 have hrep:=dL.grown (P:=P) (H:=s.look) (s:=s) (id:=4*s.next+1) (cap:=cap) (c:=olds++news) (c':=olds'++news'++Builtin.zeroCells z.cells (cap-(n+m))) (e:=e) (ti:=i) (w:=w.drew) rfl ⟨hr.inj,hr.there,hr.sz,hr.Lb (λ_ _ _ h _=>h) (ju.refl _) rfl (Nat.le_refl _) (λ_ _ _=>rfl) (λx ox bb hx hbb=>.inl ⟨x,ox,hx,hbb⟩)⟩ hlim (hfr _ (by omega) (by omega)) (hfr _ (by omega) (by omega)) (vh _)
  (by rw[hrel.1,Array.size_append (xs:=olds'++news')];omega)
  (λk v v' g1 g2=>by
   have hk:k<(olds'++news').size:=by
    rw[← hrel.1];rcases Nat.lt_or_ge k (olds++news).size with g | g
    ·exact g
    ·rw[Array.getElem?_eq_none g]at g1;cases g1
   rw[Array.getElem?_append_left hk]at g2
   exact hrel.2 k v v' g1 g2)
  hi (by rw[Array.size_append (xs:=olds'++news'),hsz,hzc,← Nat.add_mul];congr 1;omega)
 refine⟨_,_,_,hrun,hrep,?_,?_,?_⟩
 ·intro id hid
  have P8:id<4*s.next\/4*(s.next+1)<=id:=hid
  unfold am.upd;rw[if_neg (by omega),if_neg (by omega)]
 ·refine .slice _ 0 _ _ _ _ (by simp[am.upd]) (λg=>by rw[vh]at g;cases g) (λ_=>⟨hcap,λ_=>?_⟩) (by omega) (Nat.le_refl _)
  simp[am.upd]
 ·exact((Out.refl base w).drew).alloc hr.sz _
theorem zK{P:Program}{base:Nat->Prop}{ι:am}{s:St}{w:World}{t u ty e:TypeId}{i:TypeInfo}{id b n c' m:Nat}{src':Value}{a0:Array Value}{f0:Nat×Nat}{olds olds' news news':Array Value}{lg:List Touch}
  (hr:dL P base ι s.look w) (hl:s.look id=some (.cells a0 e f0)) (hb:ι id=some b) (P9:iV id=true) (hcap:ι (id+1)=some c') (P_:id<lim)
  (ht:P.underlying t=some (.slice e)) (hu:(∃ e',P.underlying u=some (.slice e'))\/P.underlying u=some .string) (hi:P.info? e=some i)
  (hm:0<m) (hlim:4*s.next+1<lim) (hg:n+m<=c')
  (ho:bZ ι olds olds') (ho2:olds.size=n*i.size) (ho3:∀ w':World,w'.heap=w.heap->(Builtin.firstCells i.size n (.slice (some ⟨b,0,none⟩) n c')).run P w'=.ok olds' w') (hoe:olds=a0.extract 0 (0+n*i.size))
  (hn:bZ ι news news') (hn2:news.size=m*i.size) (P6:news.toList.all oneCell=true) (NU:∀ w':World,w'.heap=w.heap->(Builtin.firstCells i.size m src').run P w'=.ok news' w') (P7:∀ w':World,(Builtin.lenOf src').run P w'=.ok m w')
  (hfr:∀ id,4*s.next<=id->id<4*(s.next+1)->ι id=none) :
  Mc P base ι s { (s.put id none).put (4*s.next+1) (some (.cells (olds++news) e (0,0))) with next:=s.next+1,log:=lg } w (.slice (some ⟨4*s.next+1,0,none⟩) (n+m) (n+m)) (Builtin.append_ #[t,u] ty #[.slice (some ⟨b,0,none⟩) n c',src']):=by
 obtain⟨b',o',i1,i2,i3,i4⟩:=hr.there id _ hl (hr.real hl hb);rw[hb]at i1;cases i1;obtain⟨hf,cur,rfl,j1,j2,j3,j4⟩:=i3;obtain⟨cap,ti,k1,k2,k3⟩:=j4 P9;rw[hcap]at k1;cases k1;rw[hi]at k2;cases k2;have hsrc:Src P i.size u src' m news'.toList w:=by
  refine⟨hu,P7,?_,?_,by rw[Array.length_toList,← hn.1,hn2],qH hn P6⟩
  ·rw[Array.toArray_toList];exact NU w rfl
  ·rw[Array.toArray_toList];exact NU w.drew rfl
 have hnl:news'.toList.length=m*i.size:=by rw[Array.length_toList,← hn.1,hn2]
 have hfit:n*i.size+m*i.size<=cur.size:=by
  rw[k3,← Nat.add_mul];exact Nat.mul_le_mul_right _ hg
 have hrun:=run_append_room_src (P:=P) w t u ty e i ht hi b 0 n c' src' m news'.toList hsrc hg
  (λj hj=>by
   have hlt:0+n*i.size+j<cur.size:=by omega
   simp only[World.cell?,i2,Array.getElem?_eq_getElem hlt]
   rfl)
  (λj hj=>by simp[World.frozen?,i2])
 obtain⟨P',s1,s2,s3,s4⟩:=jO (b:=b) news'.toList (0+n*i.size) w cur i2;have NV:ι (4*s.next+1)=none:=hfr _ (by omega) (by omega);have NW:ι (4*s.next+1+1)=none:=hfr _ (by omega) (by omega);have hle1:ju ι (ι.upd (4*s.next+1+1) c'):=am.ie NW;have hle2:ju (ι.upd (4*s.next+1+1) c') ((ι.upd (4*s.next+1+1) c').upd (4*s.next+1) b):=am.ie (by unfold am.upd;rw[if_neg (by omega)];exact NV);have hle:=hle1.trans hle2;have hrel:=ho.append hn;have hne:id≠4*s.next+1:=by intro e;rw[e,NV]at hb;cases hb
 have lives:∀ x ox,x≠4*s.next+1->((s.put id none).put (4*s.next+1) (some (.cells (olds++news) e (0,0)))).look x=some ox->x≠id/\s.look x=some ox:=by
  intro x ox hx h;rw[St.bD _ _ _ _ hx]at h
  by_cases ex:x=id
  ·subst ex;rw[St.cx _ _ _ P_]at h;cases h
  ·rw[St.bD _ _ _ _ ex]at h;exact⟨ex,h⟩
 have back:∀ x ox bb,s.look x=some ox->((ι.upd (4*s.next+1+1) c').upd (4*s.next+1) b) x=some bb->ι x=some bb:=by
  intro x ox bb hx h;cases hgo:qy ox with
  | none =>
   obtain⟨b2,o2,g1,_⟩:=hr.there x ox hx hgo;have:=hle _ _ g1;rw[h]at this;cases this;exact g1
  | some gg =>
   obtain⟨e3,_⟩:=hr.gh _ ox gg hx hgo;subst e3;unfold am.upd at h;rw[if_neg (by omega),if_neg (by omega)]at h;exact h
 have hrep:dL P base ((ι.upd (4*s.next+1+1) c').upd (4*s.next+1) b) ((s.put id none).put (4*s.next+1) (some (.cells (olds++news) e (0,0)))).look (w.setCells b (0+n*i.size) news'.toList):=by
  refine⟨?_,?_,by rw[setCells_size];exact hr.sz,hr.Lb (λx ox g hx hg=>?_) hle (by unfold am.upd;rw[if_neg (by omega),if_neg (by omega)]) (by rw[setCells_size];exact Nat.le_refl _) (λj hj _=>eX _ _ _ _ (hj id _ b hl hb)) (λx ox bb hx hbb=>?_)⟩
  rotate_left 2
  ·by_cases ex:x=4*s.next+1
   ·subst ex
    rw[St.cx _ _ _ hlim]at hx;cases hx;cases hg
   ·exact(lives x ox ex hx).2
  ·by_cases ex:x=4*s.next+1
   ·subst ex
    simp only[am.upd,if_true,Option.some.injEq]at hbb;subst hbb;exact .inl ⟨id,_,hl,hb⟩
   ·exact .inl ⟨x,ox,(lives x ox ex hx).2,back x ox bb (lives x ox ex hx).2 hbb⟩
  ·intro x y ox oy bb hx hy g1 g2
   by_cases ex:x=4*s.next+1
   ·by_cases ey:y=4*s.next+1
    ·rw[ex,ey]
    ·exfalso
     obtain⟨y1,y2⟩:=lives y oy ey hy;have:=back y oy bb y2 g2;subst ex;simp only[am.upd,if_true,Option.some.injEq]at g1;subst g1;exact y1 (hr.inj y id oy _ b y2 hl this hb)
   ·obtain⟨x1,x2⟩:=lives x ox ex hx
    have hx3:=back x ox bb x2 g1
    by_cases ey:y=4*s.next+1
    ·exfalso
     subst ey;simp only[am.upd,if_true,Option.some.injEq]at g2;subst g2;exact x1 (hr.inj x id ox _ b x2 hl hx3 hb)
    ·obtain⟨y1,y2⟩:=lives y oy ey hy
     exact hr.inj x y ox oy bb x2 y2 hx3 (back y oy bb y2 g2)
  ·intro x ox hx hrl
   by_cases ex:x=4*s.next+1
   ·subst ex
    rw[St.cx _ _ _ hlim]at hx;cases hx;refine⟨b,_,by simp[am.upd],s1,⟨rfl,P',rfl,?_,(λg=>by rw[vh]at g;cases g),?_,λ_=>⟨c',i,by simp[am.upd],hi,by rw[s2];exact k3⟩⟩,i4⟩
    ·rw[s2,Array.size_append,ho2,hn2];exact hfit
    ·intro k v v' g1 g2
     by_cases hk:k<olds.size
     ·rw[Array.getElem?_append_left hk]at g1
      rw[s3 k (by omega)]at g2;rw[hoe,Array.getElem?_extract]at g1
      split at g1
      ·rw[Nat.zero_add]at g1
       exact(j3 k v v' g1 g2).mono hle
      ·cases g1
     ·rw[Array.getElem?_append_right (Nat.le_of_not_lt hk)]at g1
      have hkn:k-olds.size<news.size:=by
       rcases Nat.lt_or_ge (k-olds.size) news.size with g | g
       ·exact g
       ·rw[Array.getElem?_eq_none g]at g1;cases g1
      rcases hn.get (k-olds.size) with ⟨e1,e2⟩ | ⟨x,x',e1,e2,hx⟩
      ·rw[g1]at e1;cases e1
      ·rw[g1]at e1
       cases e1;have:=s4 (k-olds.size) x' (by rw[Array.getElem?_toList];exact e2) (by omega);rw[show 0+n*i.size+(k-olds.size)=k by omega,g2]at this;cases this;exact hx.mono hle
   ·obtain⟨x1,x2⟩:=lives x ox ex hx
    obtain⟨b2,o2,g1,g2,g3,g4⟩:=hr.there x ox x2 hrl;have hbb:b2≠b:=by
     intro eb;subst eb;exact x1 (hr.inj x id ox _ b2 x2 hl g1 hb)
    exact⟨b2,o2,hle _ _ g1,by rw[eX _ _ _ _ hbb];exact g2,g3.mono hle,g4⟩
 refine⟨_,_,_,hrun,hrep,?_,?_,du i4 _ _ _⟩
 ·intro x hx
  have hx':x<4*s.next\/4*(s.next+1)<=x:=hx
  unfold am.upd;rw[if_neg (by omega),if_neg (by omega)]
 ·refine .slice _ 0 _ _ _ _ (by simp[am.upd]) (λg=>by rw[vh]at g;cases g) (λ_=>⟨hg,λ_=>?_⟩) (by omega) (Nat.le_refl _)
  simp[am.upd]
theorem xB{P:Program}{ι:am}{x x':Value}{sz:Nat}{u:TypeId}{w:World}(hx:aq ι x x')(hl:eY x=some 0)(hu:(∃ e',P.underlying u=some (.slice e'))\/P.underlying u=some .string):Src P sz u x' 0 [] w:=by
 have key:(∀ w':World,(Builtin.lenOf x').run P w'=.ok 0 w')/\∀ w':World,(Builtin.firstCells sz 0 x').run P w'=.ok #[] w':=by
  cases hx with
  | dF=>exact⟨λ_=>rfl,λ_=>rfl⟩
  | slice id off b n c c' h h0 h1 h2 h3 =>
   simp only[eY,Option.some.injEq]at hl;subst hl;exact⟨λ_=>rfl,λw'=>by simpa using run_firstCells_some (P:=P) w' sz 0 ⟨b,off,none⟩ 0 c' [] (by simp) (λj u hu=>by simp at hu)⟩
  | dK id off b h h0=>exact⟨λ_=>rfl,λw'=>by simpa using run_firstCells_some (P:=P) w' sz 0 ⟨b,off,none⟩ 0 0 [] (by simp) (λj u hu=>by simp at hu)⟩
  | string s =>
   simp only[eY,Option.some.injEq]at hl;refine⟨λw'=>by rw[← hl];rfl,λw'=>?_⟩;simp[Builtin.firstCells]
  | _=>cases hl
 exact⟨hu,key.1,by simpa using key.2 w,by simpa using key.2 w.drew,by simp,λ_ h=>by cases h⟩
theorem tx{P:Program}{base:Nat->Prop}{ι:am}{s s1:St}{w:World}{t u ty:TypeId}{dst dst' src src' v:Value}(hr:dL P base ι s.look w)(hd:aq ι dst dst')(hx:aq ι src src')
  (ha:de P s t u dst src=some (v,s1)) (hfr:∀ id,4*s.next<=id->id<4*s1.next->ι id=none):Mc P base ι s s1 w v (Builtin.append_ #[t,u] ty #[dst',src']):=by
 unfold de at ha
 split at ha
 ·rename_i e m ba n c ht hm
  split at ha
  ·rename_i i hi
   split at ha
   ·rename_i z hz hu0
    have hu:(∃ e',P.underlying u=some (.slice e'))\/P.underlying u=some .string:=by
     split at hu0
     ·rename_i e' he;exact .inl ⟨e',he⟩
     ·rename_i he;exact .inr he
     ·cases hu0
    split at ha
    ·rename_i hm0
     subst hm0;cases ha;have hsrc:=xB (P:=P) (sz:=i.size) (w:=w) hx hm hu;have hdd:∃ ba' c',dst'=.slice ba' n c'/\n<=c':=by
      cases hd with
      | dF=>exact⟨none,0,rfl,Nat.le_refl _⟩
      | slice id off b _ _ c' h h0 h1 h2 h3 =>
       refine⟨_,c',rfl,?_⟩;cases hg:iV id with
       | false=>rw[← h0 hg];exact h3
       | true=>exact Nat.le_trans h3 (h1 hg).1
      | dK id off b h h0=>exact⟨_,0,rfl,Nat.le_refl _⟩
     obtain⟨ba',c',rfl,hle⟩:=hdd;exact⟨ι,_,w,run_append_nothing w t u ty e i ht hi ba' n c' hle src' hsrc,hr,λ_ _=>rfl,hd,Out.refl _ _⟩
    ·rename_i hm0
     split at ha
     ·rename_i hc
      obtain⟨hc1,hc2,hc3,hc4,PN,hc6⟩:=hc
      split at ha
      ·rename_i news l1 olds l2 hnw hol
       obtain⟨news',n1,n2,n3,n4,n5⟩:=f7 hr hx hnw hm;dsimp only at ha;cases ba with
       | none =>
        dsimp only at ha;cases ha;cases hd with
        | dF =>
         obtain⟨olds',o1,o2,o3,o4,o5⟩:=f7 hr (aq.dF (ι:=ι)) hol rfl;exact kE hr ht hu hi hz PN hc1 hc2 (by omega) hc3 (by omega) o1 o2 o4 n1 n2 n3 n4 n5 (λid h1 h2=>hfr id h1 h2)
       | some a =>
        dsimp only at ha
        split at ha
        ·rename_i hg
         split at ha
         ·rename_i a1 e0 f0 hoff hl
          split at ha
          ·rename_i he
           obtain⟨rfl,hal⟩:=he;cases ha;have hdv:=hd;cases hd with
           | slice id off b _ _ c' hb h0 h1 h2 h3 =>
            dsimp only at hoff hl hg hal;subst hoff;obtain⟨olds',o1,o2,o3,o4,o5⟩:=f7 hr hdv hol rfl
            by_cases hroom:n+m<=c'
            ·have hoe:olds=a1.extract 0 (0+n*i.size):=by
              simp only[b7,hl]at hol
              split at hol
              ·cases hol;rfl
              ·cases hol
             exact zK hr hl hb hg ((h1 hg).2 rfl) hal ht hu hi (by omega) hc3 hroom o1 o2 o4 hoe n1 n2 n3 n4 n5 (λid h1 h2=>hfr id h1 h2)
            ·obtain⟨κ,v',w1,r1,r2,r3,r4,r5⟩:=kE (s:=s.put id none) (lg:=⟨4*s.next+1,none,true⟩::⟨id,none,true⟩::(l1++(l2++s.log))) (ty:=ty) (dL.drop hr hal) ht hu hi hz PN hc1 hc2 (by omega) hc3 (by omega) o1 o2 o4 n1 n2 n3 n4 n5 (λid h1 h2=>hfr id h1 h2)
             exact⟨κ,v',w1,r1,r2,r3,r4,r5⟩
           | dK id off b hb h0=>rw[h0]at hg;cases hg
          ·cases ha
         ·cases ha
        ·rename_i hg
         split at ha
         ·rename_i hroom
          cases ha;have hdv:=hd;obtain⟨olds',o1,o2,o3,o4,o5⟩:=f7 hr hdv hol rfl;cases hd with
          | slice id off b _ _ c' hb h0 h1 h2 h3 =>
           have:c=c':=h0 (by simpa using hg);exact kE hr ht hu hi hz PN hc1 hc2 (by omega) hc3 (by omega) o1 o2 o4 n1 n2 n3 n4 n5 (λid h1 h2=>hfr id h1 h2)
          | dK id off b hb h0=>exact kE hr ht hu hi hz PN hc1 hc2 (by omega) hc3 (by omega) o1 o2 o4 n1 n2 n3 n4 n5 (λid h1 h2=>hfr id h1 h2)
         ·cases ha
      ·cases ha
     ·cases ha
   ·cases ha
  ·cases ha
 ·cases ha
def vi(P:Program)(u:TypeId)(d x:Value):Bool :=
 match d,eY x,P.underlying u with
 | .slice (some a) n c,some m,some (.slice _)=>!iV a.block&&decide (n+m<=c)
 | .slice (some a) n c,some m,some .string=>!iV a.block&&decide (n+m<=c)
 | _,_,_=>false
theorem zL{ι:am}{x x':Value}{m:Nat}(h:aq ι x x')(hm:eY x=some m):eY x'=some m:=by
 cases h<;>first | exact hm | cases hm
theorem vj{P:Program}{base:Nat->Prop}{ι:am}{d d' x x':Value}(t u ty:TypeId)(hd:aq ι d d')(hx:aq ι x x')(h:vi P u d x=true) :
  au P base VV ι (Builtin.append_ #[t,u] ty #[d,x]) (Builtin.append_ #[t,u] ty #[d',x']):=by
 have hh:∃ a n c m,d=.slice (some a) n c/\eY x=some m/\iV a.block=false/\n+m<=c/\((∃ e,P.underlying u=some (.slice e))\/P.underlying u=some .string):=by
  unfold vi at h
  split at h
  ·rename_i a n c m e hm hu
   simp only[Bool.and_eq_true,Bool.not_eq_true',decide_eq_true_eq]at h;exact⟨a,n,c,m,rfl,hm,h.1,h.2,.inl ⟨e,hu⟩⟩
  ·rename_i a n c m hm hu
   simp only[Bool.and_eq_true,Bool.not_eq_true',decide_eq_true_eq]at h;exact⟨a,n,c,m,rfl,hm,h.1,h.2,.inr hu⟩
  ·cases h
 obtain⟨a,n,c,m,rfl,hm,hg,hroom,hu⟩:=hh;have NY:∀ x,eY x=some m->Builtin.lenOf x=pure m:=by
  intro x hx;cases x<;>first | (cases hx;done) | (simp only[eY,Option.some.injEq]at hx;subst hx;rfl)
 have main:∀ (id off b:Nat),ι id=some b->aq ι (.slice (some ⟨id,off,none⟩) n c) (.slice (some ⟨b,off,none⟩) n c)->au P base VV ι (Builtin.append_ #[t,u] ty #[.slice (some ⟨id,off,none⟩) n c,x]) (Builtin.append_ #[t,u] ty #[.slice (some ⟨b,off,none⟩) n c,x']):=by
  intro id off b hb hself;unfold Builtin.append_;simp only[List.getElem?_toArray,List.getElem?_cons_zero,List.getElem?_cons_succ];refine au.bnd (aR t) (λκ a a' hle ha=>?_);obtain⟨rfl,h2⟩:=ha;cases a' with
  | slice elem =>
   dsimp only;refine au.bnd (di elem) (λκ2 sz sz' hle2 hs=>?_);subst hs;refine au.bnd (aR u) (λSv y y' NZ hy=>?_);obtain⟨rfl,hy⟩:=hy;refine au.bnd (R:=λ_ z z'=>z=false/\z'=false) (au.ret ?_) (λκ3 z z' hle3 hz=>?_)
   ·rcases hu with ⟨e,hu⟩ | hu
    ·rw[hu]at hy;cases hy;exact⟨rfl,rfl⟩
    ·rw[hu]at hy;cases hy;exact⟨rfl,rfl⟩
   ·obtain⟨rfl,rfl⟩:=hz
    simp only[Bool.false_eq_true,if_false,Bool.not_false,if_true];rw[NY x hm,NY x' (zL hx hm)];refine au.bnd (R:=λ_ l l'=>l=m/\l'=m) (au.ret ⟨rfl,rfl⟩) (λκ4 l l' gy hl=>?_);obtain⟨rfl,rfl⟩:=hl;simp only[hroom,if_true];have hle3:=ju.trans NZ hle3;have hx4:=(((hx.mono hle).mono hle2).mono hle3).mono gy;refine au.bnd (lN sz' l' hx4) (λκ5 cs cs' nZ hc=>?_);rw[Addr.fY,Addr.fY];refine au.bnd (je _ _ 0 κ5 (nZ _ _ (gy _ _ (hle3 _ _ (hle2 _ _ (hle _ _ hb))))) hc.list) (λκ6 _ _ N0 _=>au.ret ?_);have Sw:=(((((hself.mono hle).mono hle2).mono hle3).mono gy).mono nZ).mono N0;cases Sw with
    | slice _ _ _ _ _ _ q0 q1 q2 q3 q4=>exact .slice _ _ _ _ _ _ q0 q1 q2 q3 hroom
    | dK _ _ _ q0 q1 =>
     have:0+l'=0:=by omega
     rw[this];exact .dK _ _ _ q0 q1
  | _=>exact au.halt
 cases hd with
 | slice id off b _ _ c' hb h0 h1 h2 h3 =>
  have hc:c=c':=h0 hg;subst hc;exact main id off b hb (.slice id off b n c c hb h0 h1 h2 h3)
 | dK id off b hb h0=>exact main id off b hb (.dK id off b hb h0)
end Go.Ev
namespace Go.Ev
open Go.RowKit
variable[bB]
theorem Jc{P:Program}{base:Nat->Prop}{ι:am}{x x':Value}(t ty:TypeId)(hx:aq ι x x'):au P base VV ι (Builtin.len_ #[t] ty #[x]) (Builtin.len_ #[t] ty #[x']):=by
 unfold Builtin.len_;simp only[List.getElem?_toArray,List.getElem?_cons_zero,List.getElem?_cons_succ];refine au.bnd (aR t) (λκ d d' hle hd=>?_);obtain⟨rfl,h2⟩:=hd;have hx2:=hx.mono hle;cases d' with
 | string=>cases hx2<;>first | exact au.ret (.int _ _) | exact au.halt
 | array n e=>exact au.ret (.int _ _)
 | slice e=>cases hx2<;>first | exact au.ret (.int _ _) | exact au.halt
 | map k e =>
  cases hx2 with
  | nt=>exact au.ret (.int _ _)
  | map id b hb =>
   dsimp only;refine au.bnd (R:=λκ (o o':Obj)=>ic P κ id o o') (au.getObj hb (λo o' ho _=>au.pure ho)) (λκ2 o o' hle2 ho=>?_);cases o with
   | map es n =>
    obtain⟨es',rfl,he⟩:=ho;dsimp only;rw[← he.1];exact au.ret (.int _ _)
   | _=>exact au.halt
  | _=>exact au.halt
 | pointer arr =>
  dsimp only;refine au.bnd (aR arr) (λκ2 d d' hle2 hd=>?_);obtain⟨rfl,h3⟩:=hd;cases d'<;>first | exact au.ret (.int _ _) | exact au.halt
 | chan a b=>cases hx2<;>exact au.halt
 | _=>exact au.halt
def Bv:Value->Bool
 | .slice none _ _=>true
 | .slice (some a) _ _=>!iV a.block
 | _=>false
theorem Jd{P:Program}{base:Nat->Prop}{ι:am}{x x':Value}(t ty:TypeId)(hx:aq ι x x')(hc:Bv x=true):au P base VV ι (Builtin.cap_ #[t] ty #[x]) (Builtin.cap_ #[t] ty #[x']):=by
 unfold Builtin.cap_;simp only[List.getElem?_toArray,List.getElem?_cons_zero,List.getElem?_cons_succ];refine au.bnd (aR t) (λκ d d' hle hd=>?_);obtain⟨rfl,h2⟩:=hd;have hx2:=hx.mono hle;cases d' with
 | array n e=>exact au.ret (.int _ _)
 | slice e =>
  cases hx2 with
  | slice id off b n c c' h h0 h1 h2 h3 =>
   have hg:iV id=false:=by simpa[Bv] using hc
   rw[h0 hg];exact au.ret (.int _ _)
  | dF=>exact au.ret (.int _ _)
  | dK id off b h h0=>exact au.ret (.int _ _)
  | _=>exact au.halt
 | pointer arr =>
  dsimp only;refine au.bnd (aR arr) (λκ2 d d' hle2 hd=>?_);obtain⟨rfl,h3⟩:=hd;cases d'<;>first | exact au.ret (.int _ _) | exact au.halt
 | chan a b=>cases hx2<;>exact au.halt
 | _=>exact au.halt
theorem au.none{α β:Type}{P:Program}{base:Nat->Prop}{R:am->α->β->Prop}{ι:am}{m:Sem α}{m':Sem β}(h:∀ s,ay P m s=Option.none):au P base R ι m m':=by
 intro s w a s1 hr ha;rw[h]at ha;cases ha
theorem ii{α β:Type}{P:Program}(m:Sem α)(f:α->Sem β)(h:∀ s,ay P m s=Option.none)(s:St):ay P (m >>= f) s=Option.none:=by
 show ay P (m.bind f) s=Option.none;rw[mB,h];rfl
theorem xC{P:Program}{base:Nat->Prop}{ι:am}(n:Nat):au P base (λ_ _ _=>True) ι (Go.askRoom n) (Go.askRoom n):=by
 unfold Go.askRoom
 split
 ·exact au.mark (au.pure trivial)
 ·exact au.ret trivial
theorem tz{P:Program}{base:Nat->Prop}{ι:am}{l l' c c':Value}(t:TypeId)(hz:tq P (iw P t)=true)(hq:xv P (iw P t)=true)(hl:aq ι l l')(hc:aq ι c c'):au P base VV ι (Instr.makeSlice t l c) (Instr.makeSlice t l' c'):=by
  unfold Instr.makeSlice;refine au.bnd (aR t) (λκ d d' hle hd=>?_);obtain⟨rfl,h2⟩:=hd;cases d' with
  | slice elem =>
    dsimp only;have he:iw P t=elem:=by simp[iw,h2]
    rw[he]at hz hq;refine au.bnd (pv (hl.mono hle)) (λκ2 a a' hle2 ha=>?_);subst ha;refine au.bnd (pv ((hc.mono hle).mono hle2)) (λκ3 b b' hle3 hb=>?_);subst hb;refine au.bnd (eC elem) (λκ4 i i' gy hi=>?_);obtain⟨rfl,hi2⟩:=hi;have fin:∀ (κ:am) (zero jf:Array Value) (n L C:Nat),bZ κ zero jf->(n=0\/0<zero.size)->L<=C->au P base VV κ
        (do let a ← Go.newRow elem ((Array.range n).map (zero[· % zero.size]!))
            pure (Value.slice (some a) L C))
        (do let a ← Go.newRow elem ((Array.range n).map (jf[· % jf.size]!))
            pure (Value.slice (some a) L C)):=by
      intro κ zero jf n L C P4 hpos Sx;refine au.bnd (nu elem (P4.zeros n hpos)) (λκ4 a a' gy ha=>?_);obtain⟨id,b,rfl,rfl,hb,hg⟩:=ha
      by_cases hC:0<C
      · exact au.ret (.slice id 0 b L C C hb (λ_=>rfl) (λg=>by rw[hg]at g;cases g) hC Sx)
      · obtain⟨rfl,rfl⟩:C=0/\L=0:=by omega
        exact au.ret (.dK id 0 b hb hg)
    split
    · split
      · exact au.none (λs=>ii _ _ (λs=>nz _ s) s)
      · split
        · exact au.none (λs=>ii _ _ (λs=>nz _ s) s)
        · exact au.none (λs=>ii _ _ (λs=>rfl) s)
    · rename_i hcond
      simp only[Bool.or_eq_true,decide_eq_true_eq,not_or]at hcond;refine au.bnd (xC _) (λκ5 _ _ nZ _=>?_);refine au.bnd (di elem) (λκ6 sz sz' N0 hs=>?_);subst hs
      split
      · rename_i h0
        refine au.bnd (R:=λ_ p p'=>p = #[]/\p' = #[]) (au.ret ⟨rfl,rfl⟩) (λκ7 z z' Qa N1=>?_);obtain⟨rfl,rfl⟩:=N1;exact fin κ7 #[] #[] _ _ _ (bZ.empty κ7) (.inl h0) (by omega)
      · refine au.bnd (qc elem hz hq) (λκ7 v v' Qa hv=>?_)
        obtain⟨rfl,hv,hpos⟩:=hv;refine au.bnd (R:=λκ p p'=>bZ κ p p'/\0<p.size) (au.ret ⟨gx hv,hpos⟩) (λκ8 z z' Sy RP=>?_);exact fin κ8 z z' _ _ _ RP.1 (.inr RP.2) (by omega)
  | _=>exact au.halt
def sv(r:Option (Value×St)):Option (Next×St):=r.map λ(v,s)=>(.value v,s)
def su{α:Type}(r:Option (α×St)):Option (Next×St):=r.map λ(_,s)=>(.skip,s)
theorem gB.dU{P:Program}{base:Nat->Prop}{ι:am}{s s1:St}{w:World}{n:Next}{m m':Sem Value}(h:au P base VV ι m m')(hr:dL P base ι s.look w)(ha:sv (ay P m s)=some (n,s1))
    (hfr:∀ id,4*s.next<=id->id<4*s1.next->ι id=none):gB P base ι s s1 w n (do pure (.value (← m'))):=by
  unfold sv at ha;rw[Option.map_eq_some_iff]at ha;obtain⟨⟨v,s2⟩,h1,h2⟩:=ha;cases h2;obtain⟨κ,v',w1,r1,r2,r3,r4,r5⟩:=h s w v s1 hr h1 hfr;exact⟨κ,.value v',w1,by rw[Sem.run_bind,r1];rfl,r2,r3,r4,r5⟩
theorem gB.Je{P:Program}{base:Nat->Prop}{ι:am}{s s1:St}{w:World}{n:Next}{m m':Sem Unit}(h:au P base (λ_ _ _=>True) ι m m')(hr:dL P base ι s.look w)(ha:su (ay P m s)=some (n,s1))
    (hfr:∀ id,4*s.next<=id->id<4*s1.next->ι id=none):gB P base ι s s1 w n (do m';pure .skip):=by
  unfold su at ha;rw[Option.map_eq_some_iff]at ha;obtain⟨⟨v,s2⟩,h1,h2⟩:=ha;cases h2;obtain⟨κ,v',w1,r1,r2,r3,r4,r5⟩:=h s w v s1 hr h1 hfr;exact⟨κ,.skip,w1,by rw[Sem.run_bind,r1];rfl,r2,r3,trivial,r5⟩
theorem gB.eE{P:Program}{base:Nat->Prop}{ι:am}{s:St}{w:World}{n n':Next}{m':Sem Next}(hr:dL P base ι s.look w)(h:m'.run P w=.ok n' w)(hn:I_ P ι n n'):gB P base ι s s w n m' :=
 ⟨ι,n',w,h,hr,λ_ _=>rfl,hn,Out.refl _ _⟩
def vl(P:Program)(f:FuncId):Bool :=
 match P.funcs[f]? with
 | some fn=>fn.name != "runtime.NumGoroutine" && fn.body.isSome
 | none=>false
theorem kF{P:Program}{f:FuncId}(h:vl P f=true)(args:Array Value)(w:World):(Go.callFunc f args).run P w=.ok (.enter f args) w:=by
 unfold vl at h
 split at h
 ·rename_i fn hf
  simp only[Bool.and_eq_true,bne_iff_ne,ne_eq]at h;unfold Go.callFunc;show(match P.funcs[f]? with | none=>Go.stuck "call: no such function" | some fn=>_:Sem Next).run P w=_;rw[hf];dsimp only;have h1:(fn.name == "runtime.NumGoroutine")=false:=by simpa using h.1
  have h2:fn.body.isNone=false:=by
   cases hb:fn.body with
   | none=>rw[hb]at h;cases h.2
   | some x=>rfl
  rw[if_neg (by rw[h1];decide),if_neg (by rw[h2];decide)];rfl
 ·cases h
theorem qe{P:Program}{base:Nat->Prop}{ι:am}{id b:Nat}(hb:ι id=some b):au P base (λκ (o o':Obj)=>ic P κ id o o') ι (Go.getObj id) (Go.getObj b) :=
 au.getObj hb (λo o' ho _=>au.pure ho)
theorem jy{P:Program}{base:Nat->Prop}{ι:am}{id b:Nat}{o o':Obj}(hb:ι id=some b)(ho:ic P ι id o o')(hc:∀ c e f,o≠.cells c e f):au P base (λ_ _ _=>True) ι (Go.setObj id o) (Go.setObj b o') :=
 au.setObj hb ho hc (au.pure trivial)
theorem gT{P:Program}{base:Nat->Prop}{ι:am}{id b:Nat}(hb:ι id=some b):au P base (λκ r r'=>nY P κ r r') ι (Instr.getLoop id) (Instr.getLoop b):=by
 unfold Instr.getLoop;refine au.bnd (qe hb) (λκ o o' hle ho=>?_);cases o with
 | loop l =>
  obtain⟨l',rfl,hl⟩:=ho;exact au.ret hl
 | _=>exact au.halt
theorem Ep{ι:am} : ∀ (ps:List Tmp) (l l':List Value) (t t':Array Value),l.length=l'.length->(∀ (i:Nat) (v v':Value),l[i]? = some v->l'[i]? = some v'->aq ι v v')->bZ ι t t'->
  bZ ι ((ps.zip l).foldl (λt (x:Tmp×Value)=>t.setIfInBounds x.1 x.2) t) ((ps.zip l').foldl (λt (x:Tmp×Value)=>t.setIfInBounds x.1 x.2) t'):=by
 intro ps
 induction ps with
 | nil=>intro l l' t t' _ _ h;exact h
 | cons p ps ih =>
  intro l l' t t' hl hv h;cases l with
  | nil =>
   cases l' with
   | nil=>exact h
   | cons v' l'=>cases hl
  | cons v l =>
   cases l' with
   | nil=>cases hl
   | cons v' l' =>
    rw[List.zip_cons_cons,List.zip_cons_cons,List.foldl_cons,List.foldl_cons];exact ih l l' _ _ (by simpa using hl) (λi x x' a b=>hv (i+1) x x' a b) (gA h (hv 0 v v' rfl rfl) p)
theorem CV{P:Program}{base:Nat->Prop}{ι:am}{id b:Nat}{args args':Array Value}(hb:ι id=some b)(ha:bZ ι args args'):au P base (I_ P) ι (Instr.yield id args) (Instr.yield b args'):=by
 unfold Instr.yield;refine au.bnd (gT hb) (λκ r r' hle hr=>?_);rw[← hr.params,← ha.1]
 split
 ·exact au.halt
 ·refine au.ret ⟨hle _ _ hb,?_,hr.assign,hr.body,hr.ok1,hr.CK⟩
  have e:∀ (ps:Array Tmp) (l:Array Value) (t:Array Value),(ps.zip l).foldl (λtmps (x:Tmp×Value)=>tmps.setIfInBounds x.1 x.2) t=(ps.toList.zip l.toList).foldl (λtmps (x:Tmp×Value)=>tmps.setIfInBounds x.1 x.2) t:=by
   intro ps l t;rw[← Array.foldl_toList,Array.toList_zip]
  show bZ κ ((r.params.zip args).foldl (λtmps (x:Tmp×Value)=>tmps.setIfInBounds x.1 x.2) r.tmps) ((r.params.zip args').foldl (λtmps (x:Tmp×Value)=>tmps.setIfInBounds x.1 x.2) r'.tmps);rw[e,e];have ha2:=ha.mono hle;exact Ep _ _ _ _ _ (by simpa using ha2.1) (λi v v' a b=>ha2.2 i v v' (by simpa using a) (by simpa using b)) hr.tmps
def n_(ι:am):Option Nat->Option Nat->Prop
 | none,none=>True
 | some l,some b=>ι l=some b
 | _,_=>False
theorem n_.mono{ι κ:am}(hk:ju ι κ){r r':Option Nat}(h:n_ ι r r'):n_ κ r r':=by
 cases r<;>cases r'<;>first | exact h | exact hk _ _ h
theorem tA{P:Program}{base:Nat->Prop}{ι:am}{t t':Array Value}{rd rd':Option Nat}(fn fn':FuncId)(ps:Array Tmp)(assign body:Code)(ht:bZ ι t t')(hrd:n_ ι rd rd')(ho1:bU P assign)(ho2:bU P body) :
    au P base (λκ x x'=>κ x.1=some x'.1/\mT κ x.2 x'.2) ι (Instr.enterLoop fn t ps assign body rd) (Instr.enterLoop fn' t' ps assign body rd'):=by
  unfold Instr.enterLoop;have fin:∀ (κ:am) (d d':Nat) (m m':List Deferred),ju ι κ->κ d=some d'->mT κ m m'->au P base (λκ x x'=>κ x.1=some x'.1/\mT κ x.2 x'.2) κ
      (do pure (← Go.newObj (.loop { state:=.ready,pending:=none,fn,tmps:=t,params:=ps,assign,body,defers:=d }),m):Sem (Nat×List Deferred))
      (do pure (← Go.newObj (.loop { state:=.ready,pending:=none,fn:=fn',tmps:=t',params:=ps,assign,body,defers:=d' }),m'):Sem (Nat×List Deferred)):=by
    intro κ d d' m m' hle hd hm;exact au.bnd (ny (P:=P) (base:=base) ⟨_,rfl,rfl,rfl,ht.mono hle,rfl,rfl,rfl,hd,ho1,ho2⟩) (λκ2 a b hle2 hab=>au.ret ⟨hab,hm.mono hle2⟩)
  cases rd with
  | none =>
    cases rd' with
    | some b=>exact hrd.elim
    | none =>
      dsimp only;refine au.bnd (ny (P:=P) (base:=base) (o:=.deferred (some [])) (o':=.deferred (some [])) ⟨rfl,.inr rfl⟩) (λκ r r' hle hr=>?_);exact fin κ r r' _ _ hle hr (.cons r r' [] [] hr .nil)
  | some l =>
    cases rd' with
    | none=>exact hrd.elim
    | some b =>
      dsimp only;refine au.bnd (gT hrd) (λκ r r' hle hr=>?_);exact fin κ _ _ _ _ hle hr.defers .nil
theorem nY.set{P:Program}{ι:am}{r r':Loop}(h:nY P ι r r')(st:LoopState)(pe:Option Code):nY P ι { r with state:=st,pending:=pe } { r' with state:=st,pending:=pe } :=
 ⟨rfl,rfl,h.tmps,h.params,h.assign,h.body,h.defers,h.ok1,h.CK⟩
theorem ri{P:Program}{base:Nat->Prop}{ι:am}{id b:Nat}(hb:ι id=some b):au P base (λ_ _ _=>True) ι (Instr.beginRound id) (Instr.beginRound b):=by
 unfold Instr.beginRound;refine au.bnd (gT hb) (λκ r r' hle hr=>?_);refine au.bnd (jy (hle _ _ hb) ⟨_,rfl,⟨rfl,hr.pending,hr.tmps,hr.params,hr.assign,hr.body,hr.defers,hr.ok1,hr.CK⟩⟩ (by intro c e f x;cases x)) (λκ2 _ _ hle2 _=>?_);rw[← hr.state];cases r.state with
 | ready=>exact au.ret trivial
 | _=>exact au.panics
theorem vm{P:Program}{base:Nat->Prop}{ι:am}{id b:Nat}(hb:ι id=some b)(jump:Option Code):au P base VV ι (Instr.endRound id jump) (Instr.endRound b jump):=by
 unfold Instr.endRound;refine au.bnd (gT hb) (λκ r r' hle hr=>?_);refine au.bnd (jy (hle _ _ hb) ⟨_,rfl,hr.set _ _⟩ (by intro c e f x;cases x)) (λκ2 _ _ hle2 _=>?_);exact au.ret (.bool _)
theorem xD{P:Program}{base:Nat->Prop}{ι:am}{id b:Nat}(hb:ι id=some b):au P base (λ_ x y=>y=x) ι (Instr.endLoop id) (Instr.endLoop b):=by
 unfold Instr.endLoop;refine au.bnd (gT hb) (λκ r r' hle hr=>?_);rw[← hr.state]
 split
 ·exact au.bnd (R:=λ_ _ _=>False) au.panics (λκ2 _ _ _ hx=>hx.elim)
 ·refine au.bnd (jy (hle _ _ hb) ⟨_,rfl,⟨rfl,hr.pending,hr.tmps,hr.params,hr.assign,hr.body,hr.defers,hr.ok1,hr.CK⟩⟩ (by intro c e f x;cases x)) (λκ2 _ _ hle2 _=>?_)
  exact au.ret hr.pending.symm
theorem py{P:Program}{base:Nat->Prop}{ι:am}{id b:Nat}(hb:ι id=some b):au P base (λ_ x y=>x=[]/\y=[]) ι (Instr.takeDeferred id) (Instr.takeDeferred b):=by
 unfold Instr.takeDeferred;refine au.bnd (qe hb) (λκ o o' hle ho=>?_);cases o with
 | deferred d =>
  obtain⟨rfl,hd⟩:=ho;rcases hd with rfl | rfl
  ·exact au.halt
  ·exact au.bnd (jy (hle _ _ hb) ⟨rfl,.inl rfl⟩ (by intro c e f x;cases x)) (λκ2 _ _ hle2 _=>au.ret ⟨rfl,rfl⟩)
 | _=>exact au.halt
end Go.Ev
namespace Go.Ev
open Go.RowKit
variable[bB]
def f_(P:Program)(t:TypeId)(x y:Value):Bool :=
 match P.underlying t,x,y with
 | some (.pointer _),.pointer (some _),.pointer none=>true
 | some (.pointer _),.pointer none,.pointer (some _)=>true
 | some (.interface _),.iface _ _,.nilIface=>true
 | some (.interface _),.nilIface,.iface _ _=>true
 | some (.slice _),.slice (some _) _ _,.slice none 0 0=>true
 | some (.slice _),.slice none 0 0,.slice (some _) _ _=>true
 | some (.map _ _),.map (some _),.map none=>true
 | some (.map _ _),.map none,.map (some _)=>true
 | some (.func _ _ _),.func _ _ _,.nilFunc=>true
 | some (.func _ _ _),.nilFunc,.func _ _ _=>true
 | _,_,_=>false
theorem zM{P:Program}{ι:am}{t:TypeId}{x y x' y':Value}(hx:aq ι x x')(hy:aq ι y y')(h:f_ P t x y=true):f_ P t x' y'=true:=by
 unfold f_ at h ⊢
 split at h
 all_goals first | (cases h;done) | skip
 all_goals (rename_i hu;cases hx<;>cases hy<;>simp[hu])
theorem zN{P:Program}{t:TypeId}{x y:Value}(h:f_ P t x y=true)(n:Nat)(w:World):(Op.equalIn (n+1) t x y).run P w=.ok false w:=by
 unfold f_ at h
 split at h
 all_goals first | (cases h;done) | skip
 all_goals
  rename_i hu;unfold Op.equalIn;rw[Sem.run_bind,cB hu];rfl
theorem CW{P:Program}{t:TypeId}{ox oy:Operand}{x y:Value}(h:f_ P t x y=true)(w:World) :
    (do eqGuard .eql t ox oy x y;binOp .eql t x y:Sem Value).run P w=.ok (.bool false) w/\(do eqGuard .neq t ox oy x y;binOp .neq t x y:Sem Value).run P w=.ok (.bool true) w:=by
  have he:(Op.equal t x y).run P w=.ok false w:=zN h 9999 w;have hg:∀ op,(eqGuard op t ox oy x y).run P w=.ok () w:=by
    intro op;unfold f_ at h
    split at h
    all_goals first | (cases h;done) | skip
    all_goals (unfold eqGuard;split<;>rfl)
  constructor
  · rw[Sem.run_bind,hg]
    show(binOp .eql t x y).run P w=_;have:binOp .eql t x y=(do pure (.bool (← Op.equal t x y)):Sem Value):=by
      unfold f_ at h
      split at h
      all_goals first | (cases h;done) | rfl
    rw[this,Sem.run_bind,he];rfl
  · rw[Sem.run_bind,hg]
    show(binOp .neq t x y).run P w=_;have:binOp .neq t x y=(do pure (.bool (!(← Op.equal t x y))):Sem Value):=by
      unfold f_ at h
      split at h
      all_goals first | (cases h;done) | rfl
    rw[this,Sem.run_bind,he];rfl
def od(P:Program)(t:TypeId)(v:Value)(name:String):Option FuncId :=
 match P.info? t with
 | some i =>
  match i.methods.find? (·.name==name) with
  | some m =>
   match m.path.isEmpty,m.func,P.underlying t with
   | true,some (f,true),some (.pointer _)=>some f
   | true,some (f,false),some (.pointer _)=>none
   | true,some (f,false),some _=>some f
   | _,_,_=>none
  | none=>none
 | none=>none
theorem tB{P:Program}{t:TypeId}{i:TypeInfo}(h:P.info? t=some i)(w:World):(Go.typeInfo t).run P w=.ok i w:=by
 unfold Go.typeInfo;show(match P.info? t with | some i=>(Pure.pure i:Sem TypeInfo) | none=>Go.stuck "no such type").run P w=_;rw[h];rfl
theorem zO{P:Program}{t:TypeId}{v:Value}{name:String}{f:FuncId}(h:od P t v name=some f)(n:Nat)(w:World):(Go.method (n+1) t v name).run P w=.ok (f,v) w:=by
  unfold od at h
  split at h
  · rename_i i hi
    split at h
    · rename_i m hm
      unfold Go.method;rw[Sem.run_bind,tB hi];dsimp only[Result.andThen];rw[hm];dsimp only;have hp:m.path.isEmpty=true->m.path.toList=[]:=by
        intro e;rw[Array.isEmpty_iff]at e;rw[e]
      split at h
      · rename_i g e hpe hfn hu
        cases h;rw[hp hpe,hfn];show(do let r ← receiverAt t (.val v) true _;pure (f,r):Sem _).run P w=_;unfold receiverAt;rw[Sem.run_bind,Sem.run_bind,cB hu];rfl
      · cases h
      · rename_i g d hne hpe hfn hu
        cases h;rw[hp hpe,hfn];show(do let r ← receiverAt t (.val v) false _;pure (f,r):Sem _).run P w=_;unfold receiverAt;rw[Sem.run_bind,Sem.run_bind,cB hu];dsimp only[Result.andThen];cases d with
        | pointer e=>exact(hne e rfl).elim
        | _=>rfl
      · cases h
    · cases h
  · cases h
def bX(xs:List Operand):Bool:=xs.all bN
def kG:Op->Bool
 | .binOp _ _ _ _ _ | .unOp _ _ _ | .convert _ _ _=>true
 | .call { callee:=.builtin .min,.. } | .call { callee:=.builtin .max,.. }=>true
 | _=>false
def ga(P:Program)(a:Act)(o:Oper)(s:St):Option (Next×St) :=
 if kG o.op&&o.op.operands.toList.all (λx=>bN x&&cu 5 (a.eval x)) then
  match jd P (execOp a.eval o) with
  | some (.value v)=>if cu 5 v then some (.value v,s) else none
  | _=>none
 else none
def Eq(op:BinOp)(x y:Value)(s:St):Option (Next×St):=(bB.bin op x y).map λr=>(.value r,s)
def Er(op:UnOp)(x:Value)(s:St):Option (Next×St):=(bB.PH op x).map λr=>(.value r,s)
theorem rj{ι:am}{x x':Value}(h:aq ι x x')(hs:eT x=true):x'=nW bB.val x:=by
 cases h with
 | sym n m _ hh=>exact hh.symm
 | _=>first | rfl | cases hs | (simp[eT]at hs)
theorem qI{ι:am}{r:Value}(hs:eT r=true):aq ι r (nW bB.val r):=by
 cases r with
 | bool b=>exact .bool b
 | int k n=>exact .int k n
 | float k n=>exact .float k n
 | string b=>exact .string b
 | complex k n m =>
  cases k with
  | f64=>exact .sym n m _ rfl
  | f32=>cases hs
 | pointer a =>
  cases a with
  | none=>exact .pu
  | some a=>cases hs
 | slice a n c =>
  cases a with
  | some a=>cases hs
  | none =>
   cases n with
   | succ n=>simp[eT]at hs
   | zero =>
    cases c with
    | zero=>exact .dF
    | succ c=>simp[eT]at hs
 | map a =>
  cases a with
  | none=>exact .nt
  | some a=>cases hs
 | nilFunc=>exact .nilFunc
 | nilIface=>exact .nilIface
 | _=>cases hs
def zP(P:Program)(t u:TypeId)(x:Value)(s:St):Option (Next×St) :=
 match P.underlying t,P.underlying u with
 | some (.int _),some (.int k)=>(bB.PI k x).map λr=>(.value r,s)
 | _,_=>none
def evs(a:Act)(xs:Array Operand):Array Value:=xs.map a.eval
def Md(a:Act)(ps:Array (Nat×Operand)):Array (Nat×Value):=ps.map λ(i,x)=>(i,a.eval x)
def mY(P:Program)(a:Act)(c:Call)(ty:TypeId)(s:St):Option (Next×St) :=
 if bX c.operands.toList then
  match c.callee with
  | .value f =>
   match a.eval f with
   | .func (.func g) first captured=>if vl P g then some (.enter g ((first++evs a c.args)++captured),s) else none
   | .func (.yield l) first captured=>if first.isEmpty&&captured.isEmpty then ay P (Instr.yield l (evs a c.args)) s else none
   | _=>none
  | .invoke r name =>
   match a.eval r with
   | .iface t v=>(match od P t v name with | some f=>if vl P f then some (.enter f (#[v]++evs a c.args),s) else none | none=>none)
   | _=>none
  | .builtin b =>
   match b,c.args.toList,c.argTypes.toList with
   | .len,[x],[t]=>sv (ay P (Builtin.len_ #[t] ty #[a.eval x]) s)
   | .cap,[x],[t]=>if Bv (a.eval x) then sv (ay P (Builtin.cap_ #[t] ty #[a.eval x]) s) else none
   | .append,[x,y],[t,u]=>if vi P u (a.eval x) (a.eval y) then sv (ay P (Builtin.append_ #[t,u] ty #[a.eval x,a.eval y]) s) else sv (de P s t u (a.eval x) (a.eval y))
   | .copy,[x,y],[t,u]=>sv (ay P (Builtin.copy_ #[t,u] ty #[a.eval x,a.eval y]) s)
   | .delete,[x,y],[t,u]=>(fk P s t (a.eval x) (a.eval y)).map λs1=>(.value (.tuple #[]),s1)
   | _,_,_=>none
 else none
def bA(P:Program)(a:Act)(o:Oper)(s:St):Option (Next×St) :=
 match o.op with
 | .move x | .assign x=>if bN x then some (.value (a.eval x),s) else none
 | .pick c x y =>
  if bX [c,x,y] then
   match a.eval c with
   | .bool b=>some (.value (if b then a.eval x else a.eval y),s)
   | _=>none
  else none
 | .alloc t=>if tq P t then sv (ay P (Instr.alloc t true (.tuple #[])) s) else none
 | .box t x=>if bN x then sv (ay P (Instr.box t (a.eval x)) s) else none
 | .build t ps=>if tq P t&&bX (ps.toList.map (·.2)) then sv (ay P (Instr.build t (Md a ps)) s) else none
 | .buildSlice t n ps=>if tq P (iw P t)&&xv P (iw P t)&&bX (ps.toList.map (·.2)) then sv (ay P (Instr.buildSlice t n (Md a ps)) s) else none
 | .load t x=>if bN x then sv (ay P (Instr.loadAt t (a.eval x)) s) else none
 | .store t x y=>if bX [x,y] then su (ay P (Instr.storeAt t (a.eval x) (a.eval y)) s) else none
 | .nilCheck x =>
  if bN x then
   match a.eval x with
   | .pointer (some b)=>some (.value (a.eval x),s)
   | .func (.func _) _ _=>some (.value (a.eval x),s)
   | .iface _ _=>some (.value (a.eval x),s)
   | _=>none
  else none
 | .binOp op t x y _ =>
  match ga P a o s with
  | some r=>some r
  | none=>if bX [x,y] then (if f_ P t (a.eval x) (a.eval y) then (match op with | .eql=>some (.value (.bool false),s) | .neq=>some (.value (.bool true),s) | _=>none) else Eq op (a.eval x) (a.eval y) s) else none
 | .unOp op _ x =>
  match ga P a o s with
  | some r=>some r
  | none=>if bN x then Er op (a.eval x) s else none
 | .convert t u x =>
  match ga P a o s with
  | some r=>some r
  | none=>if bN x then zP P t u (a.eval x) s else none
 | .makeInterface t x=>if bN x then sv (ay P (Instr.makeInterface t (a.eval x)) s) else none
 | .makeFunc (.func f) first captured=>if bX first.toList&&bX captured.toList then some (.value (.func (.func f) (evs a first) (evs a captured)),s) else none
 | .makeMap t none=>sv (ay P (Instr.makeMap t none) s)
 | .makeMap t (some x)=>if bN x then sv (ay P (Instr.makeMap t (some (a.eval x))) s) else none
 | .makeSlice t l c=>if tq P (iw P t)&&xv P (iw P t)&&bX [l,c] then sv (ay P (Instr.makeSlice t (a.eval l) (a.eval c)) s) else none
 | .slice t x lo hi mx =>
  if CO P t&&bN x&&bX lo.toList&&bX hi.toList&&bX mx.toList&&CN (a.eval x) (mx.map a.eval) then
   match ay P (Instr.sliceAt t (a.eval x) (lo.map a.eval) (hi.map a.eval) (mx.map a.eval)) s with
   | some (v,s1)=>if n6 v then some (.value v,s1) else none
   | none=>none
  else none
 | .fieldAddr t x f=>if bN x&&t7 P t f then sv (ay P (Instr.fieldAt t (a.eval x) f) s) else none
 | .field t x f=>if bN x then sv (ay P (Instr.field t (a.eval x) f) s) else none
 | .indexAddr t x i=>if bX [x,i] then sv (ay P (Instr.indexAt t (a.eval x) (a.eval i)) s) else none
 | .index t x i=>if bX [x,i] then sv (ay P (Instr.index t (a.eval x) (a.eval i)) s) else none
 | .lookup t m k ok=>if bX [m,k] then sv (jx P s t (a.eval m) (a.eval k) ok) else none
 | .mapUpdate t m k v=>if bX [m,k,v] then (eD P s t (a.eval m) (a.eval k) (a.eval v)).map λs1=>(.skip,s1) else none
 | .insert t m k v=>if bX [m,k,v] then (eD P s t (a.eval m) (a.eval k) (a.eval v)).map λs1=>(.skip,s1) else none
 | .mapEntry t m k=>if bX [m,k] then sv (gC P s t (a.eval m) (a.eval k)) else none
 | .entryStore _ m st v=>if bX [m,st,v] then (ig s (a.eval m) (a.eval st) (a.eval v)).map λs1=>(.skip,s1) else none
 | .range t x=>if bN x then sv (ay P (Instr.range t (a.eval x)) s) else none
 | .next x str=>if bN x then sv (ay P (Instr.next (a.eval x) str o.type) s) else none
 | .entry x=>if bN x then sv (ay P (Instr.entry (a.eval x)) s) else none
 | .typeAssert x t u ok=>if bN x&&(!ok||tq P u) then sv (ay P (Instr.typeAssert (a.eval x) t u ok) s) else none
 | .extract x i=>if bN x then sv (ay P (Instr.extract (a.eval x) i) s) else none
 | .call c=>(match ga P a o s with | some r=>some r | none=>mY P a c o.type s)
 | _=>none
end Go.Ev
