/- Part of a proof: see the last text. -/
import Derived.Test.YtankbefdlbcdnaaZd2
import Derived.Deep.AppendSrc
import Derived.Deep.Upon
import Derived.Orders
set_option linter.unusedSectionVars false
set_option linter.unusedSimpArgs false
set_option linter.unusedVariables false
namespace Go.Ev
open Go.RowKit
variable[aL]
theorem kD{e:TypeId}{b:Nat} : ∀ (vs:List Value) (o:Nat) (w:World) (cur:Array Value),w.heap[b]? = some (.cells cur e (0,0))->
  ∃ cur',(w.setCells b o vs).heap[b]? = some (.cells cur' e (0,0))/\cur'.size=cur.size/\(∀ k,(k<o\/o+vs.length<=k)->cur'[k]? = cur[k]?)/\(∀ j v,vs[j]? = some v->o+j<cur.size->cur'[o+j]? = some v):=by
 intro vs
 induction vs with
 | nil=>intro o w cur h;exact⟨cur,h,rfl,λk _=>rfl,λj v h=>by simp at h⟩
 | cons x r ih =>
  intro o w cur h;obtain⟨cur',h1,h2,h3,h4⟩:=ih (o+1) (w.setCell ⟨b,o,none⟩ x) (cur.setIfInBounds o x) (heap_setCell_same h);refine⟨cur',h1,by simpa using h2,?_,?_⟩
  ·intro k hk
   rw[h3 k (by simp at hk;omega),Array.getElem?_setIfInBounds,if_neg (by simp at hk;omega)]
  ·intro j v hj hlt
   match j with
   | 0 =>
    simp at hj;subst hj;rw[Nat.add_zero,h3 o (by omega),Array.getElem?_setIfInBounds,if_pos rfl,if_pos (by simpa using hlt)]
   | j+1 =>
    have:=h4 j v (by simpa using hj) (by simp;omega);rw[show o+(j+1)=o+1+j by omega];exact this
theorem setCells_size{b:Nat} : ∀ (vs:List Value) (o:Nat) (w:World),(w.setCells b o vs).heap.size=w.heap.size:=by
 intro vs
 induction vs with
 | nil=>intro o w;rfl
 | cons x r ih=>intro o w;rw[show(w.setCells b o (x::r))=((w.setCell ⟨b,o,none⟩ x).setCells b (o+1) r) from rfl,ih];simp[World.setCell]
theorem eo{b:Nat} : ∀ (vs:List Value) (o:Nat) (w:World) (j:Nat),j≠b->(w.setCells b o vs).heap[j]? = w.heap[j]?:=by
 intro vs
 induction vs with
 | nil=>intro o w j hj;rfl
 | cons x r ih =>
  intro o w j hj;rw[show(w.setCells b o (x::r))=((w.setCell ⟨b,o,none⟩ x).setCells b (o+1) r) from rfl,ih _ _ _ hj];exact Below.heap_setCell _ _ _ _ hj
theorem du{base:Nat->Prop}{b:Nat}(hb:¬ base b):∀ (vs:List Value) (o:Nat) (w:World),Out base w (w.setCells b o vs):=by
 intro vs
 induction vs with
 | nil=>intro o w;exact Out.refl _ _
 | cons x r ih=>intro o w;exact((Out.refl base w).setCell (p:=⟨b,o,none⟩) hb x).trans (ih (o+1) _)
def dw:Value->Option Nat
 | .slice _ n _=>some n
 | .string b=>some b.size
 | _=>none
def bg(s:St)(sz:Nat):Value->Option (Array Value×List Touch)
 | .slice none 0 0=>some (#[],[])
 | .slice (some ⟨id,off,none⟩) n _ =>
  match s.look id with
  | some (.cells a _ _)=>if off+n*sz<=a.size/\(a.extract off (off+n*sz)).toList.all oneCell=true then some (a.extract off (off+n*sz),[⟨id,none,false⟩]) else none
  | _=>none
 | .string b=>if sz=1 then some ((byteCells b).toArray,[]) else none
 | _=>none
theorem one_one{v:Value}(h:oneCell v=true):v.oneCell'=true:=by cases v<;>first | rfl | cases h
theorem ep{P:Program}{base:Nat->Prop}{ι:ag}{s:St}{w:World}{sz:Nat}{x x':Value}{c:Array Value}{l:List Touch}{n:Nat}(hr:bY P base ι s.look w)(hx:aw ι x x')(h:bg s sz x=some (c,l))(hn:dw x=some n) :
  ∃ c':Array Value,bk ι c c'/\c.size=n*sz/\c.toList.all oneCell=true/\(∀ w':World,w'.heap=w.heap->(Builtin.firstCells sz n x').run P w'=.ok c' w')/\(∀ w':World,(Builtin.lenOf x').run P w'=.ok n w'):=by
 cases hx with
 | cz =>
  simp only[bg,Option.some.injEq,Prod.mk.injEq]at h;simp only[dw,Option.some.injEq]at hn;obtain⟨rfl,rfl⟩:=h;subst hn;exact⟨#[],bk.empty ι,by simp,by simp,λw' _=>rfl,λw'=>rfl⟩
 | string b =>
  simp only[bg]at h;simp only[dw,Option.some.injEq]at hn
  split at h
  ·rename_i hsz
   cases h;subst hn hsz;refine⟨(byteCells b).toArray,bk.of_flat (λi v hv=>?_),by simp[byteCells_length],?_,λw' _=>firstCells_string b w',λw'=>rfl⟩
   ·have:=List.mem_of_getElem? (by simpa using hv:(byteCells b)[i]? = some v)
    obtain⟨q,_,rfl⟩:=List.mem_map.1 this;exact .int _ _
   ·rw[List.all_eq_true]
    intro v hv;obtain⟨q,_,rfl⟩:=List.mem_map.1 (by simpa using hv:v ∈ byteCells b);rfl
  ·cases h
 | slice id off b m cc cc' hb h0 h1 h2 h3 =>
  simp only[dw,Option.some.injEq]at hn;subst hn;simp only[bg]at h;cases hl:s.look id with
  | none=>simp[hl]at h
  | some o =>
   cases o with
   | cells a e f =>
    simp only[hl]at h
    split at h
    ·rename_i hc
     cases h;obtain⟨b',o',i1,i2,i3,i4⟩:=hr.there id _ hl (hr.real hl hb);rw[hb]at i1;cases i1;obtain⟨hf,a',rfl,j1,j2,j3,j4⟩:=i3;have hsz:(a.extract off (off+m*sz)).size=m*sz:=by simp;omega
     have hsz':(a'.extract off (off+m*sz)).size=m*sz:=by simp;omega
     refine⟨a'.extract off (off+m*sz),⟨by rw[hsz,hsz'],λi v v' g1 g2=>?_⟩,hsz,hc.2,λw' hw'=>?_,λw'=>rfl⟩
     ·rw[Array.getElem?_extract]at g1 g2
      split at g1
      ·split at g2
       ·exact j3 _ v v' g1 g2
       ·cases g2
      ·cases g1
     ·have:=run_firstCells_some (P:=P) w' sz m ⟨b,off,none⟩ m cc' (a'.extract off (off+m*sz)).toList (by simp;omega) (λj u hu=>by
       rw[Addr.d_];have hu':(a'.extract off (off+m*sz))[j]? = some u:=by rw[← Array.getElem?_toList];exact hu
       rw[Array.getElem?_extract]at hu'
       split at hu'
       ·simp only[World.cell?,hw',i2]
        exact hu'
       ·cases hu')
      rw[Array.toArray_toList]at this;exact this
    ·cases h
   | _=>simp[hl]at h
 | cD id off b hb h0 =>
  simp only[dw,Option.some.injEq]at hn;subst hn;simp only[bg]at h;cases hl:s.look id with
  | none=>simp[hl]at h
  | some o =>
   cases o with
   | cells a e f =>
    simp only[hl]at h
    split at h
    ·rename_i hc
     cases h;refine⟨#[],⟨by simp;omega,λi v v' g1 g2=>by simp at g2⟩,by simp;omega,hc.2,λw' hw'=>?_,λw'=>rfl⟩;have:=run_firstCells_some (P:=P) w' sz 0 ⟨b,off,none⟩ 0 0 [] (by simp) (λj u hu=>by simp at hu);simpa using this
    ·cases h
   | _=>simp[hl]at h
 | _=>cases h
def b7(P:Program)(s:St)(t u:TypeId)(dst src:Value):Option (Value×St) :=
 match P.underlying t,dw src,dst with
 | some (.slice e),some m,.slice ba n c =>
  match P.info? e with
  | some i =>
   match i.zero,(match P.underlying u with | some (.slice _) | some .string=>true | _=>false) with
   | some z,true =>
    if m=0 then some (dst,s)
    else if (n+m)*i.bytes<=140737488355328/\n+m<=1000000000/\4*s.next+1<lim/\0<i.size/\z.cells.size=i.size/\(n=0\/ba.isSome=true) then
     match bg s i.size src,bg s i.size dst with
     | some (news,l1),some (olds,l2) =>
      let id:=4*s.next+1
      let v:Value:=.slice (some ⟨id,0,none⟩) (n+m) (n+m)
      match ba with
      | none=>some (v,{ s.put id (some (.cells (olds++news) e (0,0))) with next:=s.next+1,log:=⟨id,none,true⟩::(l1++(l2++s.log)) })
      | some a =>
       if gG a.block then
        match a.off,s.look a.block with
        | 0,some (.cells _ e0 _)=>if e0=e/\a.block<lim then some (v,{ (s.put a.block none).put id (some (.cells (olds++news) e (0,0))) with next:=s.next+1,log:=⟨id,none,true⟩::⟨a.block,none,true⟩::(l1++(l2++s.log)) }) else none
        | _,_=>none
       else if c<n+m then some (v,{ s.put id (some (.cells (olds++news) e (0,0))) with next:=s.next+1,log:=⟨id,none,true⟩::(l1++(l2++s.log)) })
       else none
     | _,_=>none
    else none
   | _,_=>none
  | none=>none
 | _,_,_=>none
theorem rI(n:Nat):gG (4*n+1)=true:=by simp[gG,Nat.add_mod]
theorem bY.grown{P:Program}{base:Nat->Prop}{ι:ag}{H:Nat->Option Obj}{s:St}{w:World}{id cap:Nat}{c c':Array Value}{e:TypeId}{ti:TypeInfo}(hs:s.look=H)(hr:bY P base ι H w)(hlim:id<lim)(hn:ι id=none)(hn2:ι (id+1)=none)(hg:gG id=true)
  (hc:c.size<=c'.size) (hcr:∀ (i:Nat) (v v':Value),c[i]? = some v->c'[i]? = some v'->aw ι v v') (hi:P.info? e=some ti) (hsz:c'.size=cap*ti.size) :
  bY P base ((ι.upd (id+1) cap).upd id w.heap.size) (s.put id (some (.cells c e (0,0)))).look { w with heap:=w.heap.push (.cells c' e (0,0)) }:=by
 have h1:ib ι (ι.upd (id+1) cap):=ag.dT hn2;have hr1:bY P base (ι.upd (id+1) cap) s.look w:=by
  rw[hs];have Bl:∀ x o b,H x=some o->(ι.upd (id+1) cap) x=some b->ι x=some b:=by
   intro x o b hx g;unfold ag.upd at g
   split at g
   ·rename_i ex
    exfalso;subst ex;cases hgo:ob o with
    | none =>
     obtain⟨b2,_,k,_⟩:=hr.there _ o hx hgo;rw[hn2]at k;cases k
    | some gg =>
     obtain⟨e3,_⟩:=hr.gh _ o gg hx hgo;unfold gG at hg;simp at hg;omega
   ·exact g
  refine⟨?_,?_,hr.sz,hr.GF (λ_ _ _ h _=>h) h1 (by unfold ag.upd;rw[if_neg (λe3=>by unfold gG at hg;simp at hg;omega)]) (Nat.le_refl _) (λ_ _ _=>rfl) (λx ox bb hx hbb=>.inl ⟨x,ox,hx,Bl x ox bb hx hbb⟩)⟩
  ·intro x y ox oy b hx hy g1 g2
   exact hr.inj x y ox oy b hx hy (Bl x ox b hx g1) (Bl y oy b hy g2)
  ·intro x ox hx hrl
   obtain⟨b,o',k1,k2,k3,k4⟩:=hr.there x ox hx hrl;exact⟨b,o',h1 _ _ k1,k2,k3.mono h1,k4⟩
 refine bY.new hr1 hlim (by unfold gG at hg;simp at hg;omega) ?_ ?_
 ·unfold ag.upd
  rw[if_neg (by omega)];exact hn
 ·refine⟨rfl,c',rfl,hc,(λg=>by rw[hg]at g;cases g),λi v v' a b=>(hcr i v v' a b).mono h1,λ_=>⟨cap,ti,by simp[ag.upd],hi,hsz⟩⟩
theorem bY.drop{P:Program}{base:Nat->Prop}{ι:ag}{s:St}{w:World}{id:Nat}(hr:bY P base ι s.look w)(hlim:id<lim):bY P base ι (s.put id none).look w:=by
 have live:∀ x o,(s.put id none).look x=some o->x≠id/\s.look x=some o:=by
  intro x o hx
  by_cases e:x=id
  ·subst e;rw[St.bA _ _ _ hlim]at hx;cases hx
  ·rw[St.aU _ _ _ _ e]at hx;exact⟨e,hx⟩
 refine⟨λx y ox oy b hx hy g1 g2=>hr.inj x y ox oy b (live x ox hx).2 (live y oy hy).2 g1 g2,λx ox hx=>hr.there x ox (live x ox hx).2,hr.sz,hr.GF (λx ox g hx _=>(live x ox hx).2) (ib.refl _) rfl (Nat.le_refl _) (λ_ _ _=>rfl) (λx ox bb hx hbb=>.inl ⟨x,ox,(live x ox hx).2,hbb⟩)⟩
def Hp(P:Program)(base:Nat->Prop)(ι:ag)(s s1:St)(w:World)(v:Value)(m':Sem Value):Prop :=
 ∃ (κ:ag) (v':Value) (w1:World),m'.run P w=.ok v' w1/\bY P base κ s1.look w1/\(∀ id,(id<4*s.next\/4*s1.next<=id)->κ id=ι id)/\aw κ v v'/\Out base w w1
theorem bk.append{ι:ag}{a a' b b':Array Value}(h:bk ι a a')(k:bk ι b b'):bk ι (a++b) (a'++b'):=by
 refine⟨by simp[h.1,k.1],λi e e' h1 h2=>?_⟩;rw[Array.getElem?_append]at h1 h2;rw[h.1]at h1
 split at h1
 ·rename_i c
  rw[if_pos c]at h2;exact h.2 i e e' h1 h2
 ·rename_i c
  rw[if_neg c]at h2;exact k.2 _ e e' h1 h2
theorem yz{ι:ag}{c c':Array Value}(h:bk ι c c')(ha:c.toList.all oneCell=true):∀ u ∈ c'.toList,u.oneCell'=true:=by
 intro u hu;rw[List.all_eq_true]at ha;obtain⟨i,hi⟩:=List.getElem?_of_mem hu;have hi':c'[i]? = some u:=by rw[← Array.getElem?_toList];exact hi
 rcases h.get i with ⟨e1,e2⟩ | ⟨x,x',e1,e2,hx⟩
 ·rw[hi']at e2;cases e2
 ·rw[hi']at e2
  cases e2;exact one_one (hx.one (ha x (by rw[Array.mem_toList_iff];exact Array.mem_of_getElem? e1)))
theorem iO{P:Program}{base:Nat->Prop}{ι:ag}{s:St}{w:World}{t u ty e:TypeId}{i:TypeInfo}{z:Value}{ba':Option Addr}{n c' m:Nat}{src':Value}{olds olds' news news':Array Value}{lg:List Touch}
  (hr:bY P base ι s.look w) (ht:P.underlying t=some (.slice e)) (hu:(∃ e',P.underlying u=some (.slice e'))\/P.underlying u=some .string) (hi:P.info? e=some i) (hz:i.zero=some z) (hzs:z.cells.size=i.size)
  (hbytes:(n+m)*i.bytes<=140737488355328) (hnm:n+m<=1000000000) (hm:0<m) (hlim:4*s.next+1<lim) (hg:c'<n+m)
  (ho:bk ι olds olds') (ho2:olds.size=n*i.size) (ho3:∀ w':World,w'.heap=w.heap->(Builtin.firstCells i.size n (.slice ba' n c')).run P w'=.ok olds' w')
  (hn:bk ι news news') (hn2:news.size=m*i.size) (Kl:news.toList.all oneCell=true) (IV:∀ w':World,w'.heap=w.heap->(Builtin.firstCells i.size m src').run P w'=.ok news' w') (Km:∀ w':World,(Builtin.lenOf src').run P w'=.ok m w')
  (hfr:∀ id,4*s.next<=id->id<4*(s.next+1)->ι id=none) :
  Hp P base ι s { s.put (4*s.next+1) (some (.cells (olds++news) e (0,0))) with next:=s.next+1,log:=lg } w (.slice (some ⟨4*s.next+1,0,none⟩) (n+m) (n+m)) (Builtin.append_ #[t,u] ty #[.slice ba' n c',src']):=by
 have hsrc:Src P i.size u src' m news'.toList w:=by
  refine⟨hu,Km,?_,?_,by rw[Array.length_toList,← hn.1,hn2],yz hn Kl⟩
  ·rw[Array.toArray_toList];exact IV w rfl
  ·rw[Array.toArray_toList];exact IV w.drew rfl
 have hrun:=run_append_grow_src (P:=P) w t u ty e i z ht hi hz ba' n c' olds'.toList (by rw[Array.toArray_toList];exact ho3 w.drew rfl) src' m news'.toList hsrc hg (by omega) (growslice_fits hg hbytes);have hcap:=grownCap_ge w (n+m) c' e;generalize grownCap w (n+m) c' e=cap at hrun hcap;have e1:(olds'.toList++news'.toList).toArray=olds'++news':=by
  apply Array.ext';simp
 rw[e1]at hrun;have hrel:=ho.append hn;have hsz:(olds'++news').size=(n+m)*i.size:=by
  rw[← hrel.1,Array.size_append,ho2,hn2,Nat.add_mul]
 have hzc:(Builtin.zeroCells z.cells (cap-(n+m))).size=(cap-(n+m))*i.size:=by
  simp[Builtin.zeroCells,hzs]
 have hrep:=bY.grown (P:=P) (H:=s.look) (s:=s) (id:=4*s.next+1) (cap:=cap) (c:=olds++news) (c':=olds'++news'++Builtin.zeroCells z.cells (cap-(n+m))) (e:=e) (ti:=i) (w:=w.drew) rfl ⟨hr.inj,hr.there,hr.sz,hr.GF (λ_ _ _ h _=>h) (ib.refl _) rfl (Nat.le_refl _) (λ_ _ _=>rfl) (λx ox bb hx hbb=>.inl ⟨x,ox,hx,hbb⟩)⟩ hlim (hfr _ (by omega) (by omega)) (hfr _ (by omega) (by omega)) (rI _)
  (by rw[hrel.1,Array.size_append (xs:=olds'++news')];omega)
  (λk v v' g1 g2=>by
   have hk:k<(olds'++news').size:=by
    rw[← hrel.1];rcases Nat.lt_or_ge k (olds++news).size with g | g
    ·exact g
    ·rw[Array.getElem?_eq_none g]at g1;cases g1
   rw[Array.getElem?_append_left hk]at g2
   exact hrel.2 k v v' g1 g2)
  hi (by rw[Array.size_append (xs:=olds'++news'),hsz,hzc,← Nat.add_mul];congr 1;omega)
 refine⟨_,_,_,hrun,hrep,?_,?_,?_⟩
 ·intro id hid
  have Ko:id<4*s.next\/4*(s.next+1)<=id:=hid
  unfold ag.upd;rw[if_neg (by omega),if_neg (by omega)]
 ·refine .slice _ 0 _ _ _ _ (by simp[ag.upd]) (λg=>by rw[rI]at g;cases g) (λ_=>⟨hcap,λ_=>?_⟩) (by omega) (Nat.le_refl _)
  simp[ag.upd]
 ·exact((Out.refl base w).drew).alloc hr.sz _
theorem wx{P:Program}{base:Nat->Prop}{ι:ag}{s:St}{w:World}{t u ty e:TypeId}{i:TypeInfo}{id b n c' m:Nat}{src':Value}{a0:Array Value}{f0:Nat×Nat}{olds olds' news news':Array Value}{lg:List Touch}
  (hr:bY P base ι s.look w) (hl:s.look id=some (.cells a0 e f0)) (hb:ι id=some b) (Kp:gG id=true) (hcap:ι (id+1)=some c') (Kq:id<lim)
  (ht:P.underlying t=some (.slice e)) (hu:(∃ e',P.underlying u=some (.slice e'))\/P.underlying u=some .string) (hi:P.info? e=some i)
  (hm:0<m) (hlim:4*s.next+1<lim) (hg:n+m<=c')
  (ho:bk ι olds olds') (ho2:olds.size=n*i.size) (ho3:∀ w':World,w'.heap=w.heap->(Builtin.firstCells i.size n (.slice (some ⟨b,0,none⟩) n c')).run P w'=.ok olds' w') (hoe:olds=a0.extract 0 (0+n*i.size))
  (hn:bk ι news news') (hn2:news.size=m*i.size) (Kl:news.toList.all oneCell=true) (IV:∀ w':World,w'.heap=w.heap->(Builtin.firstCells i.size m src').run P w'=.ok news' w') (Km:∀ w':World,(Builtin.lenOf src').run P w'=.ok m w')
  (hfr:∀ id,4*s.next<=id->id<4*(s.next+1)->ι id=none) :
  Hp P base ι s { (s.put id none).put (4*s.next+1) (some (.cells (olds++news) e (0,0))) with next:=s.next+1,log:=lg } w (.slice (some ⟨4*s.next+1,0,none⟩) (n+m) (n+m)) (Builtin.append_ #[t,u] ty #[.slice (some ⟨b,0,none⟩) n c',src']):=by
 obtain⟨b',o',i1,i2,i3,i4⟩:=hr.there id _ hl (hr.real hl hb);rw[hb]at i1;cases i1;obtain⟨hf,cur,rfl,j1,j2,j3,j4⟩:=i3;obtain⟨cap,ti,k1,k2,k3⟩:=j4 Kp;rw[hcap]at k1;cases k1;rw[hi]at k2;cases k2;have hsrc:Src P i.size u src' m news'.toList w:=by
  refine⟨hu,Km,?_,?_,by rw[Array.length_toList,← hn.1,hn2],yz hn Kl⟩
  ·rw[Array.toArray_toList];exact IV w rfl
  ·rw[Array.toArray_toList];exact IV w.drew rfl
 have hnl:news'.toList.length=m*i.size:=by rw[Array.length_toList,← hn.1,hn2]
 have hfit:n*i.size+m*i.size<=cur.size:=by
  rw[k3,← Nat.add_mul];exact Nat.mul_le_mul_right _ hg
 have hrun:=run_append_room_src (P:=P) w t u ty e i ht hi b 0 n c' src' m news'.toList hsrc hg
  (λj hj=>by
   have hlt:0+n*i.size+j<cur.size:=by omega
   simp only[World.cell?,i2,Array.getElem?_eq_getElem hlt]
   rfl)
  (λj hj=>by simp[World.frozen?,i2])
 obtain⟨Kr,s1,s2,s3,s4⟩:=kD (b:=b) news'.toList (0+n*i.size) w cur i2;have IW:ι (4*s.next+1)=none:=hfr _ (by omega) (by omega);have IX:ι (4*s.next+1+1)=none:=hfr _ (by omega) (by omega);have hle1:ib ι (ι.upd (4*s.next+1+1) c'):=ag.dT IX;have hle2:ib (ι.upd (4*s.next+1+1) c') ((ι.upd (4*s.next+1+1) c').upd (4*s.next+1) b):=ag.dT (by unfold ag.upd;rw[if_neg (by omega)];exact IW);have hle:=hle1.trans hle2;have hrel:=ho.append hn;have hne:id≠4*s.next+1:=by intro e;rw[e,IW]at hb;cases hb
 have lives:∀ x ox,x≠4*s.next+1->((s.put id none).put (4*s.next+1) (some (.cells (olds++news) e (0,0)))).look x=some ox->x≠id/\s.look x=some ox:=by
  intro x ox hx h;rw[St.aU _ _ _ _ hx]at h
  by_cases ex:x=id
  ·subst ex;rw[St.bA _ _ _ Kq]at h;cases h
  ·rw[St.aU _ _ _ _ ex]at h;exact⟨ex,h⟩
 have back:∀ x ox bb,s.look x=some ox->((ι.upd (4*s.next+1+1) c').upd (4*s.next+1) b) x=some bb->ι x=some bb:=by
  intro x ox bb hx h;cases hgo:ob ox with
  | none =>
   obtain⟨b2,o2,g1,_⟩:=hr.there x ox hx hgo;have:=hle _ _ g1;rw[h]at this;cases this;exact g1
  | some gg =>
   obtain⟨e3,_⟩:=hr.gh _ ox gg hx hgo;subst e3;unfold ag.upd at h;rw[if_neg (by omega),if_neg (by omega)]at h;exact h
 have hrep:bY P base ((ι.upd (4*s.next+1+1) c').upd (4*s.next+1) b) ((s.put id none).put (4*s.next+1) (some (.cells (olds++news) e (0,0)))).look (w.setCells b (0+n*i.size) news'.toList):=by
  refine⟨?_,?_,by rw[setCells_size];exact hr.sz,hr.GF (λx ox g hx hg=>?_) hle (by unfold ag.upd;rw[if_neg (by omega),if_neg (by omega)]) (by rw[setCells_size];exact Nat.le_refl _) (λj hj _=>eo _ _ _ _ (hj id _ b hl hb)) (λx ox bb hx hbb=>?_)⟩
  rotate_left 2
  ·by_cases ex:x=4*s.next+1
   ·subst ex
    rw[St.bA _ _ _ hlim]at hx;cases hx;cases hg
   ·exact(lives x ox ex hx).2
  ·by_cases ex:x=4*s.next+1
   ·subst ex
    simp only[ag.upd,if_true,Option.some.injEq]at hbb;subst hbb;exact .inl ⟨id,_,hl,hb⟩
   ·exact .inl ⟨x,ox,(lives x ox ex hx).2,back x ox bb (lives x ox ex hx).2 hbb⟩
  ·intro x y ox oy bb hx hy g1 g2
   by_cases ex:x=4*s.next+1
   ·by_cases ey:y=4*s.next+1
    ·rw[ex,ey]
    ·exfalso
     obtain⟨y1,y2⟩:=lives y oy ey hy;have:=back y oy bb y2 g2;subst ex;simp only[ag.upd,if_true,Option.some.injEq]at g1;subst g1;exact y1 (hr.inj y id oy _ b y2 hl this hb)
   ·obtain⟨x1,x2⟩:=lives x ox ex hx
    have hx3:=back x ox bb x2 g1
    by_cases ey:y=4*s.next+1
    ·exfalso
     subst ey;simp only[ag.upd,if_true,Option.some.injEq]at g2;subst g2;exact x1 (hr.inj x id ox _ b x2 hl hx3 hb)
    ·obtain⟨y1,y2⟩:=lives y oy ey hy
     exact hr.inj x y ox oy bb x2 y2 hx3 (back y oy bb y2 g2)
  ·intro x ox hx hrl
   by_cases ex:x=4*s.next+1
   ·subst ex
    rw[St.bA _ _ _ hlim]at hx;cases hx;refine⟨b,_,by simp[ag.upd],s1,⟨rfl,Kr,rfl,?_,(λg=>by rw[rI]at g;cases g),?_,λ_=>⟨c',i,by simp[ag.upd],hi,by rw[s2];exact k3⟩⟩,i4⟩
    ·rw[s2,Array.size_append,ho2,hn2];exact hfit
    ·intro k v v' g1 g2
     by_cases hk:k<olds.size
     ·rw[Array.getElem?_append_left hk]at g1
      rw[s3 k (by omega)]at g2;rw[hoe,Array.getElem?_extract]at g1
      split at g1
      ·rw[Nat.zero_add]at g1
       exact(j3 k v v' g1 g2).mono hle
      ·cases g1
     ·rw[Array.getElem?_append_right (Nat.le_of_not_lt hk)]at g1
      have hkn:k-olds.size<news.size:=by
       rcases Nat.lt_or_ge (k-olds.size) news.size with g | g
       ·exact g
       ·rw[Array.getElem?_eq_none g]at g1;cases g1
      rcases hn.get (k-olds.size) with ⟨e1,e2⟩ | ⟨x,x',e1,e2,hx⟩
      ·rw[g1]at e1;cases e1
      ·rw[g1]at e1
       cases e1;have:=s4 (k-olds.size) x' (by rw[Array.getElem?_toList];exact e2) (by omega);rw[show 0+n*i.size+(k-olds.size)=k by omega,g2]at this;cases this;exact hx.mono hle
   ·obtain⟨x1,x2⟩:=lives x ox ex hx
    obtain⟨b2,o2,g1,g2,g3,g4⟩:=hr.there x ox x2 hrl;have hbb:b2≠b:=by
     intro eb;subst eb;exact x1 (hr.inj x id ox _ b2 x2 hl g1 hb)
    exact⟨b2,o2,hle _ _ g1,by rw[eo _ _ _ _ hbb];exact g2,g3.mono hle,g4⟩
 refine⟨_,_,_,hrun,hrep,?_,?_,du i4 _ _ _⟩
 ·intro x hx
  have hx':x<4*s.next\/4*(s.next+1)<=x:=hx
  unfold ag.upd;rw[if_neg (by omega),if_neg (by omega)]
 ·refine .slice _ 0 _ _ _ _ (by simp[ag.upd]) (λg=>by rw[rI]at g;cases g) (λ_=>⟨hg,λ_=>?_⟩) (by omega) (Nat.le_refl _)
  simp[ag.upd]
theorem uf{P:Program}{ι:ag}{x x':Value}{sz:Nat}{u:TypeId}{w:World}(hx:aw ι x x')(hl:dw x=some 0)(hu:(∃ e',P.underlying u=some (.slice e'))\/P.underlying u=some .string):Src P sz u x' 0 [] w:=by
 have key:(∀ w':World,(Builtin.lenOf x').run P w'=.ok 0 w')/\∀ w':World,(Builtin.firstCells sz 0 x').run P w'=.ok #[] w':=by
  cases hx with
  | cz=>exact⟨λ_=>rfl,λ_=>rfl⟩
  | slice id off b n c c' h h0 h1 h2 h3 =>
   simp only[dw,Option.some.injEq]at hl;subst hl;exact⟨λ_=>rfl,λw'=>by simpa using run_firstCells_some (P:=P) w' sz 0 ⟨b,off,none⟩ 0 c' [] (by simp) (λj u hu=>by simp at hu)⟩
  | cD id off b h h0=>exact⟨λ_=>rfl,λw'=>by simpa using run_firstCells_some (P:=P) w' sz 0 ⟨b,off,none⟩ 0 0 [] (by simp) (λj u hu=>by simp at hu)⟩
  | string s =>
   simp only[dw,Option.some.injEq]at hl;refine⟨λw'=>by rw[← hl];rfl,λw'=>?_⟩;simp[Builtin.firstCells]
  | _=>cases hl
 exact⟨hu,key.1,by simpa using key.2 w,by simpa using key.2 w.drew,by simp,λ_ h=>by cases h⟩
theorem qe{P:Program}{base:Nat->Prop}{ι:ag}{s s1:St}{w:World}{t u ty:TypeId}{dst dst' src src' v:Value}(hr:bY P base ι s.look w)(hd:aw ι dst dst')(hx:aw ι src src')
  (ha:b7 P s t u dst src=some (v,s1)) (hfr:∀ id,4*s.next<=id->id<4*s1.next->ι id=none):Hp P base ι s s1 w v (Builtin.append_ #[t,u] ty #[dst',src']):=by
 unfold b7 at ha
 split at ha
 ·rename_i e m ba n c ht hm
  split at ha
  ·rename_i i hi
   split at ha
   ·rename_i z hz hu0
    have hu:(∃ e',P.underlying u=some (.slice e'))\/P.underlying u=some .string:=by
     split at hu0
     ·rename_i e' he;exact .inl ⟨e',he⟩
     ·rename_i he;exact .inr he
     ·cases hu0
    split at ha
    ·rename_i hm0
     subst hm0;cases ha;have hsrc:=uf (P:=P) (sz:=i.size) (w:=w) hx hm hu;have hdd:∃ ba' c',dst'=.slice ba' n c'/\n<=c':=by
      cases hd with
      | cz=>exact⟨none,0,rfl,Nat.le_refl _⟩
      | slice id off b _ _ c' h h0 h1 h2 h3 =>
       refine⟨_,c',rfl,?_⟩;cases hg:gG id with
       | false=>rw[← h0 hg];exact h3
       | true=>exact Nat.le_trans h3 (h1 hg).1
      | cD id off b h h0=>exact⟨_,0,rfl,Nat.le_refl _⟩
     obtain⟨ba',c',rfl,hle⟩:=hdd;exact⟨ι,_,w,run_append_nothing w t u ty e i ht hi ba' n c' hle src' hsrc,hr,λ_ _=>rfl,hd,Out.refl _ _⟩
    ·rename_i hm0
     split at ha
     ·rename_i hc
      obtain⟨hc1,hc2,hc3,hc4,J6,hc6⟩:=hc
      split at ha
      ·rename_i news l1 olds l2 hnw hol
       obtain⟨news',n1,n2,n3,n4,n5⟩:=ep hr hx hnw hm;dsimp only at ha;cases ba with
       | none =>
        dsimp only at ha;cases ha;cases hd with
        | cz =>
         obtain⟨olds',o1,o2,o3,o4,o5⟩:=ep hr (aw.cz (ι:=ι)) hol rfl;exact iO hr ht hu hi hz J6 hc1 hc2 (by omega) hc3 (by omega) o1 o2 o4 n1 n2 n3 n4 n5 (λid h1 h2=>hfr id h1 h2)
       | some a =>
        dsimp only at ha
        split at ha
        ·rename_i hg
         split at ha
         ·rename_i a1 e0 f0 hoff hl
          split at ha
          ·rename_i he
           obtain⟨rfl,hal⟩:=he;cases ha;have hdv:=hd;cases hd with
           | slice id off b _ _ c' hb h0 h1 h2 h3 =>
            dsimp only at hoff hl hg hal;subst hoff;obtain⟨olds',o1,o2,o3,o4,o5⟩:=ep hr hdv hol rfl
            by_cases hroom:n+m<=c'
            ·have hoe:olds=a1.extract 0 (0+n*i.size):=by
              simp only[bg,hl]at hol
              split at hol
              ·cases hol;rfl
              ·cases hol
             exact wx hr hl hb hg ((h1 hg).2 rfl) hal ht hu hi (by omega) hc3 hroom o1 o2 o4 hoe n1 n2 n3 n4 n5 (λid h1 h2=>hfr id h1 h2)
            ·obtain⟨κ,v',w1,r1,r2,r3,r4,r5⟩:=iO (s:=s.put id none) (lg:=⟨4*s.next+1,none,true⟩::⟨id,none,true⟩::(l1++(l2++s.log))) (ty:=ty) (bY.drop hr hal) ht hu hi hz J6 hc1 hc2 (by omega) hc3 (by omega) o1 o2 o4 n1 n2 n3 n4 n5 (λid h1 h2=>hfr id h1 h2)
             exact⟨κ,v',w1,r1,r2,r3,r4,r5⟩
           | cD id off b hb h0=>rw[h0]at hg;cases hg
          ·cases ha
         ·cases ha
        ·rename_i hg
         split at ha
         ·rename_i hroom
          cases ha;have hdv:=hd;obtain⟨olds',o1,o2,o3,o4,o5⟩:=ep hr hdv hol rfl;cases hd with
          | slice id off b _ _ c' hb h0 h1 h2 h3 =>
           have:c=c':=h0 (by simpa using hg);exact iO hr ht hu hi hz J6 hc1 hc2 (by omega) hc3 (by omega) o1 o2 o4 n1 n2 n3 n4 n5 (λid h1 h2=>hfr id h1 h2)
          | cD id off b hb h0=>exact iO hr ht hu hi hz J6 hc1 hc2 (by omega) hc3 (by omega) o1 o2 o4 n1 n2 n3 n4 n5 (λid h1 h2=>hfr id h1 h2)
         ·cases ha
      ·cases ha
     ·cases ha
   ·cases ha
  ·cases ha
 ·cases ha
def rJ(P:Program)(u:TypeId)(d x:Value):Bool :=
 match d,dw x,P.underlying u with
 | .slice (some a) n c,some m,some (.slice _)=>!gG a.block&&decide (n+m<=c)
 | .slice (some a) n c,some m,some .string=>!gG a.block&&decide (n+m<=c)
 | _,_,_=>false
theorem wy{ι:ag}{x x':Value}{m:Nat}(h:aw ι x x')(hm:dw x=some m):dw x'=some m:=by
 cases h<;>first | exact hm | cases hm
theorem rK{P:Program}{base:Nat->Prop}{ι:ag}{d d' x x':Value}(t u ty:TypeId)(hd:aw ι d d')(hx:aw ι x x')(h:rJ P u d x=true) :
  aA P base VV ι (Builtin.append_ #[t,u] ty #[d,x]) (Builtin.append_ #[t,u] ty #[d',x']):=by
 have hh:∃ a n c m,d=.slice (some a) n c/\dw x=some m/\gG a.block=false/\n+m<=c/\((∃ e,P.underlying u=some (.slice e))\/P.underlying u=some .string):=by
  unfold rJ at h
  split at h
  ·rename_i a n c m e hm hu
   simp only[Bool.and_eq_true,Bool.not_eq_true',decide_eq_true_eq]at h;exact⟨a,n,c,m,rfl,hm,h.1,h.2,.inl ⟨e,hu⟩⟩
  ·rename_i a n c m hm hu
   simp only[Bool.and_eq_true,Bool.not_eq_true',decide_eq_true_eq]at h;exact⟨a,n,c,m,rfl,hm,h.1,h.2,.inr hu⟩
  ·cases h
 obtain⟨a,n,c,m,rfl,hm,hg,hroom,hu⟩:=hh;have IY:∀ x,dw x=some m->Builtin.lenOf x=pure m:=by
  intro x hx;cases x<;>first | (cases hx;done) | (simp only[dw,Option.some.injEq]at hx;subst hx;rfl)
 have main:∀ (id off b:Nat),ι id=some b->aw ι (.slice (some ⟨id,off,none⟩) n c) (.slice (some ⟨b,off,none⟩) n c)->aA P base VV ι (Builtin.append_ #[t,u] ty #[.slice (some ⟨id,off,none⟩) n c,x]) (Builtin.append_ #[t,u] ty #[.slice (some ⟨b,off,none⟩) n c,x']):=by
  intro id off b hb hself;unfold Builtin.append_;simp only[List.getElem?_toArray,List.getElem?_cons_zero,List.getElem?_cons_succ];refine aA.bnd (aN t) (λκ a a' hle ha=>?_);obtain⟨rfl,h2⟩:=ha;cases a' with
  | slice elem =>
   dsimp only;refine aA.bnd (cj elem) (λκ2 sz sz' hle2 hs=>?_);subst hs;refine aA.bnd (aN u) (λNd y y' IZ hy=>?_);obtain⟨rfl,hy⟩:=hy;refine aA.bnd (R:=λ_ z z'=>z=false/\z'=false) (aA.ret ?_) (λκ3 z z' hle3 hz=>?_)
   ·rcases hu with ⟨e,hu⟩ | hu
    ·rw[hu]at hy;cases hy;exact⟨rfl,rfl⟩
    ·rw[hu]at hy;cases hy;exact⟨rfl,rfl⟩
   ·obtain⟨rfl,rfl⟩:=hz
    simp only[Bool.false_eq_true,if_false,Bool.not_false,if_true];rw[IY x hm,IY x' (wy hx hm)];refine aA.bnd (R:=λ_ l l'=>l=m/\l'=m) (aA.ret ⟨rfl,rfl⟩) (λκ4 l l' eR hl=>?_);obtain⟨rfl,rfl⟩:=hl;simp only[hroom,if_true];have hle3:=ib.trans IZ hle3;have hx4:=(((hx.mono hle).mono hle2).mono hle3).mono eR;refine aA.bnd (jt sz' l' hx4) (λκ5 cs cs' lO hc=>?_);rw[Addr.d_,Addr.d_];refine aA.bnd (gj _ _ 0 κ5 (lO _ _ (eR _ _ (hle3 _ _ (hle2 _ _ (hle _ _ hb))))) hc.list) (λκ6 _ _ I0 _=>aA.ret ?_);have Ne:=(((((hself.mono hle).mono hle2).mono hle3).mono eR).mono lO).mono I0;cases Ne with
    | slice _ _ _ _ _ _ q0 q1 q2 q3 q4=>exact .slice _ _ _ _ _ _ q0 q1 q2 q3 hroom
    | cD _ _ _ q0 q1 =>
     have:0+l'=0:=by omega
     rw[this];exact .cD _ _ _ q0 q1
  | _=>exact aA.halt
 cases hd with
 | slice id off b _ _ c' hb h0 h1 h2 h3 =>
  have hc:c=c':=h0 hg;subst hc;exact main id off b hb (.slice id off b n c c hb h0 h1 h2 h3)
 | cD id off b hb h0=>exact main id off b hb (.cD id off b hb h0)
end Go.Ev
namespace Go.Ev
open Go.RowKit
variable[aL]
theorem EQ{P:Program}{base:Nat->Prop}{ι:ag}{x x':Value}(t ty:TypeId)(hx:aw ι x x'):aA P base VV ι (Builtin.len_ #[t] ty #[x]) (Builtin.len_ #[t] ty #[x']):=by
 unfold Builtin.len_;simp only[List.getElem?_toArray,List.getElem?_cons_zero,List.getElem?_cons_succ];refine aA.bnd (aN t) (λκ d d' hle hd=>?_);obtain⟨rfl,h2⟩:=hd;have hx2:=hx.mono hle;cases d' with
 | string=>cases hx2<;>first | exact aA.ret (.int _ _) | exact aA.halt
 | array n e=>exact aA.ret (.int _ _)
 | slice e=>cases hx2<;>first | exact aA.ret (.int _ _) | exact aA.halt
 | map k e =>
  cases hx2 with
  | kU=>exact aA.ret (.int _ _)
  | map id b hb =>
   dsimp only;refine aA.bnd (R:=λκ (o o':Obj)=>fF P κ id o o') (aA.getObj hb (λo o' ho _=>aA.pure ho)) (λκ2 o o' hle2 ho=>?_);cases o with
   | map es n =>
    obtain⟨es',rfl,he⟩:=ho;dsimp only;rw[← he.1];exact aA.ret (.int _ _)
   | _=>exact aA.halt
  | _=>exact aA.halt
 | pointer arr =>
  dsimp only;refine aA.bnd (aN arr) (λκ2 d d' hle2 hd=>?_);obtain⟨rfl,h3⟩:=hd;cases d'<;>first | exact aA.ret (.int _ _) | exact aA.halt
 | chan a b=>cases hx2<;>exact aA.halt
 | _=>exact aA.halt
def yA:Value->Bool
 | .slice none _ _=>true
 | .slice (some a) _ _=>!gG a.block
 | _=>false
theorem ER{P:Program}{base:Nat->Prop}{ι:ag}{x x':Value}(t ty:TypeId)(hx:aw ι x x')(hc:yA x=true):aA P base VV ι (Builtin.cap_ #[t] ty #[x]) (Builtin.cap_ #[t] ty #[x']):=by
 unfold Builtin.cap_;simp only[List.getElem?_toArray,List.getElem?_cons_zero,List.getElem?_cons_succ];refine aA.bnd (aN t) (λκ d d' hle hd=>?_);obtain⟨rfl,h2⟩:=hd;have hx2:=hx.mono hle;cases d' with
 | array n e=>exact aA.ret (.int _ _)
 | slice e =>
  cases hx2 with
  | slice id off b n c c' h h0 h1 h2 h3 =>
   have hg:gG id=false:=by simpa[yA] using hc
   rw[h0 hg];exact aA.ret (.int _ _)
  | cz=>exact aA.ret (.int _ _)
  | cD id off b h h0=>exact aA.ret (.int _ _)
  | _=>exact aA.halt
 | pointer arr =>
  dsimp only;refine aA.bnd (aN arr) (λκ2 d d' hle2 hd=>?_);obtain⟨rfl,h3⟩:=hd;cases d'<;>first | exact aA.ret (.int _ _) | exact aA.halt
 | chan a b=>cases hx2<;>exact aA.halt
 | _=>exact aA.halt
theorem aA.none{α β:Type}{P:Program}{base:Nat->Prop}{R:ag->α->β->Prop}{ι:ag}{m:Sem α}{m':Sem β}(h:∀ s,aC P m s=Option.none):aA P base R ι m m':=by
 intro s w a s1 hr ha;rw[h]at ha;cases ha
theorem fH{α β:Type}{P:Program}(m:Sem α)(f:α->Sem β)(h:∀ s,aC P m s=Option.none)(s:St):aC P (m >>= f) s=Option.none:=by
 show aC P (m.bind f) s=Option.none;rw[j6,h];rfl
theorem ug{P:Program}{base:Nat->Prop}{ι:ag}(n:Nat):aA P base (λ_ _ _=>True) ι (Go.askRoom n) (Go.askRoom n):=by
 unfold Go.askRoom
 split
 ·exact aA.mark (aA.pure trivial)
 ·exact aA.ret trivial
theorem qf{P:Program}{base:Nat->Prop}{ι:ag}{l l' c c':Value}(t:TypeId)(hz:qa P (fP P t)=true)(hq:t_ P (fP P t)=true)(hl:aw ι l l')(hc:aw ι c c'):aA P base VV ι (Instr.makeSlice t l c) (Instr.makeSlice t l' c'):=by
  unfold Instr.makeSlice;refine aA.bnd (aN t) (λκ d d' hle hd=>?_);obtain⟨rfl,h2⟩:=hd;cases d' with
  | slice elem =>
    dsimp only;have he:fP P t=elem:=by simp[fP,h2]
    rw[he]at hz hq;refine aA.bnd (mS (hl.mono hle)) (λκ2 a a' hle2 ha=>?_);subst ha;refine aA.bnd (mS ((hc.mono hle).mono hle2)) (λκ3 b b' hle3 hb=>?_);subst hb;refine aA.bnd (c8 elem) (λκ4 i i' eR hi=>?_);obtain⟨rfl,hi2⟩:=hi;have fin:∀ (κ:ag) (zero gk:Array Value) (n L C:Nat),bk κ zero gk->(n=0\/0<zero.size)->L<=C->aA P base VV κ
        (do let a ← Go.newRow elem ((Array.range n).map (zero[· % zero.size]!))
            pure (Value.slice (some a) L C))
        (do let a ← Go.newRow elem ((Array.range n).map (gk[· % gk.size]!))
            pure (Value.slice (some a) L C)):=by
      intro κ zero gk n L C Kj hpos Nf;refine aA.bnd (kV elem (Kj.zeros n hpos)) (λκ4 a a' eR ha=>?_);obtain⟨id,b,rfl,rfl,hb,hg⟩:=ha
      by_cases hC:0<C
      · exact aA.ret (.slice id 0 b L C C hb (λ_=>rfl) (λg=>by rw[hg]at g;cases g) hC Nf)
      · obtain⟨rfl,rfl⟩:C=0/\L=0:=by omega
        exact aA.ret (.cD id 0 b hb hg)
    split
    · split
      · exact aA.none (λs=>fH _ _ (λs=>kX _ s) s)
      · split
        · exact aA.none (λs=>fH _ _ (λs=>kX _ s) s)
        · exact aA.none (λs=>fH _ _ (λs=>rfl) s)
    · rename_i hcond
      simp only[Bool.or_eq_true,decide_eq_true_eq,not_or]at hcond;refine aA.bnd (ug _) (λκ5 _ _ lO _=>?_);refine aA.bnd (cj elem) (λκ6 sz sz' I0 hs=>?_);subst hs
      split
      · rename_i h0
        refine aA.bnd (R:=λ_ p p'=>p = #[]/\p' = #[]) (aA.ret ⟨rfl,rfl⟩) (λκ7 z z' Ks Ng=>?_);obtain⟨rfl,rfl⟩:=Ng;exact fin κ7 #[] #[] _ _ _ (bk.empty κ7) (.inl h0) (by omega)
      · refine aA.bnd (nP elem hz hq) (λκ7 v v' Ks hv=>?_)
        obtain⟨rfl,hv,hpos⟩:=hv;refine aA.bnd (R:=λκ p p'=>bk κ p p'/\0<p.size) (aA.ret ⟨eQ hv,hpos⟩) (λκ8 z z' Nh MU=>?_);exact fin κ8 z z' _ _ _ MU.1 (.inr MU.2) (by omega)
  | _=>exact aA.halt
def sv(r:Option (Value×St)):Option (Next×St):=r.map λ(v,s)=>(.value v,s)
def su{α:Type}(r:Option (α×St)):Option (Next×St):=r.map λ(_,s)=>(.skip,s)
theorem eU.cL{P:Program}{base:Nat->Prop}{ι:ag}{s s1:St}{w:World}{n:Next}{m m':Sem Value}(h:aA P base VV ι m m')(hr:bY P base ι s.look w)(ha:sv (aC P m s)=some (n,s1))
    (hfr:∀ id,4*s.next<=id->id<4*s1.next->ι id=none):eU P base ι s s1 w n (do pure (.value (← m'))):=by
  unfold sv at ha;rw[Option.map_eq_some_iff]at ha;obtain⟨⟨v,s2⟩,h1,h2⟩:=ha;cases h2;obtain⟨κ,v',w1,r1,r2,r3,r4,r5⟩:=h s w v s1 hr h1 hfr;exact⟨κ,.value v',w1,by rw[Sem.run_bind,r1];rfl,r2,r3,r4,r5⟩
theorem eU.ES{P:Program}{base:Nat->Prop}{ι:ag}{s s1:St}{w:World}{n:Next}{m m':Sem Unit}(h:aA P base (λ_ _ _=>True) ι m m')(hr:bY P base ι s.look w)(ha:su (aC P m s)=some (n,s1))
    (hfr:∀ id,4*s.next<=id->id<4*s1.next->ι id=none):eU P base ι s s1 w n (do m';pure .skip):=by
  unfold su at ha;rw[Option.map_eq_some_iff]at ha;obtain⟨⟨v,s2⟩,h1,h2⟩:=ha;cases h2;obtain⟨κ,v',w1,r1,r2,r3,r4,r5⟩:=h s w v s1 hr h1 hfr;exact⟨κ,.skip,w1,by rw[Sem.run_bind,r1];rfl,r2,r3,trivial,r5⟩
theorem eU.da{P:Program}{base:Nat->Prop}{ι:ag}{s:St}{w:World}{n n':Next}{m':Sem Next}(hr:bY P base ι s.look w)(h:m'.run P w=.ok n' w)(hn:EN P ι n n'):eU P base ι s s w n m' :=
 ⟨ι,n',w,h,hr,λ_ _=>rfl,hn,Out.refl _ _⟩
def rL(P:Program)(f:FuncId):Bool :=
 match P.funcs[f]? with
 | some fn=>fn.name != "runtime.NumGoroutine" && fn.body.isSome
 | none=>false
theorem iP{P:Program}{f:FuncId}(h:rL P f=true)(args:Array Value)(w:World):(Go.callFunc f args).run P w=.ok (.enter f args) w:=by
 unfold rL at h
 split at h
 ·rename_i fn hf
  simp only[Bool.and_eq_true,bne_iff_ne,ne_eq]at h;unfold Go.callFunc;show(match P.funcs[f]? with | none=>Go.stuck "call: no such function" | some fn=>_:Sem Next).run P w=_;rw[hf];dsimp only;have h1:(fn.name == "runtime.NumGoroutine")=false:=by simpa using h.1
  have h2:fn.body.isNone=false:=by
   cases hb:fn.body with
   | none=>rw[hb]at h;cases h.2
   | some x=>rfl
  rw[if_neg (by rw[h1];decide),if_neg (by rw[h2];decide)];rfl
 ·cases h
theorem nR{P:Program}{base:Nat->Prop}{ι:ag}{id b:Nat}(hb:ι id=some b):aA P base (λκ (o o':Obj)=>fF P κ id o o') ι (Go.getObj id) (Go.getObj b) :=
 aA.getObj hb (λo o' ho _=>aA.pure ho)
theorem gN{P:Program}{base:Nat->Prop}{ι:ag}{id b:Nat}{o o':Obj}(hb:ι id=some b)(ho:fF P ι id o o')(hc:∀ c e f,o≠.cells c e f):aA P base (λ_ _ _=>True) ι (Go.setObj id o) (Go.setObj b o') :=
 aA.setObj hb ho hc (aA.pure trivial)
theorem fj{P:Program}{base:Nat->Prop}{ι:ag}{id b:Nat}(hb:ι id=some b):aA P base (λκ r r'=>lN P κ r r') ι (Instr.getLoop id) (Instr.getLoop b):=by
 unfold Instr.getLoop;refine aA.bnd (nR hb) (λκ o o' hle ho=>?_);cases o with
 | loop l =>
  obtain⟨l',rfl,hl⟩:=ho;exact aA.ret hl
 | _=>exact aA.halt
theorem Bm{ι:ag} : ∀ (ps:List Tmp) (l l':List Value) (t t':Array Value),l.length=l'.length->(∀ (i:Nat) (v v':Value),l[i]? = some v->l'[i]? = some v'->aw ι v v')->bk ι t t'->
  bk ι ((ps.zip l).foldl (λt (x:Tmp×Value)=>t.setIfInBounds x.1 x.2) t) ((ps.zip l').foldl (λt (x:Tmp×Value)=>t.setIfInBounds x.1 x.2) t'):=by
 intro ps
 induction ps with
 | nil=>intro l l' t t' _ _ h;exact h
 | cons p ps ih =>
  intro l l' t t' hl hv h;cases l with
  | nil =>
   cases l' with
   | nil=>exact h
   | cons v' l'=>cases hl
  | cons v l =>
   cases l' with
   | nil=>cases hl
   | cons v' l' =>
    rw[List.zip_cons_cons,List.zip_cons_cons,List.foldl_cons,List.foldl_cons];exact ih l l' _ _ (by simpa using hl) (λi x x' a b=>hv (i+1) x x' a b) (eT h (hv 0 v v' rfl rfl) p)
theorem z9{P:Program}{base:Nat->Prop}{ι:ag}{id b:Nat}{args args':Array Value}(hb:ι id=some b)(ha:bk ι args args'):aA P base (EN P) ι (Instr.yield id args) (Instr.yield b args'):=by
 unfold Instr.yield;refine aA.bnd (fj hb) (λκ r r' hle hr=>?_);rw[← hr.params,← ha.1]
 split
 ·exact aA.halt
 ·refine aA.ret ⟨hle _ _ hb,?_,hr.assign,hr.body,hr.ok1,hr.zT⟩
  have e:∀ (ps:Array Tmp) (l:Array Value) (t:Array Value),(ps.zip l).foldl (λtmps (x:Tmp×Value)=>tmps.setIfInBounds x.1 x.2) t=(ps.toList.zip l.toList).foldl (λtmps (x:Tmp×Value)=>tmps.setIfInBounds x.1 x.2) t:=by
   intro ps l t;rw[← Array.foldl_toList,Array.toList_zip]
  show bk κ ((r.params.zip args).foldl (λtmps (x:Tmp×Value)=>tmps.setIfInBounds x.1 x.2) r.tmps) ((r.params.zip args').foldl (λtmps (x:Tmp×Value)=>tmps.setIfInBounds x.1 x.2) r'.tmps);rw[e,e];have ha2:=ha.mono hle;exact Bm _ _ _ _ _ (by simpa using ha2.1) (λi v v' a b=>ha2.2 i v v' (by simpa using a) (by simpa using b)) hr.tmps
def lS(ι:ag):Option Nat->Option Nat->Prop
 | none,none=>True
 | some l,some b=>ι l=some b
 | _,_=>False
theorem lS.mono{ι κ:ag}(hk:ib ι κ){r r':Option Nat}(h:lS ι r r'):lS κ r r':=by
 cases r<;>cases r'<;>first | exact h | exact hk _ _ h
theorem qg{P:Program}{base:Nat->Prop}{ι:ag}{t t':Array Value}{rd rd':Option Nat}(fn fn':FuncId)(ps:Array Tmp)(assign body:Code)(ht:bk ι t t')(hrd:lS ι rd rd')(ho1:aY P assign)(ho2:aY P body) :
    aA P base (λκ x x'=>κ x.1=some x'.1/\kp κ x.2 x'.2) ι (Instr.enterLoop fn t ps assign body rd) (Instr.enterLoop fn' t' ps assign body rd'):=by
  unfold Instr.enterLoop;have fin:∀ (κ:ag) (d d':Nat) (m m':List Deferred),ib ι κ->κ d=some d'->kp κ m m'->aA P base (λκ x x'=>κ x.1=some x'.1/\kp κ x.2 x'.2) κ
      (do pure (← Go.newObj (.loop { state:=.ready,pending:=none,fn,tmps:=t,params:=ps,assign,body,defers:=d }),m):Sem (Nat×List Deferred))
      (do pure (← Go.newObj (.loop { state:=.ready,pending:=none,fn:=fn',tmps:=t',params:=ps,assign,body,defers:=d' }),m'):Sem (Nat×List Deferred)):=by
    intro κ d d' m m' hle hd hm;exact aA.bnd (kW (P:=P) (base:=base) ⟨_,rfl,rfl,rfl,ht.mono hle,rfl,rfl,rfl,hd,ho1,ho2⟩) (λκ2 a b hle2 hab=>aA.ret ⟨hab,hm.mono hle2⟩)
  cases rd with
  | none =>
    cases rd' with
    | some b=>exact hrd.elim
    | none =>
      dsimp only;refine aA.bnd (kW (P:=P) (base:=base) (o:=.deferred (some [])) (o':=.deferred (some [])) ⟨rfl,.inr rfl⟩) (λκ r r' hle hr=>?_);exact fin κ r r' _ _ hle hr (.cons r r' [] [] hr .nil)
  | some l =>
    cases rd' with
    | none=>exact hrd.elim
    | some b =>
      dsimp only;refine aA.bnd (fj hrd) (λκ r r' hle hr=>?_);exact fin κ _ _ _ _ hle hr.defers .nil
theorem lN.set{P:Program}{ι:ag}{r r':Loop}(h:lN P ι r r')(st:LoopState)(pe:Option Code):lN P ι { r with state:=st,pending:=pe } { r' with state:=st,pending:=pe } :=
 ⟨rfl,rfl,h.tmps,h.params,h.assign,h.body,h.defers,h.ok1,h.zT⟩
theorem oY{P:Program}{base:Nat->Prop}{ι:ag}{id b:Nat}(hb:ι id=some b):aA P base (λ_ _ _=>True) ι (Instr.beginRound id) (Instr.beginRound b):=by
 unfold Instr.beginRound;refine aA.bnd (fj hb) (λκ r r' hle hr=>?_);refine aA.bnd (gN (hle _ _ hb) ⟨_,rfl,⟨rfl,hr.pending,hr.tmps,hr.params,hr.assign,hr.body,hr.defers,hr.ok1,hr.zT⟩⟩ (by intro c e f x;cases x)) (λκ2 _ _ hle2 _=>?_);rw[← hr.state];cases r.state with
 | ready=>exact aA.ret trivial
 | _=>exact aA.panics
theorem rM{P:Program}{base:Nat->Prop}{ι:ag}{id b:Nat}(hb:ι id=some b)(jump:Option Code):aA P base VV ι (Instr.endRound id jump) (Instr.endRound b jump):=by
 unfold Instr.endRound;refine aA.bnd (fj hb) (λκ r r' hle hr=>?_);refine aA.bnd (gN (hle _ _ hb) ⟨_,rfl,hr.set _ _⟩ (by intro c e f x;cases x)) (λκ2 _ _ hle2 _=>?_);exact aA.ret (.bool _)
theorem uh{P:Program}{base:Nat->Prop}{ι:ag}{id b:Nat}(hb:ι id=some b):aA P base (λ_ x y=>y=x) ι (Instr.endLoop id) (Instr.endLoop b):=by
 unfold Instr.endLoop;refine aA.bnd (fj hb) (λκ r r' hle hr=>?_);rw[← hr.state]
 split
 ·exact aA.bnd (R:=λ_ _ _=>False) aA.panics (λκ2 _ _ _ hx=>hx.elim)
 ·refine aA.bnd (gN (hle _ _ hb) ⟨_,rfl,⟨rfl,hr.pending,hr.tmps,hr.params,hr.assign,hr.body,hr.defers,hr.ok1,hr.zT⟩⟩ (by intro c e f x;cases x)) (λκ2 _ _ hle2 _=>?_)
  exact aA.ret hr.pending.symm
theorem mV{P:Program}{base:Nat->Prop}{ι:ag}{id b:Nat}(hb:ι id=some b):aA P base (λ_ x y=>x=[]/\y=[]) ι (Instr.takeDeferred id) (Instr.takeDeferred b):=by
 unfold Instr.takeDeferred;refine aA.bnd (nR hb) (λκ o o' hle ho=>?_);cases o with
 | deferred d =>
  obtain⟨rfl,hd⟩:=ho;rcases hd with rfl | rfl
  ·exact aA.halt
  ·exact aA.bnd (gN (hle _ _ hb) ⟨rfl,.inl rfl⟩ (by intro c e f x;cases x)) (λκ2 _ _ hle2 _=>aA.ret ⟨rfl,rfl⟩)
 | _=>exact aA.halt
end Go.Ev
namespace Go.Ev
open Go.RowKit
variable[aL]
def eu(P:Program)(t:TypeId)(x y:Value):Bool :=
 match P.underlying t,x,y with
 | some (.pointer _),.pointer (some _),.pointer none=>true
 | some (.pointer _),.pointer none,.pointer (some _)=>true
 | some (.interface _),.iface _ _,.nilIface=>true
 | some (.interface _),.nilIface,.iface _ _=>true
 | some (.slice _),.slice (some _) _ _,.slice none 0 0=>true
 | some (.slice _),.slice none 0 0,.slice (some _) _ _=>true
 | some (.map _ _),.map (some _),.map none=>true
 | some (.map _ _),.map none,.map (some _)=>true
 | some (.func _ _ _),.func _ _ _,.nilFunc=>true
 | some (.func _ _ _),.nilFunc,.func _ _ _=>true
 | _,_,_=>false
theorem wA{P:Program}{ι:ag}{t:TypeId}{x y x' y':Value}(hx:aw ι x x')(hy:aw ι y y')(h:eu P t x y=true):eu P t x' y'=true:=by
 unfold eu at h ⊢
 split at h
 all_goals first | (cases h;done) | skip
 all_goals (rename_i hu;cases hx<;>cases hy<;>simp[hu])
theorem wB{P:Program}{t:TypeId}{x y:Value}(h:eu P t x y=true)(n:Nat)(w:World):(Op.equalIn (n+1) t x y).run P w=.ok false w:=by
 unfold eu at h
 split at h
 all_goals first | (cases h;done) | skip
 all_goals
  rename_i hu;unfold Op.equalIn;rw[Sem.run_bind,bG hu];rfl
theorem z_{P:Program}{t:TypeId}{ox oy:Operand}{x y:Value}(h:eu P t x y=true)(w:World) :
    (do eqGuard .eql t ox oy x y;binOp .eql t x y:Sem Value).run P w=.ok (.bool false) w/\(do eqGuard .neq t ox oy x y;binOp .neq t x y:Sem Value).run P w=.ok (.bool true) w:=by
  have he:(Op.equal t x y).run P w=.ok false w:=wB h 9999 w;have hg:∀ op,(eqGuard op t ox oy x y).run P w=.ok () w:=by
    intro op;unfold eu at h
    split at h
    all_goals first | (cases h;done) | skip
    all_goals (unfold eqGuard;split<;>rfl)
  constructor
  · rw[Sem.run_bind,hg]
    show(binOp .eql t x y).run P w=_;have:binOp .eql t x y=(do pure (.bool (← Op.equal t x y)):Sem Value):=by
      unfold eu at h
      split at h
      all_goals first | (cases h;done) | rfl
    rw[this,Sem.run_bind,he];rfl
  · rw[Sem.run_bind,hg]
    show(binOp .neq t x y).run P w=_;have:binOp .neq t x y=(do pure (.bool (!(← Op.equal t x y))):Sem Value):=by
      unfold eu at h
      split at h
      all_goals first | (cases h;done) | rfl
    rw[this,Sem.run_bind,he];rfl
def lT(P:Program)(t:TypeId)(v:Value)(name:String):Option FuncId :=
 match P.info? t with
 | some i =>
  match i.methods.find? (·.name==name) with
  | some m =>
   match m.path.isEmpty,m.func,P.underlying t with
   | true,some (f,true),some (.pointer _)=>some f
   | true,some (f,false),some (.pointer _)=>none
   | true,some (f,false),some _=>some f
   | _,_,_=>none
  | none=>none
 | none=>none
theorem qh{P:Program}{t:TypeId}{i:TypeInfo}(h:P.info? t=some i)(w:World):(Go.typeInfo t).run P w=.ok i w:=by
 unfold Go.typeInfo;show(match P.info? t with | some i=>(Pure.pure i:Sem TypeInfo) | none=>Go.stuck "no such type").run P w=_;rw[h];rfl
theorem wC{P:Program}{t:TypeId}{v:Value}{name:String}{f:FuncId}(h:lT P t v name=some f)(n:Nat)(w:World):(Go.method (n+1) t v name).run P w=.ok (f,v) w:=by
  unfold lT at h
  split at h
  · rename_i i hi
    split at h
    · rename_i m hm
      unfold Go.method;rw[Sem.run_bind,qh hi];dsimp only[Result.andThen];rw[hm];dsimp only;have hp:m.path.isEmpty=true->m.path.toList=[]:=by
        intro e;rw[Array.isEmpty_iff]at e;rw[e]
      split at h
      · rename_i g e hpe hfn hu
        cases h;rw[hp hpe,hfn];show(do let r ← receiverAt t (.val v) true _;pure (f,r):Sem _).run P w=_;unfold receiverAt;rw[Sem.run_bind,Sem.run_bind,bG hu];rfl
      · cases h
      · rename_i g d hne hpe hfn hu
        cases h;rw[hp hpe,hfn];show(do let r ← receiverAt t (.val v) false _;pure (f,r):Sem _).run P w=_;unfold receiverAt;rw[Sem.run_bind,Sem.run_bind,bG hu];dsimp only[Result.andThen];cases d with
        | pointer e=>exact(hne e rfl).elim
        | _=>rfl
      · cases h
    · cases h
  · cases h
def a5(xs:List Operand):Bool:=xs.all aW
def iQ:Op->Bool
 | .binOp _ _ _ _ _ | .unOp _ _ _ | .convert _ _ _=>true
 | .call { callee:=.builtin .min,.. } | .call { callee:=.builtin .max,.. }=>true
 | _=>false
def ew(P:Program)(a:Act)(o:Oper)(s:St):Option (Next×St) :=
 if iQ o.op&&o.op.operands.toList.all (λx=>aW x&&bz 5 (a.eval x)) then
  match gi P (execOp a.eval o) with
  | some (.value v)=>if bz 5 v then some (.value v,s) else none
  | _=>none
 else none
def Bn(op:BinOp)(x y:Value)(s:St):Option (Next×St):=(aL.bin op x y).map λr=>(.value r,s)
def Bo(op:UnOp)(x:Value)(s:St):Option (Next×St):=(aL.J2 op x).map λr=>(.value r,s)
theorem oZ{ι:ag}{x x':Value}(h:aw ι x x')(hs:dp x=true):x'=lK aL.val x:=by
 cases h with
 | sym n m _ hh=>exact hh.symm
 | _=>first | rfl | cases hs | (simp[dp]at hs)
theorem oj{ι:ag}{r:Value}(hs:dp r=true):aw ι r (lK aL.val r):=by
 cases r with
 | bool b=>exact .bool b
 | int k n=>exact .int k n
 | float k n=>exact .float k n
 | string b=>exact .string b
 | complex k n m =>
  cases k with
  | f64=>exact .sym n m _ rfl
  | f32=>cases hs
 | pointer a =>
  cases a with
  | none=>exact .lM
  | some a=>cases hs
 | slice a n c =>
  cases a with
  | some a=>cases hs
  | none =>
   cases n with
   | succ n=>simp[dp]at hs
   | zero =>
    cases c with
    | zero=>exact .cz
    | succ c=>simp[dp]at hs
 | map a =>
  cases a with
  | none=>exact .kU
  | some a=>cases hs
 | nilFunc=>exact .nilFunc
 | nilIface=>exact .nilIface
 | _=>cases hs
def wD(P:Program)(t u:TypeId)(x:Value)(s:St):Option (Next×St) :=
 match P.underlying t,P.underlying u with
 | some (.int _),some (.int k)=>(aL.J3 k x).map λr=>(.value r,s)
 | _,_=>none
def evs(a:Act)(xs:Array Operand):Array Value:=xs.map a.eval
def Hq(a:Act)(ps:Array (Nat×Operand)):Array (Nat×Value):=ps.map λ(i,x)=>(i,a.eval x)
def kE(P:Program)(a:Act)(c:Call)(ty:TypeId)(s:St):Option (Next×St) :=
 if a5 c.operands.toList then
  match c.callee with
  | .value f =>
   match a.eval f with
   | .func (.func g) first captured=>if rL P g then some (.enter g ((first++evs a c.args)++captured),s) else none
   | .func (.yield l) first captured=>if first.isEmpty&&captured.isEmpty then aC P (Instr.yield l (evs a c.args)) s else none
   | _=>none
  | .invoke r name =>
   match a.eval r with
   | .iface t v=>(match lT P t v name with | some f=>if rL P f then some (.enter f (#[v]++evs a c.args),s) else none | none=>none)
   | _=>none
  | .builtin b =>
   match b,c.args.toList,c.argTypes.toList with
   | .len,[x],[t]=>sv (aC P (Builtin.len_ #[t] ty #[a.eval x]) s)
   | .cap,[x],[t]=>if yA (a.eval x) then sv (aC P (Builtin.cap_ #[t] ty #[a.eval x]) s) else none
   | .append,[x,y],[t,u]=>if rJ P u (a.eval x) (a.eval y) then sv (aC P (Builtin.append_ #[t,u] ty #[a.eval x,a.eval y]) s) else sv (b7 P s t u (a.eval x) (a.eval y))
   | .copy,[x,y],[t,u]=>sv (aC P (Builtin.copy_ #[t,u] ty #[a.eval x,a.eval y]) s)
   | .delete,[x,y],[t,u]=>(dD P s t (a.eval x) (a.eval y)).map λs1=>(.value (.tuple #[]),s1)
   | _,_,_=>none
 else none
def aS(P:Program)(a:Act)(o:Oper)(s:St):Option (Next×St) :=
 match o.op with
 | .move x | .assign x=>if aW x then some (.value (a.eval x),s) else none
 | .pick c x y =>
  if a5 [c,x,y] then
   match a.eval c with
   | .bool b=>some (.value (if b then a.eval x else a.eval y),s)
   | _=>none
  else none
 | .alloc t=>if qa P t then sv (aC P (Instr.alloc t true (.tuple #[])) s) else none
 | .box t x=>if aW x then sv (aC P (Instr.box t (a.eval x)) s) else none
 | .build t ps=>if qa P t&&a5 (ps.toList.map (·.2)) then sv (aC P (Instr.build t (Hq a ps)) s) else none
 | .buildSlice t n ps=>if qa P (fP P t)&&t_ P (fP P t)&&a5 (ps.toList.map (·.2)) then sv (aC P (Instr.buildSlice t n (Hq a ps)) s) else none
 | .load t x=>if aW x then sv (aC P (Instr.loadAt t (a.eval x)) s) else none
 | .store t x y=>if a5 [x,y] then su (aC P (Instr.storeAt t (a.eval x) (a.eval y)) s) else none
 | .nilCheck x =>
  if aW x then
   match a.eval x with
   | .pointer (some b)=>some (.value (a.eval x),s)
   | .func (.func _) _ _=>some (.value (a.eval x),s)
   | .iface _ _=>some (.value (a.eval x),s)
   | _=>none
  else none
 | .binOp op t x y _ =>
  match ew P a o s with
  | some r=>some r
  | none=>if a5 [x,y] then (if eu P t (a.eval x) (a.eval y) then (match op with | .eql=>some (.value (.bool false),s) | .neq=>some (.value (.bool true),s) | _=>none) else Bn op (a.eval x) (a.eval y) s) else none
 | .unOp op _ x =>
  match ew P a o s with
  | some r=>some r
  | none=>if aW x then Bo op (a.eval x) s else none
 | .convert t u x =>
  match ew P a o s with
  | some r=>some r
  | none=>if aW x then wD P t u (a.eval x) s else none
 | .makeInterface t x=>if aW x then sv (aC P (Instr.makeInterface t (a.eval x)) s) else none
 | .makeFunc (.func f) first captured=>if a5 first.toList&&a5 captured.toList then some (.value (.func (.func f) (evs a first) (evs a captured)),s) else none
 | .makeMap t none=>sv (aC P (Instr.makeMap t none) s)
 | .makeMap t (some x)=>if aW x then sv (aC P (Instr.makeMap t (some (a.eval x))) s) else none
 | .makeSlice t l c=>if qa P (fP P t)&&t_ P (fP P t)&&a5 [l,c] then sv (aC P (Instr.makeSlice t (a.eval l) (a.eval c)) s) else none
 | .slice t x lo hi mx =>
  if zX P t&&aW x&&a5 lo.toList&&a5 hi.toList&&a5 mx.toList&&zW (a.eval x) (mx.map a.eval) then
   match aC P (Instr.sliceAt t (a.eval x) (lo.map a.eval) (hi.map a.eval) (mx.map a.eval)) s with
   | some (v,s1)=>if lP v then some (.value v,s1) else none
   | none=>none
  else none
 | .fieldAddr t x f=>if aW x&&qE P t f then sv (aC P (Instr.fieldAt t (a.eval x) f) s) else none
 | .field t x f=>if aW x then sv (aC P (Instr.field t (a.eval x) f) s) else none
 | .indexAddr t x i=>if a5 [x,i] then sv (aC P (Instr.indexAt t (a.eval x) (a.eval i)) s) else none
 | .index t x i=>if a5 [x,i] then sv (aC P (Instr.index t (a.eval x) (a.eval i)) s) else none
 | .lookup t m k ok=>if a5 [m,k] then sv (gM P s t (a.eval m) (a.eval k) ok) else none
 | .mapUpdate t m k v=>if a5 [m,k,v] then (c9 P s t (a.eval m) (a.eval k) (a.eval v)).map λs1=>(.skip,s1) else none
 | .insert t m k v=>if a5 [m,k,v] then (c9 P s t (a.eval m) (a.eval k) (a.eval v)).map λs1=>(.skip,s1) else none
 | .mapEntry t m k=>if a5 [m,k] then sv (eV P s t (a.eval m) (a.eval k)) else none
 | .entryStore _ m st v=>if a5 [m,st,v] then (fG s (a.eval m) (a.eval st) (a.eval v)).map λs1=>(.skip,s1) else none
 | .range t x=>if aW x then sv (aC P (Instr.range t (a.eval x)) s) else none
 | .next x str=>if aW x then sv (aC P (Instr.next (a.eval x) str o.type) s) else none
 | .entry x=>if aW x then sv (aC P (Instr.entry (a.eval x)) s) else none
 | .typeAssert x t u ok=>if aW x&&(!ok||qa P u) then sv (aC P (Instr.typeAssert (a.eval x) t u ok) s) else none
 | .extract x i=>if aW x then sv (aC P (Instr.extract (a.eval x) i) s) else none
 | .call c=>(match ew P a o s with | some r=>some r | none=>kE P a c o.type s)
 | _=>none
end Go.Ev
