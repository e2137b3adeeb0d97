/- Part of a proof: see the last text. -/
import Derived.Test.YtkmccgombmogmaaGreatZe2
import Derived.Deep.AppendSrc
import Derived.Deep.Upon
import Derived.Orders
set_option linter.unusedSectionVars false
set_option linter.unusedSimpArgs false
set_option linter.unusedVariables false
namespace Go.Ev
open Go.RowKit
variable[bg]
theorem jA{e:TypeId}{b:Nat} : ∀ (vs:List Value) (o:Nat) (w:World) (cur:Array Value),w.heap[b]? = some (.cells cur e (0,0))->
  ∃ cur',(w.setCells b o vs).heap[b]? = some (.cells cur' e (0,0))/\cur'.size=cur.size/\(∀ k,(k<o\/o+vs.length<=k)->cur'[k]? = cur[k]?)/\(∀ j v,vs[j]? = some v->o+j<cur.size->cur'[o+j]? = some v):=by
 intro vs
 induction vs with
 | nil=>intro o w cur h;exact⟨cur,h,rfl,λk _=>rfl,λj v h=>by simp at h⟩
 | cons x r ih =>
  intro o w cur h;obtain⟨cur',h1,h2,h3,h4⟩:=ih (o+1) (w.setCell ⟨b,o,none⟩ x) (cur.setIfInBounds o x) (heap_setCell_same h);refine⟨cur',h1,by simpa using h2,?_,?_⟩
  ·intro k hk
   rw[h3 k (by simp at hk;omega),Array.getElem?_setIfInBounds,if_neg (by simp at hk;omega)]
  ·intro j v hj hlt
   match j with
   | 0 =>
    simp at hj;subst hj;rw[Nat.add_zero,h3 o (by omega),Array.getElem?_setIfInBounds,if_pos rfl,if_pos (by simpa using hlt)]
   | j+1 =>
    have:=h4 j v (by simpa using hj) (by simp;omega);rw[show o+(j+1)=o+1+j by omega];exact this
theorem setCells_size{b:Nat} : ∀ (vs:List Value) (o:Nat) (w:World),(w.setCells b o vs).heap.size=w.heap.size:=by
 intro vs
 induction vs with
 | nil=>intro o w;rfl
 | cons x r ih=>intro o w;rw[show(w.setCells b o (x::r))=((w.setCell ⟨b,o,none⟩ x).setCells b (o+1) r) from rfl,ih];simp[World.setCell]
theorem eK{b:Nat} : ∀ (vs:List Value) (o:Nat) (w:World) (j:Nat),j≠b->(w.setCells b o vs).heap[j]? = w.heap[j]?:=by
 intro vs
 induction vs with
 | nil=>intro o w j hj;rfl
 | cons x r ih =>
  intro o w j hj;rw[show(w.setCells b o (x::r))=((w.setCell ⟨b,o,none⟩ x).setCells b (o+1) r) from rfl,ih _ _ _ hj];exact Below.heap_setCell _ _ _ _ hj
theorem da{base:Nat->Prop}{b:Nat}(hb:¬ base b):∀ (vs:List Value) (o:Nat) (w:World),Out base w (w.setCells b o vs):=by
 intro vs
 induction vs with
 | nil=>intro o w;exact Out.refl _ _
 | cons x r ih=>intro o w;exact((Out.refl base w).setCell (p:=⟨b,o,none⟩) hb x).trans (ih (o+1) _)
def eM:Value->Option Nat
 | .slice _ n _=>some n
 | .string b=>some b.size
 | _=>none
def bO(s:St)(sz:Nat):Value->Option (Array Value×List Touch)
 | .slice none 0 0=>some (#[],[])
 | .slice (some ⟨id,off,none⟩) n _ =>
  match s.look id with
  | some (.cells a _ _)=>if off+n*sz<=a.size/\(a.extract off (off+n*sz)).toList.all oneCell=true then some (a.extract off (off+n*sz),[⟨id,none,false⟩]) else none
  | _=>none
 | .string b=>if sz=1 then some ((byteCells b).toArray,[]) else none
 | _=>none
theorem one_one{v:Value}(h:oneCell v=true):v.oneCell'=true:=by cases v<;>first | rfl | cases h
theorem fO{P:Program}{base:Nat->Prop}{ι:am}{s:St}{w:World}{sz:Nat}{x x':Value}{c:Array Value}{l:List Touch}{n:Nat}(hr:dA P base ι s.look w)(hx:ao ι x x')(h:bO s sz x=some (c,l))(hn:eM x=some n) :
  ∃ c':Array Value,bN ι c c'/\c.size=n*sz/\c.toList.all oneCell=true/\(∀ w':World,w'.heap=w.heap->(Builtin.firstCells sz n x').run P w'=.ok c' w')/\(∀ w':World,(Builtin.lenOf x').run P w'=.ok n w'):=by
 cases hx with
 | dn =>
  simp only[bO,Option.some.injEq,Prod.mk.injEq]at h;simp only[eM,Option.some.injEq]at hn;obtain⟨rfl,rfl⟩:=h;subst hn;exact⟨#[],bN.empty ι,by simp,by simp,λw' _=>rfl,λw'=>rfl⟩
 | string b =>
  simp only[bO]at h;simp only[eM,Option.some.injEq]at hn
  split at h
  ·rename_i hsz
   cases h;subst hn hsz;refine⟨(byteCells b).toArray,bN.of_flat (λi v hv=>?_),by simp[byteCells_length],?_,λw' _=>firstCells_string b w',λw'=>rfl⟩
   ·have:=List.mem_of_getElem? (by simpa using hv:(byteCells b)[i]? = some v)
    obtain⟨q,_,rfl⟩:=List.mem_map.1 this;exact .int _ _
   ·rw[List.all_eq_true]
    intro v hv;obtain⟨q,_,rfl⟩:=List.mem_map.1 (by simpa using hv:v ∈ byteCells b);rfl
  ·cases h
 | slice id off b m cc cc' hb h0 h1 h2 h3 =>
  simp only[eM,Option.some.injEq]at hn;subst hn;simp only[bO]at h;cases hl:s.look id with
  | none=>simp[hl]at h
  | some o =>
   cases o with
   | cells a e f =>
    simp only[hl]at h
    split at h
    ·rename_i hc
     cases h;obtain⟨b',o',i1,i2,i3,i4⟩:=hr.there id _ hl (hr.real hl hb);rw[hb]at i1;cases i1;obtain⟨hf,a',rfl,j1,j2,j3,j4⟩:=i3;have hsz:(a.extract off (off+m*sz)).size=m*sz:=by simp;omega
     have hsz':(a'.extract off (off+m*sz)).size=m*sz:=by simp;omega
     refine⟨a'.extract off (off+m*sz),⟨by rw[hsz,hsz'],λi v v' g1 g2=>?_⟩,hsz,hc.2,λw' hw'=>?_,λw'=>rfl⟩
     ·rw[Array.getElem?_extract]at g1 g2
      split at g1
      ·split at g2
       ·exact j3 _ v v' g1 g2
       ·cases g2
      ·cases g1
     ·have:=run_firstCells_some (P:=P) w' sz m ⟨b,off,none⟩ m cc' (a'.extract off (off+m*sz)).toList (by simp;omega) (λj u hu=>by
       rw[Addr.fL];have hu':(a'.extract off (off+m*sz))[j]? = some u:=by rw[← Array.getElem?_toList];exact hu
       rw[Array.getElem?_extract]at hu'
       split at hu'
       ·simp only[World.cell?,hw',i2]
        exact hu'
       ·cases hu')
      rw[Array.toArray_toList]at this;exact this
    ·cases h
   | _=>simp[hl]at h
 | dz id off b hb h0 =>
  simp only[eM,Option.some.injEq]at hn;subst hn;simp only[bO]at h;cases hl:s.look id with
  | none=>simp[hl]at h
  | some o =>
   cases o with
   | cells a e f =>
    simp only[hl]at h
    split at h
    ·rename_i hc
     cases h;refine⟨#[],⟨by simp;omega,λi v v' g1 g2=>by simp at g2⟩,by simp;omega,hc.2,λw' hw'=>?_,λw'=>rfl⟩;have:=run_firstCells_some (P:=P) w' sz 0 ⟨b,off,none⟩ 0 0 [] (by simp) (λj u hu=>by simp at hu);simpa using this
    ·cases h
   | _=>simp[hl]at h
 | _=>cases h
def cS(P:Program)(s:St)(t u:TypeId)(dst src:Value):Option (Value×St) :=
 match P.underlying t,eM src,dst with
 | some (.slice e),some m,.slice ba n c =>
  match P.info? e with
  | some i =>
   match i.zero,(match P.underlying u with | some (.slice _) | some .string=>true | _=>false) with
   | some z,true =>
    if m=0 then some (dst,s)
    else if (n+m)*i.bytes<=140737488355328/\n+m<=1000000000/\4*s.next+1<lim/\0<i.size/\z.cells.size=i.size/\(n=0\/ba.isSome=true) then
     match bO s i.size src,bO s i.size dst with
     | some (news,l1),some (olds,l2) =>
      let id:=4*s.next+1
      let v:Value:=.slice (some ⟨id,0,none⟩) (n+m) (n+m)
      match ba with
      | none=>some (v,{ s.put id (some (.cells (olds++news) e (0,0))) with next:=s.next+1,log:=⟨id,none,true⟩::(l1++(l2++s.log)) })
      | some a =>
       if iF a.block then
        match a.off,s.look a.block with
        | 0,some (.cells _ e0 _)=>if e0=e/\a.block<lim then some (v,{ (s.put a.block none).put id (some (.cells (olds++news) e (0,0))) with next:=s.next+1,log:=⟨id,none,true⟩::⟨a.block,none,true⟩::(l1++(l2++s.log)) }) else none
        | _,_=>none
       else if c<n+m then some (v,{ s.put id (some (.cells (olds++news) e (0,0))) with next:=s.next+1,log:=⟨id,none,true⟩::(l1++(l2++s.log)) })
       else none
     | _,_=>none
    else none
   | _,_=>none
  | none=>none
 | _,_,_=>none
theorem uJ(n:Nat):iF (4*n+1)=true:=by simp[iF,Nat.add_mod]
theorem dA.grown{P:Program}{base:Nat->Prop}{ι:am}{H:Nat->Option Obj}{s:St}{w:World}{id cap:Nat}{c c':Array Value}{e:TypeId}{ti:TypeInfo}(hs:s.look=H)(hr:dA P base ι H w)(hlim:id<lim)(hn:ι id=none)(hn2:ι (id+1)=none)(hg:iF id=true)
  (hc:c.size<=c'.size) (hcr:∀ (i:Nat) (v v':Value),c[i]? = some v->c'[i]? = some v'->ao ι v v') (hi:P.info? e=some ti) (hsz:c'.size=cap*ti.size) :
  dA P base ((ι.upd (id+1) cap).upd id w.heap.size) (s.put id (some (.cells c e (0,0)))).look { w with heap:=w.heap.push (.cells c' e (0,0)) }:=by
 have h1:jf ι (ι.upd (id+1) cap):=am.gZ hn2;have hr1:dA P base (ι.upd (id+1) cap) s.look w:=by
  rw[hs];have DY:∀ x o b,H x=some o->(ι.upd (id+1) cap) x=some b->ι x=some b:=by
   intro x o b hx g;unfold am.upd at g
   split at g
   ·rename_i ex
    exfalso;subst ex;cases hgo:qc o with
    | none =>
     obtain⟨b2,_,k,_⟩:=hr.there _ o hx hgo;rw[hn2]at k;cases k
    | some gg =>
     obtain⟨e3,_⟩:=hr.gh _ o gg hx hgo;unfold iF at hg;simp at hg;omega
   ·exact g
  refine⟨?_,?_,hr.sz,hr.J4 (λ_ _ _ h _=>h) h1 (by unfold am.upd;rw[if_neg (λe3=>by unfold iF at hg;simp at hg;omega)]) (Nat.le_refl _) (λ_ _ _=>rfl) (λx ox bb hx hbb=>.inl ⟨x,ox,hx,DY x ox bb hx hbb⟩)⟩
  ·intro x y ox oy b hx hy g1 g2
   exact hr.inj x y ox oy b hx hy (DY x ox b hx g1) (DY y oy b hy g2)
  ·intro x ox hx hrl
   obtain⟨b,o',k1,k2,k3,k4⟩:=hr.there x ox hx hrl;exact⟨b,o',h1 _ _ k1,k2,k3.mono h1,k4⟩
 refine dA.new hr1 hlim (by unfold iF at hg;simp at hg;omega) ?_ ?_
 ·unfold am.upd
  rw[if_neg (by omega)];exact hn
 ·refine⟨rfl,c',rfl,hc,(λg=>by rw[hg]at g;cases g),λi v v' a b=>(hcr i v v' a b).mono h1,λ_=>⟨cap,ti,by simp[am.upd],hi,hsz⟩⟩
theorem dA.drop{P:Program}{base:Nat->Prop}{ι:am}{s:St}{w:World}{id:Nat}(hr:dA P base ι s.look w)(hlim:id<lim):dA P base ι (s.put id none).look w:=by
 have live:∀ x o,(s.put id none).look x=some o->x≠id/\s.look x=some o:=by
  intro x o hx
  by_cases e:x=id
  ·subst e;rw[St.bZ _ _ _ hlim]at hx;cases hx
  ·rw[St.bh _ _ _ _ e]at hx;exact⟨e,hx⟩
 refine⟨λx y ox oy b hx hy g1 g2=>hr.inj x y ox oy b (live x ox hx).2 (live y oy hy).2 g1 g2,λx ox hx=>hr.there x ox (live x ox hx).2,hr.sz,hr.J4 (λx ox g hx _=>(live x ox hx).2) (jf.refl _) rfl (Nat.le_refl _) (λ_ _ _=>rfl) (λx ox bb hx hbb=>.inl ⟨x,ox,(live x ox hx).2,hbb⟩)⟩
def K0(P:Program)(base:Nat->Prop)(ι:am)(s s1:St)(w:World)(v:Value)(m':Sem Value):Prop :=
 ∃ (κ:am) (v':Value) (w1:World),m'.run P w=.ok v' w1/\dA P base κ s1.look w1/\(∀ id,(id<4*s.next\/4*s1.next<=id)->κ id=ι id)/\ao κ v v'/\Out base w w1
theorem bN.append{ι:am}{a a' b b':Array Value}(h:bN ι a a')(k:bN ι b b'):bN ι (a++b) (a'++b'):=by
 refine⟨by simp[h.1,k.1],λi e e' h1 h2=>?_⟩;rw[Array.getElem?_append]at h1 h2;rw[h.1]at h1
 split at h1
 ·rename_i c
  rw[if_pos c]at h2;exact h.2 i e e' h1 h2
 ·rename_i c
  rw[if_neg c]at h2;exact k.2 _ e e' h1 h2
theorem qk{ι:am}{c c':Array Value}(h:bN ι c c')(ha:c.toList.all oneCell=true):∀ u ∈ c'.toList,u.oneCell'=true:=by
 intro u hu;rw[List.all_eq_true]at ha;obtain⟨i,hi⟩:=List.getElem?_of_mem hu;have hi':c'[i]? = some u:=by rw[← Array.getElem?_toList];exact hi
 rcases h.get i with ⟨e1,e2⟩ | ⟨x,x',e1,e2,hx⟩
 ·rw[hi']at e2;cases e2
 ·rw[hi']at e2
  cases e2;exact one_one (hx.one (ha x (by rw[Array.mem_toList_iff];exact Array.mem_of_getElem? e1)))
theorem km{P:Program}{base:Nat->Prop}{ι:am}{s:St}{w:World}{t u ty e:TypeId}{i:TypeInfo}{z:Value}{ba':Option Addr}{n c' m:Nat}{src':Value}{olds olds' news news':Array Value}{lg:List Touch}
  (hr:dA P base ι s.look w) (ht:P.underlying t=some (.slice e)) (hu:(∃ e',P.underlying u=some (.slice e'))\/P.underlying u=some .string) (hi:P.info? e=some i) (hz:i.zero=some z) (hzs:z.cells.size=i.size)
  (hbytes:(n+m)*i.bytes<=140737488355328) (hnm:n+m<=1000000000) (hm:0<m) (hlim:4*s.next+1<lim) (hg:c'<n+m)
  (ho:bN ι olds olds') (ho2:olds.size=n*i.size) (ho3:∀ w':World,w'.heap=w.heap->(Builtin.firstCells i.size n (.slice ba' n c')).run P w'=.ok olds' w')
  (hn:bN ι news news') (hn2:news.size=m*i.size) (OM:news.toList.all oneCell=true) (MQ:∀ w':World,w'.heap=w.heap->(Builtin.firstCells i.size m src').run P w'=.ok news' w') (OO:∀ w':World,(Builtin.lenOf src').run P w'=.ok m w')
  (hfr:∀ id,4*s.next<=id->id<4*(s.next+1)->ι id=none) :
  K0 P base ι s { s.put (4*s.next+1) (some (.cells (olds++news) e (0,0))) with next:=s.next+1,log:=lg } w (.slice (some ⟨4*s.next+1,0,none⟩) (n+m) (n+m)) (Builtin.append_ #[t,u] ty #[.slice ba' n c',src']):=by
 have hsrc:Src P i.size u src' m news'.toList w:=by
  refine⟨hu,OO,?_,?_,by rw[Array.length_toList,← hn.1,hn2],qk hn OM⟩
  ·rw[Array.toArray_toList];exact MQ w rfl
  ·rw[Array.toArray_toList];exact MQ w.drew rfl
 have hrun:=run_append_grow_src (P:=P) w t u ty e i z ht hi hz ba' n c' olds'.toList (by rw[Array.toArray_toList];exact ho3 w.drew rfl) src' m news'.toList hsrc hg (by omega) (growslice_fits hg hbytes);have hcap:=grownCap_ge w (n+m) c' e;generalize grownCap w (n+m) c' e=cap at hrun hcap;have e1:(olds'.toList++news'.toList).toArray=olds'++news':=by
  apply Array.ext';simp
 rw[e1]at hrun;have hrel:=ho.append hn;have hsz:(olds'++news').size=(n+m)*i.size:=by
  rw[← hrel.1,Array.size_append,ho2,hn2,Nat.add_mul]
 have hzc:(Builtin.zeroCells z.cells (cap-(n+m))).size=(cap-(n+m))*i.size:=by
  simp[Builtin.zeroCells,hzs]
 have hrep:=dA.grown (P:=P) (H:=s.look) (s:=s) (id:=4*s.next+1) (cap:=cap) (c:=olds++news) (c':=olds'++news'++Builtin.zeroCells z.cells (cap-(n+m))) (e:=e) (ti:=i) (w:=w.drew) rfl ⟨hr.inj,hr.there,hr.sz,hr.J4 (λ_ _ _ h _=>h) (jf.refl _) rfl (Nat.le_refl _) (λ_ _ _=>rfl) (λx ox bb hx hbb=>.inl ⟨x,ox,hx,hbb⟩)⟩ hlim (hfr _ (by omega) (by omega)) (hfr _ (by omega) (by omega)) (uJ _)
  (by rw[hrel.1,Array.size_append (xs:=olds'++news')];omega)
  (λk v v' g1 g2=>by
   have hk:k<(olds'++news').size:=by
    rw[← hrel.1];rcases Nat.lt_or_ge k (olds++news).size with g | g
    ·exact g
    ·rw[Array.getElem?_eq_none g]at g1;cases g1
   rw[Array.getElem?_append_left hk]at g2
   exact hrel.2 k v v' g1 g2)
  hi (by rw[Array.size_append (xs:=olds'++news'),hsz,hzc,← Nat.add_mul];congr 1;omega)
 refine⟨_,_,_,hrun,hrep,?_,?_,?_⟩
 ·intro id hid
  have OP:id<4*s.next\/4*(s.next+1)<=id:=hid
  unfold am.upd;rw[if_neg (by omega),if_neg (by omega)]
 ·refine .slice _ 0 _ _ _ _ (by simp[am.upd]) (λg=>by rw[uJ]at g;cases g) (λ_=>⟨hcap,λ_=>?_⟩) (by omega) (Nat.le_refl _)
  simp[am.upd]
 ·exact((Out.refl base w).drew).alloc hr.sz _
theorem zm{P:Program}{base:Nat->Prop}{ι:am}{s:St}{w:World}{t u ty e:TypeId}{i:TypeInfo}{id b n c' m:Nat}{src':Value}{a0:Array Value}{f0:Nat×Nat}{olds olds' news news':Array Value}{lg:List Touch}
  (hr:dA P base ι s.look w) (hl:s.look id=some (.cells a0 e f0)) (hb:ι id=some b) (OQ:iF id=true) (hcap:ι (id+1)=some c') (OS:id<lim)
  (ht:P.underlying t=some (.slice e)) (hu:(∃ e',P.underlying u=some (.slice e'))\/P.underlying u=some .string) (hi:P.info? e=some i)
  (hm:0<m) (hlim:4*s.next+1<lim) (hg:n+m<=c')
  (ho:bN ι olds olds') (ho2:olds.size=n*i.size) (ho3:∀ w':World,w'.heap=w.heap->(Builtin.firstCells i.size n (.slice (some ⟨b,0,none⟩) n c')).run P w'=.ok olds' w') (hoe:olds=a0.extract 0 (0+n*i.size))
  (hn:bN ι news news') (hn2:news.size=m*i.size) (OM:news.toList.all oneCell=true) (MQ:∀ w':World,w'.heap=w.heap->(Builtin.firstCells i.size m src').run P w'=.ok news' w') (OO:∀ w':World,(Builtin.lenOf src').run P w'=.ok m w')
  (hfr:∀ id,4*s.next<=id->id<4*(s.next+1)->ι id=none) :
  K0 P base ι s { (s.put id none).put (4*s.next+1) (some (.cells (olds++news) e (0,0))) with next:=s.next+1,log:=lg } w (.slice (some ⟨4*s.next+1,0,none⟩) (n+m) (n+m)) (Builtin.append_ #[t,u] ty #[.slice (some ⟨b,0,none⟩) n c',src']):=by
 obtain⟨b',o',i1,i2,i3,i4⟩:=hr.there id _ hl (hr.real hl hb);rw[hb]at i1;cases i1;obtain⟨hf,cur,rfl,j1,j2,j3,j4⟩:=i3;obtain⟨cap,ti,k1,k2,k3⟩:=j4 OQ;rw[hcap]at k1;cases k1;rw[hi]at k2;cases k2;have hsrc:Src P i.size u src' m news'.toList w:=by
  refine⟨hu,OO,?_,?_,by rw[Array.length_toList,← hn.1,hn2],qk hn OM⟩
  ·rw[Array.toArray_toList];exact MQ w rfl
  ·rw[Array.toArray_toList];exact MQ w.drew rfl
 have hnl:news'.toList.length=m*i.size:=by rw[Array.length_toList,← hn.1,hn2]
 have hfit:n*i.size+m*i.size<=cur.size:=by
  rw[k3,← Nat.add_mul];exact Nat.mul_le_mul_right _ hg
 have hrun:=run_append_room_src (P:=P) w t u ty e i ht hi b 0 n c' src' m news'.toList hsrc hg
  (λj hj=>by
   have hlt:0+n*i.size+j<cur.size:=by omega
   simp only[World.cell?,i2,Array.getElem?_eq_getElem hlt]
   rfl)
  (λj hj=>by simp[World.frozen?,i2])
 obtain⟨OT,s1,s2,s3,s4⟩:=jA (b:=b) news'.toList (0+n*i.size) w cur i2;have MR:ι (4*s.next+1)=none:=hfr _ (by omega) (by omega);have MS:ι (4*s.next+1+1)=none:=hfr _ (by omega) (by omega);have hle1:jf ι (ι.upd (4*s.next+1+1) c'):=am.gZ MS;have hle2:jf (ι.upd (4*s.next+1+1) c') ((ι.upd (4*s.next+1+1) c').upd (4*s.next+1) b):=am.gZ (by unfold am.upd;rw[if_neg (by omega)];exact MR);have hle:=hle1.trans hle2;have hrel:=ho.append hn;have hne:id≠4*s.next+1:=by intro e;rw[e,MR]at hb;cases hb
 have lives:∀ x ox,x≠4*s.next+1->((s.put id none).put (4*s.next+1) (some (.cells (olds++news) e (0,0)))).look x=some ox->x≠id/\s.look x=some ox:=by
  intro x ox hx h;rw[St.bh _ _ _ _ hx]at h
  by_cases ex:x=id
  ·subst ex;rw[St.bZ _ _ _ OS]at h;cases h
  ·rw[St.bh _ _ _ _ ex]at h;exact⟨ex,h⟩
 have back:∀ x ox bb,s.look x=some ox->((ι.upd (4*s.next+1+1) c').upd (4*s.next+1) b) x=some bb->ι x=some bb:=by
  intro x ox bb hx h;cases hgo:qc ox with
  | none =>
   obtain⟨b2,o2,g1,_⟩:=hr.there x ox hx hgo;have:=hle _ _ g1;rw[h]at this;cases this;exact g1
  | some gg =>
   obtain⟨e3,_⟩:=hr.gh _ ox gg hx hgo;subst e3;unfold am.upd at h;rw[if_neg (by omega),if_neg (by omega)]at h;exact h
 have hrep:dA P base ((ι.upd (4*s.next+1+1) c').upd (4*s.next+1) b) ((s.put id none).put (4*s.next+1) (some (.cells (olds++news) e (0,0)))).look (w.setCells b (0+n*i.size) news'.toList):=by
  refine⟨?_,?_,by rw[setCells_size];exact hr.sz,hr.J4 (λx ox g hx hg=>?_) hle (by unfold am.upd;rw[if_neg (by omega),if_neg (by omega)]) (by rw[setCells_size];exact Nat.le_refl _) (λj hj _=>eK _ _ _ _ (hj id _ b hl hb)) (λx ox bb hx hbb=>?_)⟩
  rotate_left 2
  ·by_cases ex:x=4*s.next+1
   ·subst ex
    rw[St.bZ _ _ _ hlim]at hx;cases hx;cases hg
   ·exact(lives x ox ex hx).2
  ·by_cases ex:x=4*s.next+1
   ·subst ex
    simp only[am.upd,if_true,Option.some.injEq]at hbb;subst hbb;exact .inl ⟨id,_,hl,hb⟩
   ·exact .inl ⟨x,ox,(lives x ox ex hx).2,back x ox bb (lives x ox ex hx).2 hbb⟩
  ·intro x y ox oy bb hx hy g1 g2
   by_cases ex:x=4*s.next+1
   ·by_cases ey:y=4*s.next+1
    ·rw[ex,ey]
    ·exfalso
     obtain⟨y1,y2⟩:=lives y oy ey hy;have:=back y oy bb y2 g2;subst ex;simp only[am.upd,if_true,Option.some.injEq]at g1;subst g1;exact y1 (hr.inj y id oy _ b y2 hl this hb)
   ·obtain⟨x1,x2⟩:=lives x ox ex hx
    have hx3:=back x ox bb x2 g1
    by_cases ey:y=4*s.next+1
    ·exfalso
     subst ey;simp only[am.upd,if_true,Option.some.injEq]at g2;subst g2;exact x1 (hr.inj x id ox _ b x2 hl hx3 hb)
    ·obtain⟨y1,y2⟩:=lives y oy ey hy
     exact hr.inj x y ox oy bb x2 y2 hx3 (back y oy bb y2 g2)
  ·intro x ox hx hrl
   by_cases ex:x=4*s.next+1
   ·subst ex
    rw[St.bZ _ _ _ hlim]at hx;cases hx;refine⟨b,_,by simp[am.upd],s1,⟨rfl,OT,rfl,?_,(λg=>by rw[uJ]at g;cases g),?_,λ_=>⟨c',i,by simp[am.upd],hi,by rw[s2];exact k3⟩⟩,i4⟩
    ·rw[s2,Array.size_append,ho2,hn2];exact hfit
    ·intro k v v' g1 g2
     by_cases hk:k<olds.size
     ·rw[Array.getElem?_append_left hk]at g1
      rw[s3 k (by omega)]at g2;rw[hoe,Array.getElem?_extract]at g1
      split at g1
      ·rw[Nat.zero_add]at g1
       exact(j3 k v v' g1 g2).mono hle
      ·cases g1
     ·rw[Array.getElem?_append_right (Nat.le_of_not_lt hk)]at g1
      have hkn:k-olds.size<news.size:=by
       rcases Nat.lt_or_ge (k-olds.size) news.size with g | g
       ·exact g
       ·rw[Array.getElem?_eq_none g]at g1;cases g1
      rcases hn.get (k-olds.size) with ⟨e1,e2⟩ | ⟨x,x',e1,e2,hx⟩
      ·rw[g1]at e1;cases e1
      ·rw[g1]at e1
       cases e1;have:=s4 (k-olds.size) x' (by rw[Array.getElem?_toList];exact e2) (by omega);rw[show 0+n*i.size+(k-olds.size)=k by omega,g2]at this;cases this;exact hx.mono hle
   ·obtain⟨x1,x2⟩:=lives x ox ex hx
    obtain⟨b2,o2,g1,g2,g3,g4⟩:=hr.there x ox x2 hrl;have hbb:b2≠b:=by
     intro eb;subst eb;exact x1 (hr.inj x id ox _ b2 x2 hl g1 hb)
    exact⟨b2,o2,hle _ _ g1,by rw[eK _ _ _ _ hbb];exact g2,g3.mono hle,g4⟩
 refine⟨_,_,_,hrun,hrep,?_,?_,da i4 _ _ _⟩
 ·intro x hx
  have hx':x<4*s.next\/4*(s.next+1)<=x:=hx
  unfold am.upd;rw[if_neg (by omega),if_neg (by omega)]
 ·refine .slice _ 0 _ _ _ _ (by simp[am.upd]) (λg=>by rw[uJ]at g;cases g) (λ_=>⟨hg,λ_=>?_⟩) (by omega) (Nat.le_refl _)
  simp[am.upd]
theorem wU{P:Program}{ι:am}{x x':Value}{sz:Nat}{u:TypeId}{w:World}(hx:ao ι x x')(hl:eM x=some 0)(hu:(∃ e',P.underlying u=some (.slice e'))\/P.underlying u=some .string):Src P sz u x' 0 [] w:=by
 have key:(∀ w':World,(Builtin.lenOf x').run P w'=.ok 0 w')/\∀ w':World,(Builtin.firstCells sz 0 x').run P w'=.ok #[] w':=by
  cases hx with
  | dn=>exact⟨λ_=>rfl,λ_=>rfl⟩
  | slice id off b n c c' h h0 h1 h2 h3 =>
   simp only[eM,Option.some.injEq]at hl;subst hl;exact⟨λ_=>rfl,λw'=>by simpa using run_firstCells_some (P:=P) w' sz 0 ⟨b,off,none⟩ 0 c' [] (by simp) (λj u hu=>by simp at hu)⟩
  | dz id off b h h0=>exact⟨λ_=>rfl,λw'=>by simpa using run_firstCells_some (P:=P) w' sz 0 ⟨b,off,none⟩ 0 0 [] (by simp) (λj u hu=>by simp at hu)⟩
  | string s =>
   simp only[eM,Option.some.injEq]at hl;refine⟨λw'=>by rw[← hl];rfl,λw'=>?_⟩;simp[Builtin.firstCells]
  | _=>cases hl
 exact⟨hu,key.1,by simpa using key.2 w,by simpa using key.2 w.drew,by simp,λ_ h=>by cases h⟩
theorem sH{P:Program}{base:Nat->Prop}{ι:am}{s s1:St}{w:World}{t u ty:TypeId}{dst dst' src src' v:Value}(hr:dA P base ι s.look w)(hd:ao ι dst dst')(hx:ao ι src src')
  (ha:cS P s t u dst src=some (v,s1)) (hfr:∀ id,4*s.next<=id->id<4*s1.next->ι id=none):K0 P base ι s s1 w v (Builtin.append_ #[t,u] ty #[dst',src']):=by
 unfold cS at ha
 split at ha
 ·rename_i e m ba n c ht hm
  split at ha
  ·rename_i i hi
   split at ha
   ·rename_i z hz hu0
    have hu:(∃ e',P.underlying u=some (.slice e'))\/P.underlying u=some .string:=by
     split at hu0
     ·rename_i e' he;exact .inl ⟨e',he⟩
     ·rename_i he;exact .inr he
     ·cases hu0
    split at ha
    ·rename_i hm0
     subst hm0;cases ha;have hsrc:=wU (P:=P) (sz:=i.size) (w:=w) hx hm hu;have hdd:∃ ba' c',dst'=.slice ba' n c'/\n<=c':=by
      cases hd with
      | dn=>exact⟨none,0,rfl,Nat.le_refl _⟩
      | slice id off b _ _ c' h h0 h1 h2 h3 =>
       refine⟨_,c',rfl,?_⟩;cases hg:iF id with
       | false=>rw[← h0 hg];exact h3
       | true=>exact Nat.le_trans h3 (h1 hg).1
      | dz id off b h h0=>exact⟨_,0,rfl,Nat.le_refl _⟩
     obtain⟨ba',c',rfl,hle⟩:=hdd;exact⟨ι,_,w,run_append_nothing w t u ty e i ht hi ba' n c' hle src' hsrc,hr,λ_ _=>rfl,hd,Out.refl _ _⟩
    ·rename_i hm0
     split at ha
     ·rename_i hc
      obtain⟨hc1,hc2,hc3,hc4,Om,hc6⟩:=hc
      split at ha
      ·rename_i news l1 olds l2 hnw hol
       obtain⟨news',n1,n2,n3,n4,n5⟩:=fO hr hx hnw hm;dsimp only at ha;cases ba with
       | none =>
        dsimp only at ha;cases ha;cases hd with
        | dn =>
         obtain⟨olds',o1,o2,o3,o4,o5⟩:=fO hr (ao.dn (ι:=ι)) hol rfl;exact km hr ht hu hi hz Om hc1 hc2 (by omega) hc3 (by omega) o1 o2 o4 n1 n2 n3 n4 n5 (λid h1 h2=>hfr id h1 h2)
       | some a =>
        dsimp only at ha
        split at ha
        ·rename_i hg
         split at ha
         ·rename_i a1 e0 f0 hoff hl
          split at ha
          ·rename_i he
           obtain⟨rfl,hal⟩:=he;cases ha;have hdv:=hd;cases hd with
           | slice id off b _ _ c' hb h0 h1 h2 h3 =>
            dsimp only at hoff hl hg hal;subst hoff;obtain⟨olds',o1,o2,o3,o4,o5⟩:=fO hr hdv hol rfl
            by_cases hroom:n+m<=c'
            ·have hoe:olds=a1.extract 0 (0+n*i.size):=by
              simp only[bO,hl]at hol
              split at hol
              ·cases hol;rfl
              ·cases hol
             exact zm hr hl hb hg ((h1 hg).2 rfl) hal ht hu hi (by omega) hc3 hroom o1 o2 o4 hoe n1 n2 n3 n4 n5 (λid h1 h2=>hfr id h1 h2)
            ·obtain⟨κ,v',w1,r1,r2,r3,r4,r5⟩:=km (s:=s.put id none) (lg:=⟨4*s.next+1,none,true⟩::⟨id,none,true⟩::(l1++(l2++s.log))) (ty:=ty) (dA.drop hr hal) ht hu hi hz Om hc1 hc2 (by omega) hc3 (by omega) o1 o2 o4 n1 n2 n3 n4 n5 (λid h1 h2=>hfr id h1 h2)
             exact⟨κ,v',w1,r1,r2,r3,r4,r5⟩
           | dz id off b hb h0=>rw[h0]at hg;cases hg
          ·cases ha
         ·cases ha
        ·rename_i hg
         split at ha
         ·rename_i hroom
          cases ha;have hdv:=hd;obtain⟨olds',o1,o2,o3,o4,o5⟩:=fO hr hdv hol rfl;cases hd with
          | slice id off b _ _ c' hb h0 h1 h2 h3 =>
           have:c=c':=h0 (by simpa using hg);exact km hr ht hu hi hz Om hc1 hc2 (by omega) hc3 (by omega) o1 o2 o4 n1 n2 n3 n4 n5 (λid h1 h2=>hfr id h1 h2)
          | dz id off b hb h0=>exact km hr ht hu hi hz Om hc1 hc2 (by omega) hc3 (by omega) o1 o2 o4 n1 n2 n3 n4 n5 (λid h1 h2=>hfr id h1 h2)
         ·cases ha
      ·cases ha
     ·cases ha
   ·cases ha
  ·cases ha
 ·cases ha
def uK(P:Program)(u:TypeId)(d x:Value):Bool :=
 match d,eM x,P.underlying u with
 | .slice (some a) n c,some m,some (.slice _)=>!iF a.block&&decide (n+m<=c)
 | .slice (some a) n c,some m,some .string=>!iF a.block&&decide (n+m<=c)
 | _,_,_=>false
theorem zn{ι:am}{x x':Value}{m:Nat}(h:ao ι x x')(hm:eM x=some m):eM x'=some m:=by
 cases h<;>first | exact hm | cases hm
theorem uL{P:Program}{base:Nat->Prop}{ι:am}{d d' x x':Value}(t u ty:TypeId)(hd:ao ι d d')(hx:ao ι x x')(h:uK P u d x=true) :
  aq P base VV ι (Builtin.append_ #[t,u] ty #[d,x]) (Builtin.append_ #[t,u] ty #[d',x']):=by
 have hh:∃ a n c m,d=.slice (some a) n c/\eM x=some m/\iF a.block=false/\n+m<=c/\((∃ e,P.underlying u=some (.slice e))\/P.underlying u=some .string):=by
  unfold uK at h
  split at h
  ·rename_i a n c m e hm hu
   simp only[Bool.and_eq_true,Bool.not_eq_true',decide_eq_true_eq]at h;exact⟨a,n,c,m,rfl,hm,h.1,h.2,.inl ⟨e,hu⟩⟩
  ·rename_i a n c m hm hu
   simp only[Bool.and_eq_true,Bool.not_eq_true',decide_eq_true_eq]at h;exact⟨a,n,c,m,rfl,hm,h.1,h.2,.inr hu⟩
  ·cases h
 obtain⟨a,n,c,m,rfl,hm,hg,hroom,hu⟩:=hh;have MT:∀ x,eM x=some m->Builtin.lenOf x=pure m:=by
  intro x hx;cases x<;>first | (cases hx;done) | (simp only[eM,Option.some.injEq]at hx;subst hx;rfl)
 have main:∀ (id off b:Nat),ι id=some b->ao ι (.slice (some ⟨id,off,none⟩) n c) (.slice (some ⟨b,off,none⟩) n c)->aq P base VV ι (Builtin.append_ #[t,u] ty #[.slice (some ⟨id,off,none⟩) n c,x]) (Builtin.append_ #[t,u] ty #[.slice (some ⟨b,off,none⟩) n c,x']):=by
  intro id off b hb hself;unfold Builtin.append_;simp only[List.getElem?_toArray,List.getElem?_cons_zero,List.getElem?_cons_succ];refine aq.bnd (aM t) (λκ a a' hle ha=>?_);obtain⟨rfl,h2⟩:=ha;cases a' with
  | slice elem =>
   dsimp only;refine aq.bnd (cX elem) (λκ2 sz sz' hle2 hs=>?_);subst hs;refine aq.bnd (aM u) (λRi y y' MU hy=>?_);obtain⟨rfl,hy⟩:=hy;refine aq.bnd (R:=λ_ z z'=>z=false/\z'=false) (aq.ret ?_) (λκ3 z z' hle3 hz=>?_)
   ·rcases hu with ⟨e,hu⟩ | hu
    ·rw[hu]at hy;cases hy;exact⟨rfl,rfl⟩
    ·rw[hu]at hy;cases hy;exact⟨rfl,rfl⟩
   ·obtain⟨rfl,rfl⟩:=hz
    simp only[Bool.false_eq_true,if_false,Bool.not_false,if_true];rw[MT x hm,MT x' (zn hx hm)];refine aq.bnd (R:=λ_ l l'=>l=m/\l'=m) (aq.ret ⟨rfl,rfl⟩) (λκ4 l l' f6 hl=>?_);obtain⟨rfl,rfl⟩:=hl;simp only[hroom,if_true];have hle3:=jf.trans MU hle3;have hx4:=(((hx.mono hle).mono hle2).mono hle3).mono f6;refine aq.bnd (lx sz' l' hx4) (λκ5 cs cs' nK hc=>?_);rw[Addr.fL,Addr.fL];refine aq.bnd (iU _ _ 0 κ5 (nK _ _ (f6 _ _ (hle3 _ _ (hle2 _ _ (hle _ _ hb))))) hc.list) (λκ6 _ _ MV _=>aq.ret ?_);have Rj:=(((((hself.mono hle).mono hle2).mono hle3).mono f6).mono nK).mono MV;cases Rj with
    | slice _ _ _ _ _ _ q0 q1 q2 q3 q4=>exact .slice _ _ _ _ _ _ q0 q1 q2 q3 hroom
    | dz _ _ _ q0 q1 =>
     have:0+l'=0:=by omega
     rw[this];exact .dz _ _ _ q0 q1
  | _=>exact aq.halt
 cases hd with
 | slice id off b _ _ c' hb h0 h1 h2 h3 =>
  have hc:c=c':=h0 hg;subst hc;exact main id off b hb (.slice id off b n c c hb h0 h1 h2 h3)
 | dz id off b hb h0=>exact main id off b hb (.dz id off b hb h0)
end Go.Ev
namespace Go.Ev
open Go.RowKit
variable[bg]
theorem H8{P:Program}{base:Nat->Prop}{ι:am}{x x':Value}(t ty:TypeId)(hx:ao ι x x'):aq P base VV ι (Builtin.len_ #[t] ty #[x]) (Builtin.len_ #[t] ty #[x']):=by
 unfold Builtin.len_;simp only[List.getElem?_toArray,List.getElem?_cons_zero,List.getElem?_cons_succ];refine aq.bnd (aM t) (λκ d d' hle hd=>?_);obtain⟨rfl,h2⟩:=hd;have hx2:=hx.mono hle;cases d' with
 | string=>cases hx2<;>first | exact aq.ret (.int _ _) | exact aq.halt
 | array n e=>exact aq.ret (.int _ _)
 | slice e=>cases hx2<;>first | exact aq.ret (.int _ _) | exact aq.halt
 | map k e =>
  cases hx2 with
  | mX=>exact aq.ret (.int _ _)
  | map id b hb =>
   dsimp only;refine aq.bnd (R:=λκ (o o':Obj)=>gY P κ id o o') (aq.getObj hb (λo o' ho _=>aq.pure ho)) (λκ2 o o' hle2 ho=>?_);cases o with
   | map es n =>
    obtain⟨es',rfl,he⟩:=ho;dsimp only;rw[← he.1];exact aq.ret (.int _ _)
   | _=>exact aq.halt
  | _=>exact aq.halt
 | pointer arr =>
  dsimp only;refine aq.bnd (aM arr) (λκ2 d d' hle2 hd=>?_);obtain⟨rfl,h3⟩:=hd;cases d'<;>first | exact aq.ret (.int _ _) | exact aq.halt
 | chan a b=>cases hx2<;>exact aq.halt
 | _=>exact aq.halt
def A4:Value->Bool
 | .slice none _ _=>true
 | .slice (some a) _ _=>!iF a.block
 | _=>false
theorem H9{P:Program}{base:Nat->Prop}{ι:am}{x x':Value}(t ty:TypeId)(hx:ao ι x x')(hc:A4 x=true):aq P base VV ι (Builtin.cap_ #[t] ty #[x]) (Builtin.cap_ #[t] ty #[x']):=by
 unfold Builtin.cap_;simp only[List.getElem?_toArray,List.getElem?_cons_zero,List.getElem?_cons_succ];refine aq.bnd (aM t) (λκ d d' hle hd=>?_);obtain⟨rfl,h2⟩:=hd;have hx2:=hx.mono hle;cases d' with
 | array n e=>exact aq.ret (.int _ _)
 | slice e =>
  cases hx2 with
  | slice id off b n c c' h h0 h1 h2 h3 =>
   have hg:iF id=false:=by simpa[A4] using hc
   rw[h0 hg];exact aq.ret (.int _ _)
  | dn=>exact aq.ret (.int _ _)
  | dz id off b h h0=>exact aq.ret (.int _ _)
  | _=>exact aq.halt
 | pointer arr =>
  dsimp only;refine aq.bnd (aM arr) (λκ2 d d' hle2 hd=>?_);obtain⟨rfl,h3⟩:=hd;cases d'<;>first | exact aq.ret (.int _ _) | exact aq.halt
 | chan a b=>cases hx2<;>exact aq.halt
 | _=>exact aq.halt
theorem aq.none{α β:Type}{P:Program}{base:Nat->Prop}{R:am->α->β->Prop}{ι:am}{m:Sem α}{m':Sem β}(h:∀ s,aw P m s=Option.none):aq P base R ι m m':=by
 intro s w a s1 hr ha;rw[h]at ha;cases ha
theorem g8{α β:Type}{P:Program}(m:Sem α)(f:α->Sem β)(h:∀ s,aw P m s=Option.none)(s:St):aw P (m >>= f) s=Option.none:=by
 show aw P (m.bind f) s=Option.none;rw[l5,h];rfl
theorem wV{P:Program}{base:Nat->Prop}{ι:am}(n:Nat):aq P base (λ_ _ _=>True) ι (Go.askRoom n) (Go.askRoom n):=by
 unfold Go.askRoom
 split
 ·exact aq.mark (aq.pure trivial)
 ·exact aq.ret trivial
theorem sJ{P:Program}{base:Nat->Prop}{ι:am}{l l' c c':Value}(t:TypeId)(hz:sx P (h_ P t)=true)(hq:wP P (h_ P t)=true)(hl:ao ι l l')(hc:ao ι c c'):aq P base VV ι (Instr.makeSlice t l c) (Instr.makeSlice t l' c'):=by
  unfold Instr.makeSlice;refine aq.bnd (aM t) (λκ d d' hle hd=>?_);obtain⟨rfl,h2⟩:=hd;cases d' with
  | slice elem =>
    dsimp only;have he:h_ P t=elem:=by simp[h_,h2]
    rw[he]at hz hq;refine aq.bnd (oY (hl.mono hle)) (λκ2 a a' hle2 ha=>?_);subst ha;refine aq.bnd (oY ((hc.mono hle).mono hle2)) (λκ3 b b' hle3 hb=>?_);subst hb;refine aq.bnd (ef elem) (λκ4 i i' f6 hi=>?_);obtain⟨rfl,hi2⟩:=hi;have fin:∀ (κ:am) (zero iV:Array Value) (n L C:Nat),bN κ zero iV->(n=0\/0<zero.size)->L<=C->aq P base VV κ
        (do let a ← Go.newRow elem ((Array.range n).map (zero[· % zero.size]!))
            pure (Value.slice (some a) L C))
        (do let a ← Go.newRow elem ((Array.range n).map (iV[· % iV.size]!))
            pure (Value.slice (some a) L C)):=by
      intro κ zero iV n L C OJ hpos Rk;refine aq.bnd (mY elem (OJ.zeros n hpos)) (λκ4 a a' f6 ha=>?_);obtain⟨id,b,rfl,rfl,hb,hg⟩:=ha
      by_cases hC:0<C
      · exact aq.ret (.slice id 0 b L C C hb (λ_=>rfl) (λg=>by rw[hg]at g;cases g) hC Rk)
      · obtain⟨rfl,rfl⟩:C=0/\L=0:=by omega
        exact aq.ret (.dz id 0 b hb hg)
    split
    · split
      · exact aq.none (λs=>g8 _ _ (λs=>m6 _ s) s)
      · split
        · exact aq.none (λs=>g8 _ _ (λs=>m6 _ s) s)
        · exact aq.none (λs=>g8 _ _ (λs=>rfl) s)
    · rename_i hcond
      simp only[Bool.or_eq_true,decide_eq_true_eq,not_or]at hcond;refine aq.bnd (wV _) (λκ5 _ _ nK _=>?_);refine aq.bnd (cX elem) (λκ6 sz sz' MV hs=>?_);subst hs
      split
      · rename_i h0
        refine aq.bnd (R:=λ_ p p'=>p = #[]/\p' = #[]) (aq.ret ⟨rfl,rfl⟩) (λκ7 z z' OU MW=>?_);obtain⟨rfl,rfl⟩:=MW;exact fin κ7 #[] #[] _ _ _ (bN.empty κ7) (.inl h0) (by omega)
      · refine aq.bnd (pM elem hz hq) (λκ7 v v' OU hv=>?_)
        obtain⟨rfl,hv,hpos⟩:=hv;refine aq.bnd (R:=λκ p p'=>bN κ p p'/\0<p.size) (aq.ret ⟨fZ hv,hpos⟩) (λκ8 z z' Rl Qu=>?_);exact fin κ8 z z' _ _ _ Qu.1 (.inr Qu.2) (by omega)
  | _=>exact aq.halt
def sv(r:Option (Value×St)):Option (Next×St):=r.map λ(v,s)=>(.value v,s)
def su{α:Type}(r:Option (α×St)):Option (Next×St):=r.map λ(_,s)=>(.skip,s)
theorem f_.dI{P:Program}{base:Nat->Prop}{ι:am}{s s1:St}{w:World}{n:Next}{m m':Sem Value}(h:aq P base VV ι m m')(hr:dA P base ι s.look w)(ha:sv (aw P m s)=some (n,s1))
    (hfr:∀ id,4*s.next<=id->id<4*s1.next->ι id=none):f_ P base ι s s1 w n (do pure (.value (← m'))):=by
  unfold sv at ha;rw[Option.map_eq_some_iff]at ha;obtain⟨⟨v,s2⟩,h1,h2⟩:=ha;cases h2;obtain⟨κ,v',w1,r1,r2,r3,r4,r5⟩:=h s w v s1 hr h1 hfr;exact⟨κ,.value v',w1,by rw[Sem.run_bind,r1];rfl,r2,r3,r4,r5⟩
theorem f_.H_{P:Program}{base:Nat->Prop}{ι:am}{s s1:St}{w:World}{n:Next}{m m':Sem Unit}(h:aq P base (λ_ _ _=>True) ι m m')(hr:dA P base ι s.look w)(ha:su (aw P m s)=some (n,s1))
    (hfr:∀ id,4*s.next<=id->id<4*s1.next->ι id=none):f_ P base ι s s1 w n (do m';pure .skip):=by
  unfold su at ha;rw[Option.map_eq_some_iff]at ha;obtain⟨⟨v,s2⟩,h1,h2⟩:=ha;cases h2;obtain⟨κ,v',w1,r1,r2,r3,r4,r5⟩:=h s w v s1 hr h1 hfr;exact⟨κ,.skip,w1,by rw[Sem.run_bind,r1];rfl,r2,r3,trivial,r5⟩
theorem f_.em{P:Program}{base:Nat->Prop}{ι:am}{s:St}{w:World}{n n':Next}{m':Sem Next}(hr:dA P base ι s.look w)(h:m'.run P w=.ok n' w)(hn:H5 P ι n n'):f_ P base ι s s w n m' :=
 ⟨ι,n',w,h,hr,λ_ _=>rfl,hn,Out.refl _ _⟩
def uM(P:Program)(f:FuncId):Bool :=
 match P.funcs[f]? with
 | some fn=>fn.name != "runtime.NumGoroutine" && fn.body.isSome
 | none=>false
theorem ko{P:Program}{f:FuncId}(h:uM P f=true)(args:Array Value)(w:World):(Go.callFunc f args).run P w=.ok (.enter f args) w:=by
 unfold uM at h
 split at h
 ·rename_i fn hf
  simp only[Bool.and_eq_true,bne_iff_ne,ne_eq]at h;unfold Go.callFunc;show(match P.funcs[f]? with | none=>Go.stuck "call: no such function" | some fn=>_:Sem Next).run P w=_;rw[hf];dsimp only;have h1:(fn.name == "runtime.NumGoroutine")=false:=by simpa using h.1
  have h2:fn.body.isNone=false:=by
   cases hb:fn.body with
   | none=>rw[hb]at h;cases h.2
   | some x=>rfl
  rw[if_neg (by rw[h1];decide),if_neg (by rw[h2];decide)];rfl
 ·cases h
theorem pO{P:Program}{base:Nat->Prop}{ι:am}{id b:Nat}(hb:ι id=some b):aq P base (λκ (o o':Obj)=>gY P κ id o o') ι (Go.getObj id) (Go.getObj b) :=
 aq.getObj hb (λo o' ho _=>aq.pure ho)
theorem jj{P:Program}{base:Nat->Prop}{ι:am}{id b:Nat}{o o':Obj}(hb:ι id=some b)(ho:gY P ι id o o')(hc:∀ c e f,o≠.cells c e f):aq P base (λ_ _ _=>True) ι (Go.setObj id o) (Go.setObj b o') :=
 aq.setObj hb ho hc (aq.pure trivial)
theorem gI{P:Program}{base:Nat->Prop}{ι:am}{id b:Nat}(hb:ι id=some b):aq P base (λκ r r'=>nJ P κ r r') ι (Instr.getLoop id) (Instr.getLoop b):=by
 unfold Instr.getLoop;refine aq.bnd (pO hb) (λκ o o' hle ho=>?_);cases o with
 | loop l =>
  obtain⟨l',rfl,hl⟩:=ho;exact aq.ret hl
 | _=>exact aq.halt
theorem DZ{ι:am} : ∀ (ps:List Tmp) (l l':List Value) (t t':Array Value),l.length=l'.length->(∀ (i:Nat) (v v':Value),l[i]? = some v->l'[i]? = some v'->ao ι v v')->bN ι t t'->
  bN ι ((ps.zip l).foldl (λt (x:Tmp×Value)=>t.setIfInBounds x.1 x.2) t) ((ps.zip l').foldl (λt (x:Tmp×Value)=>t.setIfInBounds x.1 x.2) t'):=by
 intro ps
 induction ps with
 | nil=>intro l l' t t' _ _ h;exact h
 | cons p ps ih =>
  intro l l' t t' hl hv h;cases l with
  | nil =>
   cases l' with
   | nil=>exact h
   | cons v' l'=>cases hl
  | cons v l =>
   cases l' with
   | nil=>cases hl
   | cons v' l' =>
    rw[List.zip_cons_cons,List.zip_cons_cons,List.foldl_cons,List.foldl_cons];exact ih l l' _ _ (by simpa using hl) (λi x x' a b=>hv (i+1) x x' a b) (f7 h (hv 0 v v' rfl rfl) p)
theorem Cq{P:Program}{base:Nat->Prop}{ι:am}{id b:Nat}{args args':Array Value}(hb:ι id=some b)(ha:bN ι args args'):aq P base (H5 P) ι (Instr.yield id args) (Instr.yield b args'):=by
 unfold Instr.yield;refine aq.bnd (gI hb) (λκ r r' hle hr=>?_);rw[← hr.params,← ha.1]
 split
 ·exact aq.halt
 ·refine aq.ret ⟨hle _ _ hb,?_,hr.assign,hr.body,hr.ok1,hr.Ce⟩
  have e:∀ (ps:Array Tmp) (l:Array Value) (t:Array Value),(ps.zip l).foldl (λtmps (x:Tmp×Value)=>tmps.setIfInBounds x.1 x.2) t=(ps.toList.zip l.toList).foldl (λtmps (x:Tmp×Value)=>tmps.setIfInBounds x.1 x.2) t:=by
   intro ps l t;rw[← Array.foldl_toList,Array.toList_zip]
  show bN κ ((r.params.zip args).foldl (λtmps (x:Tmp×Value)=>tmps.setIfInBounds x.1 x.2) r.tmps) ((r.params.zip args').foldl (λtmps (x:Tmp×Value)=>tmps.setIfInBounds x.1 x.2) r'.tmps);rw[e,e];have ha2:=ha.mono hle;exact DZ _ _ _ _ _ (by simpa using ha2.1) (λi v v' a b=>ha2.2 i v v' (by simpa using a) (by simpa using b)) hr.tmps
def nP(ι:am):Option Nat->Option Nat->Prop
 | none,none=>True
 | some l,some b=>ι l=some b
 | _,_=>False
theorem nP.mono{ι κ:am}(hk:jf ι κ){r r':Option Nat}(h:nP ι r r'):nP κ r r':=by
 cases r<;>cases r'<;>first | exact h | exact hk _ _ h
theorem sN{P:Program}{base:Nat->Prop}{ι:am}{t t':Array Value}{rd rd':Option Nat}(fn fn':FuncId)(ps:Array Tmp)(assign body:Code)(ht:bN ι t t')(hrd:nP ι rd rd')(ho1:bL P assign)(ho2:bL P body) :
    aq P base (λκ x x'=>κ x.1=some x'.1/\mD κ x.2 x'.2) ι (Instr.enterLoop fn t ps assign body rd) (Instr.enterLoop fn' t' ps assign body rd'):=by
  unfold Instr.enterLoop;have fin:∀ (κ:am) (d d':Nat) (m m':List Deferred),jf ι κ->κ d=some d'->mD κ m m'->aq P base (λκ x x'=>κ x.1=some x'.1/\mD κ x.2 x'.2) κ
      (do pure (← Go.newObj (.loop { state:=.ready,pending:=none,fn,tmps:=t,params:=ps,assign,body,defers:=d }),m):Sem (Nat×List Deferred))
      (do pure (← Go.newObj (.loop { state:=.ready,pending:=none,fn:=fn',tmps:=t',params:=ps,assign,body,defers:=d' }),m'):Sem (Nat×List Deferred)):=by
    intro κ d d' m m' hle hd hm;exact aq.bnd (mZ (P:=P) (base:=base) ⟨_,rfl,rfl,rfl,ht.mono hle,rfl,rfl,rfl,hd,ho1,ho2⟩) (λκ2 a b hle2 hab=>aq.ret ⟨hab,hm.mono hle2⟩)
  cases rd with
  | none =>
    cases rd' with
    | some b=>exact hrd.elim
    | none =>
      dsimp only;refine aq.bnd (mZ (P:=P) (base:=base) (o:=.deferred (some [])) (o':=.deferred (some [])) ⟨rfl,.inr rfl⟩) (λκ r r' hle hr=>?_);exact fin κ r r' _ _ hle hr (.cons r r' [] [] hr .nil)
  | some l =>
    cases rd' with
    | none=>exact hrd.elim
    | some b =>
      dsimp only;refine aq.bnd (gI hrd) (λκ r r' hle hr=>?_);exact fin κ _ _ _ _ hle hr.defers .nil
theorem nJ.set{P:Program}{ι:am}{r r':Loop}(h:nJ P ι r r')(st:LoopState)(pe:Option Code):nJ P ι { r with state:=st,pending:=pe } { r' with state:=st,pending:=pe } :=
 ⟨rfl,rfl,h.tmps,h.params,h.assign,h.body,h.defers,h.ok1,h.Ce⟩
theorem qK{P:Program}{base:Nat->Prop}{ι:am}{id b:Nat}(hb:ι id=some b):aq P base (λ_ _ _=>True) ι (Instr.beginRound id) (Instr.beginRound b):=by
 unfold Instr.beginRound;refine aq.bnd (gI hb) (λκ r r' hle hr=>?_);refine aq.bnd (jj (hle _ _ hb) ⟨_,rfl,⟨rfl,hr.pending,hr.tmps,hr.params,hr.assign,hr.body,hr.defers,hr.ok1,hr.Ce⟩⟩ (by intro c e f x;cases x)) (λκ2 _ _ hle2 _=>?_);rw[← hr.state];cases r.state with
 | ready=>exact aq.ret trivial
 | _=>exact aq.panics
theorem uO{P:Program}{base:Nat->Prop}{ι:am}{id b:Nat}(hb:ι id=some b)(jump:Option Code):aq P base VV ι (Instr.endRound id jump) (Instr.endRound b jump):=by
 unfold Instr.endRound;refine aq.bnd (gI hb) (λκ r r' hle hr=>?_);refine aq.bnd (jj (hle _ _ hb) ⟨_,rfl,hr.set _ _⟩ (by intro c e f x;cases x)) (λκ2 _ _ hle2 _=>?_);exact aq.ret (.bool _)
theorem wW{P:Program}{base:Nat->Prop}{ι:am}{id b:Nat}(hb:ι id=some b):aq P base (λ_ x y=>y=x) ι (Instr.endLoop id) (Instr.endLoop b):=by
 unfold Instr.endLoop;refine aq.bnd (gI hb) (λκ r r' hle hr=>?_);rw[← hr.state]
 split
 ·exact aq.bnd (R:=λ_ _ _=>False) aq.panics (λκ2 _ _ _ hx=>hx.elim)
 ·refine aq.bnd (jj (hle _ _ hb) ⟨_,rfl,⟨rfl,hr.pending,hr.tmps,hr.params,hr.assign,hr.body,hr.defers,hr.ok1,hr.Ce⟩⟩ (by intro c e f x;cases x)) (λκ2 _ _ hle2 _=>?_)
  exact aq.ret hr.pending.symm
theorem o7{P:Program}{base:Nat->Prop}{ι:am}{id b:Nat}(hb:ι id=some b):aq P base (λ_ x y=>x=[]/\y=[]) ι (Instr.takeDeferred id) (Instr.takeDeferred b):=by
 unfold Instr.takeDeferred;refine aq.bnd (pO hb) (λκ o o' hle ho=>?_);cases o with
 | deferred d =>
  obtain⟨rfl,hd⟩:=ho;rcases hd with rfl | rfl
  ·exact aq.halt
  ·exact aq.bnd (jj (hle _ _ hb) ⟨rfl,.inl rfl⟩ (by intro c e f x;cases x)) (λκ2 _ _ hle2 _=>aq.ret ⟨rfl,rfl⟩)
 | _=>exact aq.halt
end Go.Ev
namespace Go.Ev
open Go.RowKit
variable[bg]
def fP(P:Program)(t:TypeId)(x y:Value):Bool :=
 match P.underlying t,x,y with
 | some (.pointer _),.pointer (some _),.pointer none=>true
 | some (.pointer _),.pointer none,.pointer (some _)=>true
 | some (.interface _),.iface _ _,.nilIface=>true
 | some (.interface _),.nilIface,.iface _ _=>true
 | some (.slice _),.slice (some _) _ _,.slice none 0 0=>true
 | some (.slice _),.slice none 0 0,.slice (some _) _ _=>true
 | some (.map _ _),.map (some _),.map none=>true
 | some (.map _ _),.map none,.map (some _)=>true
 | some (.func _ _ _),.func _ _ _,.nilFunc=>true
 | some (.func _ _ _),.nilFunc,.func _ _ _=>true
 | _,_,_=>false
theorem zp{P:Program}{ι:am}{t:TypeId}{x y x' y':Value}(hx:ao ι x x')(hy:ao ι y y')(h:fP P t x y=true):fP P t x' y'=true:=by
 unfold fP at h ⊢
 split at h
 all_goals first | (cases h;done) | skip
 all_goals (rename_i hu;cases hx<;>cases hy<;>simp[hu])
theorem zq{P:Program}{t:TypeId}{x y:Value}(h:fP P t x y=true)(n:Nat)(w:World):(Op.equalIn (n+1) t x y).run P w=.ok false w:=by
 unfold fP at h
 split at h
 all_goals first | (cases h;done) | skip
 all_goals
  rename_i hu;unfold Op.equalIn;rw[Sem.run_bind,cq hu];rfl
theorem Cr{P:Program}{t:TypeId}{ox oy:Operand}{x y:Value}(h:fP P t x y=true)(w:World) :
    (do eqGuard .eql t ox oy x y;binOp .eql t x y:Sem Value).run P w=.ok (.bool false) w/\(do eqGuard .neq t ox oy x y;binOp .neq t x y:Sem Value).run P w=.ok (.bool true) w:=by
  have he:(Op.equal t x y).run P w=.ok false w:=zq h 9999 w;have hg:∀ op,(eqGuard op t ox oy x y).run P w=.ok () w:=by
    intro op;unfold fP at h
    split at h
    all_goals first | (cases h;done) | skip
    all_goals (unfold eqGuard;split<;>rfl)
  constructor
  · rw[Sem.run_bind,hg]
    show(binOp .eql t x y).run P w=_;have:binOp .eql t x y=(do pure (.bool (← Op.equal t x y)):Sem Value):=by
      unfold fP at h
      split at h
      all_goals first | (cases h;done) | rfl
    rw[this,Sem.run_bind,he];rfl
  · rw[Sem.run_bind,hg]
    show(binOp .neq t x y).run P w=_;have:binOp .neq t x y=(do pure (.bool (!(← Op.equal t x y))):Sem Value):=by
      unfold fP at h
      split at h
      all_goals first | (cases h;done) | rfl
    rw[this,Sem.run_bind,he];rfl
def nQ(P:Program)(t:TypeId)(v:Value)(name:String):Option FuncId :=
 match P.info? t with
 | some i =>
  match i.methods.find? (·.name==name) with
  | some m =>
   match m.path.isEmpty,m.func,P.underlying t with
   | true,some (f,true),some (.pointer _)=>some f
   | true,some (f,false),some (.pointer _)=>none
   | true,some (f,false),some _=>some f
   | _,_,_=>none
  | none=>none
 | none=>none
theorem sO{P:Program}{t:TypeId}{i:TypeInfo}(h:P.info? t=some i)(w:World):(Go.typeInfo t).run P w=.ok i w:=by
 unfold Go.typeInfo;show(match P.info? t with | some i=>(Pure.pure i:Sem TypeInfo) | none=>Go.stuck "no such type").run P w=_;rw[h];rfl
theorem zr{P:Program}{t:TypeId}{v:Value}{name:String}{f:FuncId}(h:nQ P t v name=some f)(n:Nat)(w:World):(Go.method (n+1) t v name).run P w=.ok (f,v) w:=by
  unfold nQ at h
  split at h
  · rename_i i hi
    split at h
    · rename_i m hm
      unfold Go.method;rw[Sem.run_bind,sO hi];dsimp only[Result.andThen];rw[hm];dsimp only;have hp:m.path.isEmpty=true->m.path.toList=[]:=by
        intro e;rw[Array.isEmpty_iff]at e;rw[e]
      split at h
      · rename_i g e hpe hfn hu
        cases h;rw[hp hpe,hfn];show(do let r ← receiverAt t (.val v) true _;pure (f,r):Sem _).run P w=_;unfold receiverAt;rw[Sem.run_bind,Sem.run_bind,cq hu];rfl
      · cases h
      · rename_i g d hne hpe hfn hu
        cases h;rw[hp hpe,hfn];show(do let r ← receiverAt t (.val v) false _;pure (f,r):Sem _).run P w=_;unfold receiverAt;rw[Sem.run_bind,Sem.run_bind,cq hu];dsimp only[Result.andThen];cases d with
        | pointer e=>exact(hne e rfl).elim
        | _=>rfl
      · cases h
    · cases h
  · cases h
def bM(xs:List Operand):Bool:=xs.all bH
def kp:Op->Bool
 | .binOp _ _ _ _ _ | .unOp _ _ _ | .convert _ _ _=>true
 | .call { callee:=.builtin .min,.. } | .call { callee:=.builtin .max,.. }=>true
 | _=>false
def fQ(P:Program)(a:Act)(o:Oper)(s:St):Option (Next×St) :=
 if kp o.op&&o.op.operands.toList.all (λx=>bH x&&bW 5 (a.eval x)) then
  match iT P (execOp a.eval o) with
  | some (.value v)=>if bW 5 v then some (.value v,s) else none
  | _=>none
 else none
def D0(op:BinOp)(x y:Value)(s:St):Option (Next×St):=(bg.bin op x y).map λr=>(.value r,s)
def D1(op:UnOp)(x:Value)(s:St):Option (Next×St):=(bg.Oi op x).map λr=>(.value r,s)
theorem qL{ι:am}{x x':Value}(h:ao ι x x')(hs:eG x=true):x'=nG bg.val x:=by
 cases h with
 | sym n m _ hh=>exact hh.symm
 | _=>first | rfl | cases hs | (simp[eG]at hs)
theorem ql{ι:am}{r:Value}(hs:eG r=true):ao ι r (nG bg.val r):=by
 cases r with
 | bool b=>exact .bool b
 | int k n=>exact .int k n
 | float k n=>exact .float k n
 | string b=>exact .string b
 | complex k n m =>
  cases k with
  | f64=>exact .sym n m _ rfl
  | f32=>cases hs
 | pointer a =>
  cases a with
  | none=>exact .oX
  | some a=>cases hs
 | slice a n c =>
  cases a with
  | some a=>cases hs
  | none =>
   cases n with
   | succ n=>simp[eG]at hs
   | zero =>
    cases c with
    | zero=>exact .dn
    | succ c=>simp[eG]at hs
 | map a =>
  cases a with
  | none=>exact .mX
  | some a=>cases hs
 | nilFunc=>exact .nilFunc
 | nilIface=>exact .nilIface
 | _=>cases hs
def zt(P:Program)(t u:TypeId)(x:Value)(s:St):Option (Next×St) :=
 match P.underlying t,P.underlying u with
 | some (.int _),some (.int k)=>(bg.Oj k x).map λr=>(.value r,s)
 | _,_=>none
def evs(a:Act)(xs:Array Operand):Array Value:=xs.map a.eval
def K1(a:Act)(ps:Array (Nat×Operand)):Array (Nat×Value):=ps.map λ(i,x)=>(i,a.eval x)
def mJ(P:Program)(a:Act)(c:Call)(ty:TypeId)(s:St):Option (Next×St) :=
 if bM c.operands.toList then
  match c.callee with
  | .value f =>
   match a.eval f with
   | .func (.func g) first captured=>if uM P g then some (.enter g ((first++evs a c.args)++captured),s) else none
   | .func (.yield l) first captured=>if first.isEmpty&&captured.isEmpty then aw P (Instr.yield l (evs a c.args)) s else none
   | _=>none
  | .invoke r name =>
   match a.eval r with
   | .iface t v=>(match nQ P t v name with | some f=>if uM P f then some (.enter f (#[v]++evs a c.args),s) else none | none=>none)
   | _=>none
  | .builtin b =>
   match b,c.args.toList,c.argTypes.toList with
   | .len,[x],[t]=>sv (aw P (Builtin.len_ #[t] ty #[a.eval x]) s)
   | .cap,[x],[t]=>if A4 (a.eval x) then sv (aw P (Builtin.cap_ #[t] ty #[a.eval x]) s) else none
   | .append,[x,y],[t,u]=>if uK P u (a.eval x) (a.eval y) then sv (aw P (Builtin.append_ #[t,u] ty #[a.eval x,a.eval y]) s) else sv (cS P s t u (a.eval x) (a.eval y))
   | .copy,[x,y],[t,u]=>sv (aw P (Builtin.copy_ #[t,u] ty #[a.eval x,a.eval y]) s)
   | .delete,[x,y],[t,u]=>(eW P s t (a.eval x) (a.eval y)).map λs1=>(.value (.tuple #[]),s1)
   | _,_,_=>none
 else none
def bf(P:Program)(a:Act)(o:Oper)(s:St):Option (Next×St) :=
 match o.op with
 | .move x | .assign x=>if bH x then some (.value (a.eval x),s) else none
 | .pick c x y =>
  if bM [c,x,y] then
   match a.eval c with
   | .bool b=>some (.value (if b then a.eval x else a.eval y),s)
   | _=>none
  else none
 | .alloc t=>if sx P t then sv (aw P (Instr.alloc t true (.tuple #[])) s) else none
 | .box t x=>if bH x then sv (aw P (Instr.box t (a.eval x)) s) else none
 | .build t ps=>if sx P t&&bM (ps.toList.map (·.2)) then sv (aw P (Instr.build t (K1 a ps)) s) else none
 | .buildSlice t n ps=>if sx P (h_ P t)&&wP P (h_ P t)&&bM (ps.toList.map (·.2)) then sv (aw P (Instr.buildSlice t n (K1 a ps)) s) else none
 | .load t x=>if bH x then sv (aw P (Instr.loadAt t (a.eval x)) s) else none
 | .store t x y=>if bM [x,y] then su (aw P (Instr.storeAt t (a.eval x) (a.eval y)) s) else none
 | .nilCheck x =>
  if bH x then
   match a.eval x with
   | .pointer (some b)=>some (.value (a.eval x),s)
   | .func (.func _) _ _=>some (.value (a.eval x),s)
   | .iface _ _=>some (.value (a.eval x),s)
   | _=>none
  else none
 | .binOp op t x y _ =>
  match fQ P a o s with
  | some r=>some r
  | none=>if bM [x,y] then (if fP P t (a.eval x) (a.eval y) then (match op with | .eql=>some (.value (.bool false),s) | .neq=>some (.value (.bool true),s) | _=>none) else D0 op (a.eval x) (a.eval y) s) else none
 | .unOp op _ x =>
  match fQ P a o s with
  | some r=>some r
  | none=>if bH x then D1 op (a.eval x) s else none
 | .convert t u x =>
  match fQ P a o s with
  | some r=>some r
  | none=>if bH x then zt P t u (a.eval x) s else none
 | .makeInterface t x=>if bH x then sv (aw P (Instr.makeInterface t (a.eval x)) s) else none
 | .makeFunc (.func f) first captured=>if bM first.toList&&bM captured.toList then some (.value (.func (.func f) (evs a first) (evs a captured)),s) else none
 | .makeMap t none=>sv (aw P (Instr.makeMap t none) s)
 | .makeMap t (some x)=>if bH x then sv (aw P (Instr.makeMap t (some (a.eval x))) s) else none
 | .makeSlice t l c=>if sx P (h_ P t)&&wP P (h_ P t)&&bM [l,c] then sv (aw P (Instr.makeSlice t (a.eval l) (a.eval c)) s) else none
 | .slice t x lo hi mx =>
  if Cj P t&&bH x&&bM lo.toList&&bM hi.toList&&bM mx.toList&&Ci (a.eval x) (mx.map a.eval) then
   match aw P (Instr.sliceAt t (a.eval x) (lo.map a.eval) (hi.map a.eval) (mx.map a.eval)) s with
   | some (v,s1)=>if nL v then some (.value v,s1) else none
   | none=>none
  else none
 | .fieldAddr t x f=>if bH x&&tE P t f then sv (aw P (Instr.fieldAt t (a.eval x) f) s) else none
 | .field t x f=>if bH x then sv (aw P (Instr.field t (a.eval x) f) s) else none
 | .indexAddr t x i=>if bM [x,i] then sv (aw P (Instr.indexAt t (a.eval x) (a.eval i)) s) else none
 | .index t x i=>if bM [x,i] then sv (aw P (Instr.index t (a.eval x) (a.eval i)) s) else none
 | .lookup t m k ok=>if bM [m,k] then sv (ji P s t (a.eval m) (a.eval k) ok) else none
 | .mapUpdate t m k v=>if bM [m,k,v] then (ek P s t (a.eval m) (a.eval k) (a.eval v)).map λs1=>(.skip,s1) else none
 | .insert t m k v=>if bM [m,k,v] then (ek P s t (a.eval m) (a.eval k) (a.eval v)).map λs1=>(.skip,s1) else none
 | .mapEntry t m k=>if bM [m,k] then sv (gi P s t (a.eval m) (a.eval k)) else none
 | .entryStore _ m st v=>if bM [m,st,v] then (g7 s (a.eval m) (a.eval st) (a.eval v)).map λs1=>(.skip,s1) else none
 | .range t x=>if bH x then sv (aw P (Instr.range t (a.eval x)) s) else none
 | .next x str=>if bH x then sv (aw P (Instr.next (a.eval x) str o.type) s) else none
 | .entry x=>if bH x then sv (aw P (Instr.entry (a.eval x)) s) else none
 | .typeAssert x t u ok=>if bH x&&(!ok||sx P u) then sv (aw P (Instr.typeAssert (a.eval x) t u ok) s) else none
 | .extract x i=>if bH x then sv (aw P (Instr.extract (a.eval x) i) s) else none
 | .call c=>(match fQ P a o s with | some r=>some r | none=>mJ P a c o.type s)
 | _=>none
end Go.Ev
