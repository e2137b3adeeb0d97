/- Part of a proof: see the last text. -/
import Derived.Test.YtkmccgombmogmaaGreatZe23
set_option linter.unusedSimpArgs false
set_option linter.unusedVariables false
namespace Go.Proofs.YtkmccgombmogmaaGreat
open Go.Ev Go.Proofs.Tryz
open Go.RowKit
structure Dq(c:aP)(B:Int)(m:bw)(p:Nat)(l:fJ):Prop where
 ok:jV l
 ne:l.ls≠[]
 nH:l.st=2\/l.st=3->Seen c B m p l.w/\l.n=min l.ls.length (c.q-(aO l.w).toNat)/\1<=l.n
 s2:l.st=2->l.k<l.n/\∀ (i:Nat) g,i<l.k->l.ls[i]? = some g->sl c m p (cy l.w+(i:Int))=g
 s3:l.st=3->∀ (i:Nat) g,i<l.n->l.ls[i]? = some g->sl c m p (cy l.w+(i:Int))=g
section
variable{c:aP}{B:Int}{m m':bw}{p:Nat}{own:Prop}
theorem Dq.keep{l:fJ}(h:Dq c B m p l)(hr:di c own p m m')(hn:¬ own)(hw:kj c B (wd c m p))(hB:B<=1073741824):Dq c (B+8) m' p l:=by
 obtain⟨k1,k2,k3⟩:=hr.else hn hw hB
 exact⟨h.ok,h.ne,λe=>⟨(h.nH e).1.keep hr hn hw hB,(h.nH e).2⟩,λe=>⟨(h.s2 e).1,λi g hi hg=>by rw[k1];exact(h.s2 e).2 i g hi hg⟩,λe i g hi hg=>by rw[k1];exact h.s3 e i g hi hg⟩
theorem Hn(hR:Rings c B m)(hp:p<c.n){l:fJ}(h:Dq c B m p l)(h0:l.st≠0) :
  bT c (av c p l m).2/\(∀ q,q<c.n->di c (p=q) q m (av c p l m).2)/\(∀ q,q<c.n->q≠p->wd c (av c p l m).2 q=wd c m q/\rl c (av c p l m).2 q=rl c m q)/\Az (av c p l m).1/\
  ((av c p l m).1.st≠0->Dq c (B+8) (av c p l m).2 p (av c p l m).1/\Quiet c p m (av c p l m).2/\(av c p l m).1.ls=l.ls)/\
  ((av c p l m).1.st=0->rl c (av c p l m).2 p++(av c p l m).1.ls=rl c m p++l.ls/\∀ d,mG c m p d->mG c (av c p l m).2 p (cU c d (l.ls.take (tx c d l.ls)))/\l.ls.drop (tx c d l.ls)=(av c p l m).1.ls):=by
 have hok:=(rO hp h.ok hR.mem).1;have hw:=hR.w p hp;have hB:=hR.hB;have h8:=hR.h8;obtain⟨t1,t2,t3⟩:=hw.tl (by omega);have hz:=hw.sz;have qt:∀ {m':bw},Quiet c p m m'->bT c m'/\(∀ q,q<c.n->di c (p=q) q m m')/\(∀ q,q<c.n->q≠p->wd c m' q=wd c m q/\rl c m' q=rl c m q):=λk=>⟨k.mem,k.ring,λq hq _=>⟨k.w q hq,k.l q hq⟩⟩
 have hne:=h.ne;have nH:=h.nH;have s2:=h.s2;have s3:=h.s3;have DO:=h.ok.w;have hgs:=h.ok.gs;obtain⟨st,w,k,n,ls⟩:=l;dsimp only at hne nH s2 s3 DO h0 hgs
 match st,h.ok.st with
 | 0,_=>exact absurd rfl h0
 | 1,_ =>
  obtain⟨a1,a2,a3⟩:=qt (hR.tick (p:=p));obtain⟨r,hr⟩:∃ r,jU c ls (ld m (c.word p))=r:=⟨_,rfl⟩;have hr2:r=min ls.length (c.q-(aO (wd c m p)).toNat):=by
   rw[← hr];unfold jU;show min ls.length (c.q-min (aO (wd c m p)).toNat c.q)=_;omega
  have e:av c p ⟨1,w,k,n,ls⟩ m=(⟨if r=0 then 0 else 2,ld m (c.word p),0,r,ls⟩,m.tick):=by simp only[av,hr]
  rw[e]at hok ⊢;refine⟨a1,a2,a3,hok.base,λhe=>?_,λhe=>⟨rfl,λd hd=>?_⟩⟩
  ·have hr0:¬ r=0:=λhh=>he (by dsimp only;rw[if_pos hh])
   rw[if_neg hr0]at hok ⊢;exact⟨⟨hok,hne,λ_=>⟨⟨hw.mono (by omega),Int.le_refl _,rfl⟩,hr2,by show 1<=r;omega⟩,λ_=>⟨by show 0<r;omega,λi g hi=>absurd hi (Nat.not_lt_zero _)⟩,λhe=>(by cases he)⟩,hR.tick,rfl⟩
  ·have hr0:r=0:=Classical.byContradiction λhh=>by
    dsimp only at he;rw[if_neg hh]at he;cases he
   have hd0:tx c d ls=0:=by
    unfold tx;rw[hd.w];omega
   rw[hd0];exact⟨hd.still rfl rfl,rfl⟩
 | 2,_ =>
  obtain⟨k1,k2,k3⟩:=nH (.inl rfl);obtain⟨k4,k5⟩:=s2 rfl;obtain⟨u1,u2,u3⟩:=k1.ok.tl (by omega);have kl:=k1.le;have kt:=k1.tl;have kz:=k1.ok.sz;have hkl:k<ls.length:=by omega
  have eg:ls.getD k 0=ls[k]:=by simp[List.getD_eq_getElem?_getD,hkl]
  have OC:Gn ls[k]:=hgs _ (List.getElem_mem hkl);have e:av c p ⟨2,w,k,n,ls⟩ m=(⟨if k+1=n then 3 else 2,w,k+1,n,ls⟩,m.put (c.slot p (cy w+(k:Int))) ls[k]):=by
   simp only[av,eg];rw[lV]
  rw[e]at hok ⊢;have Qt:=hR.store hp OC (j:=cy w+(k:Int)) (by omega) (by omega);obtain⟨a1,a2,a3⟩:=qt Qt;have P7:Seen c (B+8) (m.put (c.slot p (cy w+(k:Int))) ls[k]) p w:=⟨k1.ok.mono (by omega),by rw[Qt.w p hp];exact kl,by rw[Qt.w p hp];exact kt⟩;have hsl:∀ (i:Nat) g,i<k+1->ls[i]? = some g->sl c (m.put (c.slot p (cy w+(k:Int))) ls[k]) p (cy w+(i:Int))=g:=λi g hi hg=>by
   rw[oN hR.mem hp]
   by_cases hik:i=k
   ·subst hik
    rw[if_pos ⟨rfl,rfl⟩];rw[List.getElem?_eq_getElem hkl]at hg;exact Option.some.inj hg
   ·rw[if_neg (λh=>oL c (i:=cy w+(i:Int)) (j:=cy w+(k:Int)) (by omega) (by omega) h.2)]
    exact k5 i g (by omega) hg
  refine⟨a1,a2,a3,hok.base,λhe=>⟨⟨hok,hne,λ_=>⟨P7,k2,k3⟩,λhe2=>?_,λNm=>?_⟩,Qt,rfl⟩,λhe=>?_⟩
  ·dsimp only at he2 ⊢
   refine⟨?_,hsl⟩
   split at he2
   ·cases he2
   ·omega
  ·dsimp only at Nm ⊢
   split at Nm
   ·next h=>rw[← h];exact hsl
   ·cases Nm
  ·dsimp only at he
   split at he<;>cases he
 | 3,_ =>
  obtain⟨k1,k2,k3⟩:=nH (.inr rfl);have k5:=s3 rfl
  by_cases hc:ld m (c.word p)=w
  ·have e:av c p ⟨3,w,k,n,ls⟩ m=(⟨0,w,k,n,ls.drop n⟩,m.put (c.word p) (dF w (n:Int))):=by simp only[av,if_pos hc]
   rw[e]at hok ⊢;have nD:wd c m p=w:=hc;have hln:(ls.take n).length=n:=by rw[List.length_take];omega
   have hw':wd c (m.put (c.word p) (dF w (n:Int))) p=dF (wd c m p) ((ls.take n).length:Int):=by rw[gF hR.mem hp,if_pos rfl,nD,hln]
   have hs':∀ q i,sl c (m.put (c.word p) (dF w (n:Int))) q i=sl c m q i:=λq i=>oM hR.mem hp _ q i
   have ho:∀ q,q≠p->wd c (m.put (c.word p) (dF w (n:Int))) q=wd c m q:=λq hq=>by rw[gF hR.mem hp,if_neg hq]
   have hfit:aO (wd c m p)+((ls.take n).length:Int)<=(c.q:Int):=by rw[hln,nD];rw[nD]at hz t3;omega
   have KH:∀ (i:Nat) g,(ls.take n)[i]? = some g->sl c m p (cy (wd c m p)+(i:Int))=g:=λi g hi=>by
    have hlt:=(List.getElem?_eq_some_iff.1 hi).1;rw[hln]at hlt;rw[nD];refine k5 i g hlt ?_;rw[List.getElem?_take,if_pos hlt]at hi;exact hi
   refine⟨hR.mem.put _ (pY DO _),λq hq=>?_,λq hq hne=>⟨ho q hne,kU (λi _ _=>hs' q i) (ho q hne)⟩,hok.base,λhe=>absurd rfl he,λ_=>⟨?_,λd hd=>?_⟩⟩
   ·by_cases eq:p=q
    ·subst eq
     exact .grow rfl (hs' p) _ (by omega) hfit hw'
    ·exact .none (hs' q) (ho q (Ne.symm eq))
   ·show _++ls.drop n=_
    rw[BU hw hB (hs' p) hfit hw' KH,List.append_assoc,List.take_append_drop]
   ·have hdn:tx c d ls=n:=by
     unfold tx;rw[hd.w,nD];exact k2.symm
    dsimp only;rw[hdn];exact⟨hd.lay hw hB (hs' p) hfit hw' KH,rfl⟩
  ·have e:av c p ⟨3,w,k,n,ls⟩ m=(⟨1,w,k,n,ls⟩,m.tick):=by simp only[av,if_neg hc]
   rw[e]at hok ⊢;obtain⟨a1,a2,a3⟩:=qt (hR.tick (p:=p));exact⟨a1,a2,a3,hok.base,λ_=>⟨⟨hok,hne,λhe=>(by rcases he with he | he<;>cases he),λhe=>(by cases he),λhe=>(by cases he)⟩,hR.tick,rfl⟩,λhe=>(by cases he)⟩
end
structure lW(c:aP)(B:Int)(m:bw)(p v:Nat)(u:bD)(gn:Bool)(rs:List Int):Prop where
 ok:eZ u
 AH:u.st=1\/u.st=2\/u.st=3->gn=false
 nH:u.st=2\/u.st=3->Jz c B m v u.w u.bt
 s3:u.st=3->(u.bt.length:Int)=cj (aO u.w)
 s4:u.st=4->gn=true/\∃ l,u.ly=some l/\Dq c B m p l/\l.st≠0/\rs=u.bt.drop 1/\l.ls=u.bt.drop 1
section
variable{c:aP}{B:Int}{m m':bw}{p v:Nat}{op ov:Prop}{gn:Bool}{rs:List Int}
theorem lW.keep{u:bD}(h:lW c B m p v u gn rs)(h8:c.q=2\/c.q=4\/c.q=8)(hr:di c op p m m')(hn:¬ op)(hv:di c ov v m m')(hw:kj c B (wd c m p))(hwv:kj c B (wd c m v))(hB:B<=1073741824):lW c (B+8) m' p v u gn rs :=
 ⟨h.ok,h.AH,λe=>(h.nH e).keep h8 hv hwv hB,h.s3,λe=>by
  obtain⟨k1,l,k2,k3,k4,k5⟩:=h.s4 e
  exact⟨k1,l,k2,k3.keep hr hn hw hB,k4,k5⟩⟩
theorem AI(hR:Rings c B m)(hp:p<c.n)(hv:v<c.n)(hpv:v≠p){u:bD}(h:lW c B m p v u gn rs)(h0:u.st≠0) :
  bT c (ai c p v u m).2/\(∀ q,q<c.n->di c (p=q) q m (ai c p v u m).2)/\(∀ q,q<c.n->q≠p->q≠v->wd c (ai c p v u m).2 q=wd c m q/\rl c (ai c p v u m).2 q=rl c m q)/\
  ((ai c p v u m).1.st≠0/\¬ (gn=false/\0<(ai c p v u m).1.many)/\lW c (B+8) (ai c p v u m).2 p v (ai c p v u m).1 gn rs/\Quiet c p m (ai c p v u m).2/\(ai c p v u m).1.hands=u.hands
 \/gn=false/\((ai c p v u m).1.st=0\/0<(ai c p v u m).1.many)/\((ai c p v u m).1.st≠0->lW c (B+8) (ai c p v u m).2 p v (ai c p v u m).1 true ((ai c p v u m).1.hands.drop 1))/\wd c (ai c p v u m).2 p=wd c m p/\rl c (ai c p v u m).2 p=rl c m p/\u.hands=[]/\(ai c p v u m).1.hands++rl c (ai c p v u m).2 v=rl c m v/\((ai c p v u m).1.st=0->(ai c p v u m).1.hands=(if (ai c p v u m).1.got.2 then [(ai c p v u m).1.got.1] else [])++(ai c p v u m).1.left)/\(∀ d,mG c m v d->mG c (ai c p v u m).2 v (cw d)/\c6 c d=(ai c p v u m).1.hands)
 \/gn=true/\(ai c p v u m).1.st=0/\wd c (ai c p v u m).2 v=wd c m v/\rl c (ai c p v u m).2 v=rl c m v/\(((if (ai c p v u m).1.got.2 then [(ai c p v u m).1.got.1] else [])++(ai c p v u m).1.left)++rl c (ai c p v u m).2 p).Perm (u.hands++rl c m p)/\(∀ d,mG c m p d->mG c (ai c p v u m).2 p (cU c d (rs.take (tx c d rs)))/\rs.drop (tx c d rs)=(ai c p v u m).1.left)):=by
 have hok:=(iD hp hv h.ok hR.mem hR.sl).1;have hw:=hR.w v hv;have hB:=hR.hB;have h8:=hR.h8;obtain⟨t1,t2,t3⟩:=hw.tl (by omega);have hz:=hw.sz;have qt:∀ {m':bw},Quiet c p m m'->bT c m'/\(∀ q,q<c.n->di c (p=q) q m m')/\(∀ q,q<c.n->q≠p->q≠v->wd c m' q=wd c m q/\rl c m' q=rl c m q):=λk=>⟨k.mem,k.ring,λq hq _ _=>⟨k.w q hq,k.l q hq⟩⟩
 have hno:=h.ok.no;have hone:=h.ok.one;have De:=h.ok.two;have nA:=h.ok.three;have AH:=h.AH;have nH:=h.nH;have s3:=h.s3;have s4:=h.s4;have DO:=h.ok.w;have hgs:=h.ok.gs;obtain⟨st,w,bt,ly⟩:=u;dsimp only at hno hone De nA AH nH s3 s4 DO h0 hgs;obtain⟨a1,a2,a3⟩:=qt (hR.tick (p:=p))
 match st,h.ok.st with
 | 0,_=>exact absurd rfl h0
 | 1,_ =>
  obtain rfl:=hno (.inl rfl);obtain rfl:=hone rfl;have hgn:=AH (.inl rfl)
  by_cases hc:aO (ld m (c.word v))=0\/(c.q:Int)<aO (ld m (c.word v))
  ·have e:ai c p v ⟨1,w,[],none⟩ m=(⟨0,ld m (c.word v),[],none⟩,m.tick):=by simp only[ai,if_pos hc]
   rw[e]at hok ⊢;have hz0:aO (wd c m v)=0:=by
    rcases hc with h | h
    ·exact h
    ·exact absurd h (by have:=hz;show ¬ _<aO (wd c m v);omega)
   refine⟨a1,a2,a3,.inr (.inl ⟨hgn,.inl rfl,λhe=>absurd rfl he,rfl,rfl,rfl,rfl,λ_=>rfl,λd hd=>?_⟩)⟩;have hdz:aO d.w=0:=by rw[hd.w];exact hz0
   refine⟨?_,by unfold c6;simp[aX,hdz,bD.hands]⟩;unfold cw;rw[if_pos hdz];exact hd.still rfl rfl
  ·have e:ai c p v ⟨1,w,[],none⟩ m=(⟨2,ld m (c.word v),[],none⟩,m.tick):=by simp only[ai,if_neg hc]
   rw[e]at hok ⊢;rw[not_or]at hc;have hz1:aO (wd c m v)≠0:=hc.1;refine⟨a1,a2,a3,.inl ⟨Nat.succ_ne_zero _,λh=>absurd h.2 (by simp[bD.many]),⟨hok,λ_=>hgn,λ_=>?_,λhe=>(by cases he),λhe=>(by cases he)⟩,hR.tick,rfl⟩⟩;exact⟨hw.mono (by omega),by show 1<=aO (wd c m v);omega,Int.le_refl _,(wj t3).1,λ_=>(wj t3).2.1,λ_ i g hi=>by cases hi⟩
 | 2,_ =>
  obtain rfl:=hno (.inr (.inl rfl));have hgn:=AH (.inr (.inl rfl));obtain⟨k1,k2⟩:=De rfl;have hS:=nH (.inl rfl);obtain⟨st',hst'⟩:∃ st',(if ((bt.length+1:Nat):Int)=cj (aO w) then 3 else 2)=st':=⟨_,rfl⟩;have e:ai c p v ⟨2,w,bt,none⟩ m=(⟨st',w,bt++[sl c m v (aj w+(bt.length:Int))],none⟩,m.tick):=by
   simp only[ai,hst'];rw[lV,kS (hR.sl v hv _)]
  rw[e]at hok ⊢;have Sl:st'=2\/st'=3:=by split at hst'<;>omega
  refine⟨a1,a2,a3,.inl ⟨?_,λh=>absurd h.2 (by simp[bD.many]),⟨hok,λ_=>hgn,λ_=>?_,λhe=>?_,λhe=>?_⟩,hR.tick,rfl⟩⟩
  ·show st'≠0
   omega
  ·refine⟨hS.ok.mono (by omega),hS.ne,hS.le,?_,hS.old,λeh i g hi=>?_⟩
   ·show((bt++[_]).length:Int)<=cj (aO w)
    rw[List.length_append];simp only[List.length_cons,List.length_nil];omega
   ·dsimp only at hi
    show g=sl c m v _
    by_cases hlt:i<bt.length
    ·rw[List.getElem?_append_left hlt]at hi
     exact hS.bt eh i g hi
    ·rw[List.getElem?_append_right (by omega)]at hi
     have hi0:i-bt.length=0:=by
      rcases Nat.eq_zero_or_pos (i-bt.length) with h | h
      ·exact h
      ·rw[List.getElem?_eq_none (by simp;omega)]at hi
       cases hi
     rw[hi0]at hi;cases hi;rw[show i=bt.length by omega]
  ·show((bt++[_]).length:Int)=cj (aO w)
   rw[List.length_append];simp only[List.length_cons,List.length_nil];dsimp only at he
   split at hst'<;>omega
  ·dsimp only at he
   omega
 | 3,_ =>
  obtain rfl:=hno (.inr (.inr rfl));have hgn:=AH (.inr (.inr rfl));have hlen:=s3 rfl;have hS:=nH (.inr rfl);have hpos:=nA rfl
  by_cases hc:ld m (c.word v)=w
  ·obtain⟨st',hst'⟩:∃ st',(if bt.length=1 then 0 else 4)=st':=⟨_,rfl⟩
   have e:ai c p v ⟨3,w,bt,none⟩ m=(⟨st',w,bt,some ⟨1,0,0,0,bt.drop 1⟩⟩,m.put (c.word v) (fq w (bt.length:Int))):=by simp only[ai,if_pos hc,hst',hlen]
   rw[e]at hok ⊢;have nD:wd c m v=w:=hc;have hw':wd c (m.put (c.word v) (fq w (bt.length:Int))) v=fq (wd c m v) (bt.length:Int):=by rw[gF hR.mem hv,if_pos rfl,nD]
   have hs':∀ q i,sl c (m.put (c.word v) (fq w (bt.length:Int))) q i=sl c m q i:=λq i=>oM hR.mem hv _ q i
   have ho:∀ q,q≠v->wd c (m.put (c.word v) (fq w (bt.length:Int))) q=wd c m q:=λq hq=>by rw[gF hR.mem hv,if_neg hq]
   have hold:(bt.length:Int)<=aO (wd c m v):=by
    have:=hS.old (by rw[nD]);omega
   have hbt:(rl c m v).take bt.length=bt:=by
    unfold rl;rw[rX _ _ (by omega)];refine rY (λi g hi=>?_);rw[hS.bt (by rw[nD]) i g hi,nD]
   have hg:=wk hw hB (hs' v) hold hw';have hh:bt.take 1++bt.drop 1=bt:=List.take_append_drop 1 bt;refine⟨hR.mem.put _ (yA DO _),λq hq=>?_,λq hq _ hne=>⟨ho q hne,kU (λi _ _=>hs' q i) (ho q hne)⟩,.inr (.inl ⟨hgn,.inr (by simp[bD.many];omega),λhe=>?_,ho p (Ne.symm hpv),kU (λi _ _=>hs' p i) (ho p (Ne.symm hpv)),rfl,?_,λhe=>?_,λd hd=>⟨?_,?_⟩⟩)⟩
   ·by_cases eq:q=v
    ·subst eq
     exact .gain (hs' q) _ (by omega) hold hw'
    ·exact .none (hs' q) (ho q eq)
   ·have hl1:¬ bt.length=1:=λhh=>by
     dsimp only at he;rw[if_pos hh]at hst';omega
    have P8:st'=4:=by rw[if_neg hl1]at hst';omega
    subst P8;refine⟨hok,λhe=>(by rcases he with he | he | he<;>cases he),λhe=>(by rcases he with he | he<;>cases he),λhe=>(by cases he),λ_=>⟨rfl,_,rfl,⟨?_,?_,λhe=>(by rcases he with he | he<;>cases he),λhe=>(by cases he),λhe=>(by cases he)⟩,(by show(1:Nat)≠0;decide),?_,rfl⟩⟩
    ·obtain⟨l,e1,e2,e3⟩:=hok.four rfl
     cases e1;exact e2
    ·show bt.drop 1≠[]
     intro hh;have:=congrArg List.length hh;simp at this;omega
    ·show(bt.take 1++bt.drop 1).drop 1=bt.drop 1
     rw[hh]
   ·show(bt.take 1++bt.drop 1)++_=_
    rw[hh,hg];rw[show bt++(rl c m v).drop bt.length=(rl c m v).take bt.length++(rl c m v).drop bt.length by rw[hbt],List.take_append_drop]
   ·dsimp only at he
    subst he;show bt.take 1++bt.drop 1=(if true=true then [bt.getD 0 0] else [])++bt.drop 1;rw[if_pos rfl]
    congr 1
    cases bt with
    | nil=>simp at hpos
    | cons g l=>rfl
   ·have hdz:¬ aO d.w=0:=by rw[hd.w];omega
    unfold cw;rw[if_neg hdz,show cj (aO d.w)=(bt.length:Int) by rw[hd.w,nD];exact hlen.symm];exact hd.gain hw hB (hs' v) hold hw'
   ·show c6 c d=bt.take 1++bt.drop 1
    unfold c6;rw[hh,hd.l,show(cj (aO d.w)).toNat=bt.length by rw[hd.w,nD];omega];exact hbt
  ·have e:ai c p v ⟨3,w,bt,none⟩ m=(⟨1,w,[],none⟩,m.tick):=by simp only[ai,if_neg hc]
   rw[e]at hok ⊢;exact⟨a1,a2,a3,.inl ⟨Nat.succ_ne_zero _,λh=>absurd h.2 (by simp[bD.many]),⟨hok,λ_=>hgn,λhe=>(by rcases he with he | he<;>cases he),λhe=>(by cases he),λhe=>(by cases he)⟩,hR.tick,rfl⟩⟩
 | 4,_ =>
  obtain⟨hgn,l,Jw,hL,hl0,hrs,hls⟩:=s4 rfl;subst Jw;obtain⟨b1,b2,b3,b4,b5,b6⟩:=Hn hR hp hL hl0;have e:ai c p v ⟨4,w,bt,some l⟩ m=(⟨if (av c p l m).1.st=0 then 0 else 4,w,bt,some (av c p l m).1⟩,(av c p l m).2):=rfl;rw[e]at hok ⊢;obtain⟨hlb,hb0⟩:=h.ok.lay l rfl
  by_cases hd0:(av c p l m).1.st=0
  ·rw[if_pos hd0]at hok ⊢
   refine⟨b1,b2,λq hq hne _=>b3 q hq hne,.inr (.inr ⟨hgn,rfl,(b3 v hv hpv).1,(b3 v hv hpv).2,?_,λd hd=>?_⟩)⟩
   ·show(((if true=true then [bt.getD 0 0] else [])++(av c p l m).1.ls)++rl c (av c p l m).2 p).Perm ((bt.take 1++l.ls)++rl c m p)
    rw[if_pos rfl];have h1:bt.take 1=[bt.getD 0 0]:=by
     cases bt with
     | nil=>simp at hb0
     | cons g l=>rfl
    have hperm:((av c p l m).1.ls++rl c (av c p l m).2 p).Perm (l.ls++rl c m p):=by
     have:=(b6 hd0).1;exact(List.perm_append_comm.trans (by rw[this])).trans List.perm_append_comm
    rw[h1,List.append_assoc,List.append_assoc];exact hperm.append_left _
   ·obtain⟨k1,k2⟩:=(b6 hd0).2 d hd
    rw[hrs,← hls];exact⟨k1,k2⟩
  ·rw[if_neg hd0]at hok ⊢
   obtain⟨k1,k2,k3⟩:=b5 hd0;refine⟨b1,b2,λq hq hne _=>b3 q hq hne,.inl ⟨Nat.succ_ne_zero _,λh=>absurd h.1 (by rw[hgn];decide),⟨hok,λhe=>(by rcases he with he | he | he<;>cases he),λhe=>(by rcases he with he | he<;>cases he),λhe=>(by cases he),λ_=>⟨hgn,_,rfl,k1,hd0,hrs,k3.trans hls⟩⟩,k2,?_⟩⟩;show bt.take 1++(av c p l m).1.ls=bt.take 1++l.ls;rw[k3]
end
def yP(c:aP)(B:Int)(m:bw)(p:Nat)(M:bG)(gn:Bool)(rs:List Int):Prop :=
 match M with
 | .put u=>r6 c B m p u
 | .get u=>r7 c B m p u
 | .steal v u=>v<c.n/\v≠p/\lW c B m p v u gn rs
def KI(o:bX)(M:bG):Prop :=
 match M with
 | .put u=>o.kd=1/\o.cg=u.gg
 | .get _=>o.kd=2
 | .steal v _=>o.kd=3/\o.cv=(v:Int)
structure JC(c:aP)(B:Int)(m:bw)(p:Nat)(o:bX):Prop where
 dq:mG c m p o.dq
 rs:o.rs.length<=64
 dx:∀ M,o.dx=some M->M.st≠0/\yP c B m p M o.gn o.rs/\KI o M
structure dR(c:aP)(B:Int)(x:aE):Prop where
 R:Rings c B x.m
 len:x.ow.length=c.n
 ow:∀ (p:Nat) o,x.ow[p]? = some o->JC c B x.m p o
 ok:x.bad=false
structure Ho(c:aP)(B:Int)(x:aE)(p:Nat)(o:bX)(M:bG)(m:bw)(x1:aE):Prop where
 mem:x1.m=m
 len:x1.ow.length=c.n
 bad:x1.bad=false
 self:∃ o1,x1.ow[p]? = some o1/\o1.kd=o.kd/\o1.cv=o.cv/\o1.cg=o.cg/\o1.dx=some M/\mG c m p o1.dq/\o1.rs.length<=64/\(M.st≠0->yP c B m p M o1.gn o1.rs)
 other:∀ (q:Nat) oq,q≠p->x.ow[q]? = some oq->∃ d,x1.ow[q]? = some (oq.fh d)/\mG c m q d
def nE(o:bX):List Int:=(o.dx.map bG.hands).getD []
def dY(l:List bX)(q:Nat):List Int:=(l[q]?.map nE).getD []
def cJ(x:aE)(q:Nat):List Int:=dY x.ow q
def r8(c:aP)(x:aE):List Int:=(List.range c.n).flatMap (λq=>rl c x.m q++cJ x q)
def p9(M:bG):List Int:=M.over++(if 0<=M.got then [M.got] else [])
theorem lX{n p:Nat}(f:Nat->List Int)(hp:p<n):((List.range n).flatMap f).Perm (f p++((List.range n).erase p).flatMap f):=by
 have:=(List.perm_cons_erase (List.mem_range.2 hp)).flatMap_right f
 rwa [List.flatMap_cons]at this
theorem BW{n p:Nat}{f f':Nat->List Int}(h:∀ q,q<n->q≠p->f' q=f q):((List.range n).erase p).flatMap f'=((List.range n).erase p).flatMap f:=by
 rw[List.flatMap_def,List.flatMap_def]
 congr 1
 apply List.map_congr_left;intro q hq;have:=(List.Nodup.mem_erase_iff List.nodup_range).1 hq;exact h q (List.mem_range.1 this.2) this.1
theorem Hp{n p:Nat}{f f':Nat->List Int}{out:List Int}(hp:p<n)(h:∀ q,q<n->q≠p->f' q=f q)(hh:(f p).Perm (f' p++out)):((List.range n).flatMap f).Perm ((List.range n).flatMap f'++out):=by
 refine(lX f hp).trans (List.Perm.trans ?_ ((lX f' hp).symm.append_right out));rw[BW h];refine(hh.append_right _).trans ?_;rw[List.append_assoc,List.append_assoc];exact(List.perm_append_comm).append_left _
theorem Me{n p v:Nat}{f f':Nat->List Int}{out:List Int}(hp:p<n)(hv:v<n)(hpv:v≠p)(h:∀ q,q<n->q≠p->q≠v->f' q=f q)(hh:(f p++f v).Perm ((f' p++f' v)++out)):((List.range n).flatMap f).Perm ((List.range n).flatMap f'++out):=by
 have two:∀ g:Nat->List Int,((List.range n).flatMap g).Perm ((g p++g v)++(((List.range n).erase p).erase v).flatMap g):=λg=>by
  refine(lX g hp).trans ?_;have hm:v ∈ (List.range n).erase p:=(List.Nodup.mem_erase_iff List.nodup_range).2 ⟨hpv,List.mem_range.2 hv⟩;have:=(List.perm_cons_erase hm).flatMap_right g;rw[List.flatMap_cons]at this;rw[List.append_assoc];exact this.append_left _
 refine(two f).trans (List.Perm.trans ?_ ((two f').symm.append_right out));have e:(((List.range n).erase p).erase v).flatMap f'=(((List.range n).erase p).erase v).flatMap f:=by
  rw[List.flatMap_def,List.flatMap_def]
  congr 1
  apply List.map_congr_left;intro q hq;have h1:=(List.Nodup.mem_erase_iff (List.nodup_range.erase p)).1 hq;have h2:=(List.Nodup.mem_erase_iff List.nodup_range).1 h1.2;exact h q (List.mem_range.1 h2.2) h2.1 h1.1
 rw[e];refine(hh.append_right _).trans ?_;simp only[List.append_assoc];exact((List.perm_append_comm).append_left _).append_left _
section
variable{c:aP}{B:Int}{x:aE}{p:Nat}{o:bX}{M:bG}
theorem oO(o:bX):o.fh o.dq=o:=rfl
theorem r9(hI:dR c B x)(ho:x.ow[p]? = some o)(hM:o.dx=some M) :
  bT c (M.step c p x.m).2/\(∀ q,q<c.n->di c (p=q) q x.m (M.step c p x.m).2)/\
  Ho c (B+8) x p o (M.step c p x.m).1 (M.step c p x.m).2 (bj c (aE.own ⟨(M.step c p x.m).2,x.ow,x.pts,x.bad⟩ p (o.now (some (M.step c p x.m).1))) p (o.now (some (M.step c p x.m).1)) (M.step c p x.m).1)/\
  ((List.range c.n).flatMap (λq=>rl c x.m q++cJ x q)).Perm ((List.range c.n).flatMap (λq=>rl c (M.step c p x.m).2 q++(if q=p then (if (M.step c p x.m).1.st=0 then [] else (M.step c p x.m).1.hands) else cJ x q))++(if (M.step c p x.m).1.st=0 then p9 (M.step c p x.m).1 else [])):=by
 have hlt:p<x.ow.length:=(List.getElem?_eq_some_iff.1 ho).1;have hp:p<c.n:=by rw[← hI.len];exact hlt
 have hO:=hI.ow p o ho;obtain⟨h0,wC,hC⟩:=hO.dx M hM;have hR:=hI.R;have P9:cJ x p=M.hands:=by simp[cJ,dY,ho,nE,hM]
 have hset:∀ (m':bw) (o':bX),(aE.own ⟨m',x.ow,x.pts,x.bad⟩ p o').ow[p]? = some o':=λm' o'=>by
  show(x.ow.set p o')[p]? = _;rw[List.getElem?_set_self hlt]
 have hoth:∀ (m':bw) (o':bX) (q:Nat),q≠p->(aE.own ⟨m',x.ow,x.pts,x.bad⟩ p o').ow[q]? = x.ow[q]?:=λm' o' q hq=>by
  show(x.ow.set p o')[q]? = _;rw[List.getElem?_set_ne (Ne.symm hq)]
 have hss:∀ (m':bw) (o1 o2:bX),((aE.own ⟨m',x.ow,x.pts,x.bad⟩ p o1).own p o2).ow[p]? = some o2:=λm' o1 o2=>by
  show((x.ow.set p o1).set p o2)[p]? = _;rw[List.getElem?_set_self (by simp[hlt])]
 have hln:∀ (q:Nat) oq,x.ow[q]? = some oq->q<c.n:=λq oq h=>by rw[← hI.len];exact(List.getElem?_eq_some_iff.1 h).1
 cases M with
 | put u =>
  obtain⟨k1,k2,k3,k4,k5,k6⟩:=yN hR hp wC h0;obtain⟨c1,c2⟩:=hC;have Kx:u.hs=[u.gg]:=r6.hs wC;refine⟨k1,k2,?_,?_⟩
  ·by_cases hd:(aB c p u x.m).1.st=0
   ·obtain⟨j1,j2,j3⟩:=k6 hd o.dq hO.dq
    have e:bj c (aE.own ⟨((bG.put u).step c p x.m).2,x.ow,x.pts,x.bad⟩ p (o.now (some ((bG.put u).step c p x.m).1))) p (o.now (some ((bG.put u).step c p x.m).1)) ((bG.put u).step c p x.m).1=((aE.own ⟨(aB c p u x.m).2,x.ow,x.pts,x.bad⟩ p (o.now (some (.put (aB c p u x.m).1)))).own p ((o.now (some (.put (aB c p u x.m).1))).fh (cK c o.dq o.cg).1)).holds (decide ((cK c o.dq o.cg).2=(aB c p u x.m).1.hs)):=by
     simp only[bG.step,bj,if_pos hd];rfl
    rw[e];refine⟨rfl,by simp[aE.holds,aE.own,hI.len],by simp[aE.holds,aE.own,hI.ok,c2,j2],⟨_,hss _ _ _,rfl,rfl,rfl,rfl,by rw[c2];exact j1,hO.rs,λhe=>absurd hd he⟩,λq oq hq hoq=>⟨oq.dq,?_,?_⟩⟩
    ·show((x.ow.set p _).set p _)[q]? = _
     rw[List.getElem?_set_ne (Ne.symm hq),List.getElem?_set_ne (Ne.symm hq),hoq,oO]
    ·exact(hI.ow q oq hoq).dq.still (k3 q (hln q oq hoq) hq).2 (k3 q (hln q oq hoq) hq).1
   ·obtain⟨j1,j2⟩:=k5 hd
    have e:bj c (aE.own ⟨((bG.put u).step c p x.m).2,x.ow,x.pts,x.bad⟩ p (o.now (some ((bG.put u).step c p x.m).1))) p (o.now (some ((bG.put u).step c p x.m).1)) ((bG.put u).step c p x.m).1=(aE.own ⟨(aB c p u x.m).2,x.ow,x.pts,x.bad⟩ p (o.now (some (.put (aB c p u x.m).1)))):=by
     simp only[bG.step,bj,if_neg hd]
    rw[e];exact⟨rfl,by simp[aE.own,hI.len],hI.ok,⟨_,hset _ _,rfl,rfl,rfl,rfl,hO.dq.still (j2.l p hp) (j2.w p hp),hO.rs,λ_=>j1⟩,λq oq hq hoq=>⟨oq.dq,(hoth _ _ q hq).trans hoq,(hI.ow q oq hoq).dq.still (j2.l q (hln q oq hoq)) (j2.w q (hln q oq hoq))⟩⟩
  ·refine Hp hp (λq hq hne=>?_) ?_
   ·show rl c (aB c p u x.m).2 q++_=_
    rw[if_neg hne,(k3 q hq hne).2]
   ·show(rl c x.m p++cJ x p).Perm ((rl c (aB c p u x.m).2 p++_)++_)
    rw[P9,if_pos rfl];show(rl c x.m p++u.hs).Perm _
    by_cases hd:(aB c p u x.m).1.st=0
    ·obtain⟨j1,j2,j3⟩:=k6 hd o.dq hO.dq
     have hd2:((bG.put u).step c p x.m).1.st=0:=hd;rw[if_pos hd2,if_pos hd2,Kx,List.append_nil];have e:p9 ((bG.put u).step c p x.m).1=(aB c p u x.m).1.hs:=by
      simp[p9,bG.step,bG.over,bG.got,hd]
     rw[e];exact j3.symm
    ·obtain⟨j1,j2⟩:=k5 hd
     have hd2:¬ ((bG.put u).step c p x.m).1.st=0:=hd;rw[if_neg hd2,if_neg hd2,j2.l p hp,List.append_nil];show(rl c x.m p++u.hs).Perm (rl c x.m p++(aB c p u x.m).1.hs);rw[Kx,show(aB c p u x.m).1.hs=[(aB c p u x.m).1.gg] from r6.hs j1,k4]
 | get u =>
  obtain⟨k1,k2,k3,k5,k6⟩:=yO hR hp wC h0;refine⟨k1,k2,?_,?_⟩
  ·by_cases hd:(aC c p u x.m).1.st=0
   ·obtain⟨j1,j2,j3,j4⟩:=k6 hd o.dq hO.dq
    have e:bj c (aE.own ⟨((bG.get u).step c p x.m).2,x.ow,x.pts,x.bad⟩ p (o.now (some ((bG.get u).step c p x.m).1))) p (o.now (some ((bG.get u).step c p x.m).1)) ((bG.get u).step c p x.m).1=((aE.own ⟨(aC c p u x.m).2,x.ow,x.pts,x.bad⟩ p (o.now (some (.get (aC c p u x.m).1)))).own p ((o.now (some (.get (aC c p u x.m).1))).fh (lh o.dq))).holds (decide ((aX c o.dq).headD 0=(if (aC c p u x.m).1.has then (aC c p u x.m).1.sn else 0))&&(decide (aO o.dq.w≠0)==(aC c p u x.m).1.has)):=by
     simp only[bG.step,bj,if_pos hd];rfl
    rw[e];refine⟨rfl,by simp[aE.holds,aE.own,hI.len],?_,⟨_,hss _ _ _,rfl,rfl,rfl,rfl,j1,hO.rs,λhe=>absurd hd he⟩,λq oq hq hoq=>⟨oq.dq,?_,?_⟩⟩
    ·show(x.bad || !_)=false
     rw[hI.ok,j3,j2];simp
    ·show((x.ow.set p _).set p _)[q]? = _
     rw[List.getElem?_set_ne (Ne.symm hq),List.getElem?_set_ne (Ne.symm hq),hoq,oO]
    ·exact(hI.ow q oq hoq).dq.still (k3 q (hln q oq hoq) hq).2 (k3 q (hln q oq hoq) hq).1
   ·obtain⟨j1,j2⟩:=k5 hd
    have e:bj c (aE.own ⟨((bG.get u).step c p x.m).2,x.ow,x.pts,x.bad⟩ p (o.now (some ((bG.get u).step c p x.m).1))) p (o.now (some ((bG.get u).step c p x.m).1)) ((bG.get u).step c p x.m).1=(aE.own ⟨(aC c p u x.m).2,x.ow,x.pts,x.bad⟩ p (o.now (some (.get (aC c p u x.m).1)))):=by
     simp only[bG.step,bj,if_neg hd]
    rw[e];exact⟨rfl,by simp[aE.own,hI.len],hI.ok,⟨_,hset _ _,rfl,rfl,rfl,rfl,hO.dq.still (j2.l p hp) (j2.w p hp),hO.rs,λ_=>j1⟩,λq oq hq hoq=>⟨oq.dq,(hoth _ _ q hq).trans hoq,(hI.ow q oq hoq).dq.still (j2.l q (hln q oq hoq)) (j2.w q (hln q oq hoq))⟩⟩
  ·refine Hp hp (λq hq hne=>?_) ?_
   ·show rl c (aC c p u x.m).2 q++_=_
    rw[if_neg hne,(k3 q hq hne).2]
   ·show(rl c x.m p++cJ x p).Perm ((rl c (aC c p u x.m).2 p++_)++_)
    rw[P9,if_pos rfl];have hh0:(bG.get u).hands=[]:=by
     simp only[bG.hands];rw[(r7.ok wC).has h0];rfl
    rw[hh0,List.append_nil]
    by_cases hd:(aC c p u x.m).1.st=0
    ·obtain⟨j1,j2,j3,j4⟩:=k6 hd o.dq hO.dq
     have hd2:((bG.get u).step c p x.m).1.st=0:=hd;rw[if_pos hd2,if_pos hd2,List.append_nil];have e:p9 ((bG.get u).step c p x.m).1=(if (aC c p u x.m).1.has then [(aC c p u x.m).1.sn] else []):=by
      show[]++(if 0<=(if (aC c p u x.m).1.has then (aC c p u x.m).1.sn else -1) then [if (aC c p u x.m).1.has then (aC c p u x.m).1.sn else -1] else [])=_;cases hh:(aC c p u x.m).1.has with
      | false=>simp
      | true =>
       rw[hh]at j4;simp only[if_true]at j4 ⊢;have hmem:(aC c p u x.m).1.sn ∈ rl c x.m p:=by rw[← j4];simp
       have:0<=(aC c p u x.m).1.sn:=by
        unfold rl win at hmem;obtain⟨i,_,ei⟩:=List.mem_map.1 hmem;rw[← ei];exact(hR.sl p hp _).1
       rw[if_pos this];rfl
     rw[e,← j4];exact List.perm_append_comm
    ·obtain⟨j1,j2⟩:=k5 hd
     have hd2:¬ ((bG.get u).step c p x.m).1.st=0:=hd;rw[if_neg hd2,if_neg hd2,j2.l p hp,List.append_nil];have Sm:((bG.get u).step c p x.m).1.hands=[]:=by
      simp only[bG.step,bG.hands];rw[(r7.ok j1).has hd];rfl
     rw[Sm,List.append_nil]
 | steal v u =>
  obtain⟨hv,hpv,MG⟩:=wC;obtain⟨k1,k2,k3,k4⟩:=AI hR hp hv hpv MG h0;have hok:=(iD hp hv MG.ok hR.mem hR.sl).1;obtain⟨ov,hov⟩:∃ ov,x.ow[v]? = some ov:=⟨_,List.getElem?_eq_getElem (by rw[hI.len];exact hv)⟩;have hgn:(o.now (some ((bG.steal v u).step c p x.m).1)).gn=o.gn:=rfl;have hstep:(bG.steal v u).step c p x.m=(.steal v (ai c p v u x.m).1,(ai c p v u x.m).2):=rfl;have P_:(aE.own ⟨(ai c p v u x.m).2,x.ow,x.pts,x.bad⟩ p (o.now (some (.steal v (ai c p v u x.m).1)))).ow[v]? = some ov:=(hoth _ _ v hpv).trans hov;have gets:∀ s:bD,(∀ g ∈ s.bt,Gn g)->0<s.bt.length->(bG.steal v s).over++(if 0<=(bG.steal v s).got then [(bG.steal v s).got] else [])=s.left++(if s.got.2 then [s.got.1] else []):=λs hg hb=>by
   show s.left++(if 0<=(if s.got.2 then s.got.1 else -1) then [if s.got.2 then s.got.1 else -1] else [])=_
   congr 1
   cases h2:s.got.2 with
   | false=>simp
   | true =>
    simp only[if_true];have:0<=s.got.1:=by
     unfold bD.got at h2 ⊢
     split
     ·split
      ·cases hb2:s.bt with
       | nil=>rw[hb2]at hb;simp at hb
       | cons g l=>exact(hg g (by rw[hb2];exact List.mem_cons_self ..)).1
      ·exact Int.le_refl _
     ·exact Int.le_refl _
    rw[if_pos this]
  have Hq:∀ s:bD,s.ly=none->(bG.steal v s).over++(if 0<=(bG.steal v s).got then [(bG.steal v s).got] else [])=s.left++(if s.got.2 then [s.got.1] else []):=λs hs=>by
   have h1:s.got=(0,false):=by
    unfold bD.got
    split
    ·rw[hs]
    ·rfl
   show s.left++(if 0<=(if s.got.2 then s.got.1 else -1) then [if s.got.2 then s.got.1 else -1] else [])=_;rw[h1];simp
  have P':p9 (.steal v (ai c p v u x.m).1)=(ai c p v u x.m).1.left++(if (ai c p v u x.m).1.got.2 then [(ai c p v u x.m).1.got.1] else []):=by
   unfold p9;cases hl:(ai c p v u x.m).1.ly with
   | none=>exact Hq _ hl
   | some l=>exact gets _ hok.gs (hok.lay l hl).2
  refine⟨k1,k2,?_,?_⟩
  ·rw[hstep]
   rcases k4 with ⟨j1,j2,j3,j4,j5⟩ | ⟨j1,j2,j3,j4,j5,j6,j7,j8,j9⟩ | ⟨j1,j2,j3,j4,j5,j6⟩
   ·have e:bj c (aE.own ⟨(ai c p v u x.m).2,x.ow,x.pts,x.bad⟩ p (o.now (some (.steal v (ai c p v u x.m).1)))) p (o.now (some (.steal v (ai c p v u x.m).1))) (.steal v (ai c p v u x.m).1)=(aE.own ⟨(ai c p v u x.m).2,x.ow,x.pts,x.bad⟩ p (o.now (some (.steal v (ai c p v u x.m).1)))):=by
     simp only[bj];rw[if_neg (λh=>j2 ⟨h.1,h.2.resolve_left j1⟩),if_neg j1]
    rw[e];exact⟨rfl,by simp[aE.own,hI.len],hI.ok,⟨_,hset _ _,rfl,rfl,rfl,rfl,hO.dq.still (j4.l p hp) (j4.w p hp),hO.rs,λ_=>⟨hv,hpv,j3⟩⟩,λq oq hq hoq=>⟨oq.dq,(hoth _ _ q hq).trans hoq,(hI.ow q oq hoq).dq.still (j4.l q (hln q oq hoq)) (j4.w q (hln q oq hoq))⟩⟩
   ·obtain⟨d1,d2⟩:=j9 ov.dq (hI.ow v ov hov).dq
    have e:bj c (aE.own ⟨(ai c p v u x.m).2,x.ow,x.pts,x.bad⟩ p (o.now (some (.steal v (ai c p v u x.m).1)))) p (o.now (some (.steal v (ai c p v u x.m).1))) (.steal v (ai c p v u x.m).1)=(((aE.own ⟨(ai c p v u x.m).2,x.ow,x.pts,x.bad⟩ p (o.now (some (.steal v (ai c p v u x.m).1)))).own v (ov.fh (cw ov.dq))).own p ⟨o.kd,o.cv,o.cg,some (.steal v (ai c p v u x.m).1),o.dq,true,(ai c p v u x.m).1.hands.drop 1⟩).holds (decide (c6 c ov.dq=(ai c p v u x.m).1.hands)):=by
     simp only[bj];rw[if_pos ⟨j1,j2⟩,P_];rfl
    rw[e];have hlen:((ai c p v u x.m).1.hands.drop 1).length<=64:=by
     unfold bD.hands;cases hl:(ai c p v u x.m).1.ly with
     | none=>simp
     | some l =>
      have:=(hok.lay l hl).1.ls;simp only[List.length_drop,List.length_append,List.length_take];omega
    refine⟨rfl,by simp[aE.holds,aE.own,hI.len],by simp[aE.holds,aE.own,hI.ok,d2],⟨⟨o.kd,o.cv,o.cg,some (.steal v (ai c p v u x.m).1),o.dq,true,(ai c p v u x.m).1.hands.drop 1⟩,?_,rfl,rfl,rfl,rfl,hO.dq.still j5 j4,hlen,λhe=>⟨hv,hpv,j3 he⟩⟩,λq oq hq hoq=>?_⟩
    ·show(((x.ow.set p _).set v _).set p _)[p]? = _
     rw[List.getElem?_set_self (by simp[hlt])]
    ·by_cases KJ:q=v
     ·subst KJ
      rw[hov]at hoq;cases hoq;refine⟨_,?_,d1⟩;show(((x.ow.set p _).set q _).set p _)[q]? = _;rw[List.getElem?_set_ne (Ne.symm hq),List.getElem?_set_self (by simp[hI.len,hv])]
     ·refine⟨oq.dq,?_,(hI.ow q oq hoq).dq.still (k3 q (hln q oq hoq) hq KJ).2 (k3 q (hln q oq hoq) hq KJ).1⟩
      show(((x.ow.set p _).set v _).set p _)[q]? = _;rw[List.getElem?_set_ne (Ne.symm hq),List.getElem?_set_ne (Ne.symm KJ),List.getElem?_set_ne (Ne.symm hq),hoq,oO]
   ·obtain⟨d1,d2⟩:=j6 o.dq hO.dq
    have e:bj c (aE.own ⟨(ai c p v u x.m).2,x.ow,x.pts,x.bad⟩ p (o.now (some (.steal v (ai c p v u x.m).1)))) p (o.now (some (.steal v (ai c p v u x.m).1))) (.steal v (ai c p v u x.m).1)=((aE.own ⟨(ai c p v u x.m).2,x.ow,x.pts,x.bad⟩ p (o.now (some (.steal v (ai c p v u x.m).1)))).own p ((o.now (some (.steal v (ai c p v u x.m).1))).fh (cU c o.dq (o.rs.take (tx c o.dq o.rs))))).holds (decide (o.rs.drop (tx c o.dq o.rs)=(ai c p v u x.m).1.left)):=by
     simp only[bj];rw[if_neg (λh=>by have:=h.1;rw[show(o.now (some (.steal v (ai c p v u x.m).1))).gn=o.gn from rfl,j1]at this;cases this),if_pos j2];rfl
    rw[e];refine⟨rfl,by simp[aE.holds,aE.own,hI.len],by simp[aE.holds,aE.own,hI.ok,d2],⟨_,hss _ _ _,rfl,rfl,rfl,rfl,d1,hO.rs,λhe=>absurd j2 he⟩,λq oq hq hoq=>⟨oq.dq,?_,?_⟩⟩
    ·show((x.ow.set p _).set p _)[q]? = _
     rw[List.getElem?_set_ne (Ne.symm hq),List.getElem?_set_ne (Ne.symm hq),hoq,oO]
    ·by_cases KJ:q=v
     ·subst KJ
      exact(hI.ow q oq hoq).dq.still j4 j3
     ·exact(hI.ow q oq hoq).dq.still (k3 q (hln q oq hoq) hq KJ).2 (k3 q (hln q oq hoq) hq KJ).1
  ·rw[hstep]
   show((List.range c.n).flatMap _).Perm ((List.range c.n).flatMap (λq=>rl c (ai c p v u x.m).2 q++(if q=p then (if (ai c p v u x.m).1.st=0 then [] else (ai c p v u x.m).1.hands) else cJ x q))++(if (ai c p v u x.m).1.st=0 then p9 (.steal v (ai c p v u x.m).1) else []));refine Me hp hv hpv (λq hq hne Sn=>?_) ?_
   ·rw[if_neg hne,(k3 q hq hne Sn).2]
   ·rw[if_pos rfl,if_neg hpv,P9,show(bG.steal v u).hands=u.hands from rfl,P']
    rcases k4 with ⟨j1,j2,j3,j4,j5⟩ | ⟨j1,j2,j3,j4,j5,j6,j7,j8,j9⟩ | ⟨j1,j2,j3,j4,j5,j6⟩
    ·rw[if_neg j1,if_neg j1,j4.l p hp,j4.l v hv,j5,List.append_nil]
    ·rw[j5,j6,← j7,List.append_nil]
     by_cases hd:(ai c p v u x.m).1.st=0
     ·rw[if_pos hd,if_pos hd,List.append_nil]
      rw[j8 hd];rw[List.append_assoc,List.append_assoc,List.append_assoc];refine List.Perm.append_left _ ?_;rw[← List.append_assoc];refine(List.perm_append_comm).trans ?_;simp only[List.append_assoc];refine List.Perm.append_left _ ?_;refine List.Perm.append_left _ ?_;exact List.perm_append_comm
     ·rw[if_neg hd,if_neg hd,List.append_nil]
      simp only[List.append_assoc];exact List.Perm.refl _
    ·rw[if_pos j2,if_pos j2,j4,List.append_nil]
     have h1:(rl c x.m p++u.hands).Perm (rl c (ai c p v u x.m).2 p++((ai c p v u x.m).1.left++(if (ai c p v u x.m).1.got.2 then [(ai c p v u x.m).1.got.1] else []))):=by
      refine(List.perm_append_comm).trans (j5.symm.trans ?_);refine(List.perm_append_comm).trans ?_;exact List.Perm.append_left _ List.perm_append_comm
     refine(h1.append_right _).trans ?_;simp only[List.append_assoc];refine List.Perm.append_left _ ?_;rw[← List.append_assoc];refine(List.perm_append_comm).trans ?_;simp only[List.append_assoc];exact List.Perm.refl _
end
section
variable{c:aP}{B:Int}{x:aE}{p:Nat}{o:bX}{M:bG}
def iE(c:aP)(x:aE)(p:Nat)(o:bX)(M:bG):aE:=bj c (aE.own ⟨(M.step c p x.m).2,x.ow,x.pts,x.bad⟩ p (o.now (some (M.step c p x.m).1))) p (o.now (some (M.step c p x.m).1)) (M.step c p x.m).1
theorem mG.same{m:bw}{q:Nat}{d:ki}(h:mG c m q d)(hs:∀ i,Gn (sl c m q i)):ii c m q=aX c d:=by
 have h1:=h.ok.sz;have h2:=c.qb;rw[h.l,Hm hs (by rw[← h.w];omega)]
theorem yQ{m:bw}{x1:aE}(hI:dR c B x)(hM:Ho c (B+8) x p o M m x1)(hs:kR c m)(ho:x.ow[p]? = some o){q:Nat}{oq:bX}(hq:x1.ow[q]? = some oq):mG c m q oq.dq/\ii c m q=aX c oq.dq:=by
 have hlt:q<c.n:=by rw[← hM.len];exact(List.getElem?_eq_some_iff.1 hq).1
 have hd:mG c m q oq.dq:=by
  by_cases e:q=p
  ·subst e
   obtain⟨o1,k1,_,_,_,_,k2,_⟩:=hM.self;rw[hq]at k1;cases k1;exact k2
  ·obtain⟨o2,h2⟩:∃ o2,x.ow[q]? = some o2:=⟨_,List.getElem?_eq_getElem (by rw[hI.len];exact hlt)⟩
   obtain⟨d,k1,k2⟩:=hM.other q o2 e h2;rw[hq]at k1;cases k1;exact k2
 exact⟨hd,hd.same (hs q hlt)⟩
theorem look_eq{m:bw}{x1:aE}(hI:dR c B x)(hM:Ho c (B+8) x p o M m x1)(hs:kR c m)(ho:x.ow[p]? = some o):rV c x1=x1:=by
 have hall:(List.range c.n).all (sameAt c x1)=true:=by
  rw[List.all_eq_true];intro q hq;unfold sameAt;cases h:x1.ow[q]? with
  | none=>rfl
  | some oq =>
   dsimp only;rw[hM.mem];simpa using (yQ hI hM hs ho h).2
 unfold rV;rw[hall,hM.bad];have:=hM.bad;cases x1;simp at this;subst this;rfl
theorem yP.keep{m m':bw}{own:Nat->Prop}{q:Nat}{gn:Bool}{rs:List Int}(hR:Rings c B m)(hr:∀ v,v<c.n->di c (own v) v m m')(hq:q<c.n)(hn:¬ own q){M:bG}(h:yP c B m q M gn rs):yP c (B+8) m' q M gn rs:=by
 cases M with
 | put u=>exact r6.keep h (hr q hq) hn (hR.w q hq) hR.hB
 | get u=>exact r7.keep h (hr q hq) hn (hR.w q hq) hR.hB
 | steal v u =>
  obtain⟨h1,h2,h3⟩:=h;exact⟨h1,h2,h3.keep hR.h8 (hr q hq) hn (hr v h1) (hR.w q hq) (hR.w v h1) hR.hB⟩
theorem mC(hI:dR c B x)(hB:B+8<=1073741824)(ho:x.ow[p]? = some o)(hM:o.dx=some M) :
  dR c (B+8) (b_ c x p o M).1/\(r8 c x).Perm (r8 c (b_ c x p o M).1++(if (M.step c p x.m).1.st=0 then p9 (M.step c p x.m).1 else []))/\
  mt c x p o M=iE c x p o M/\Ho c (B+8) x p o (M.step c p x.m).1 (M.step c p x.m).2 (iE c x p o M)/\Rings c (B+8) (M.step c p x.m).2:=by
 obtain⟨k1,k2,k3,k4⟩:=r9 hI ho hM;have hlt:p<x.ow.length:=(List.getElem?_eq_some_iff.1 ho).1;have hp:p<c.n:=by rw[← hI.len];exact hlt
 have hO:=hI.ow p o ho;obtain⟨h0,wC,hC⟩:=hO.dx M hM;have hR':Rings c (B+8) (M.step c p x.m).2:=hI.R.next (own:=λq=>p=q) k1 k2 hB
 have hmid:mt c x p o M=iE c x p o M:=look_eq hI k3 hR'.sl ho;obtain⟨o1,e1,e2,e3,e4,e5,e6,e7,e8⟩:=k3.self;obtain⟨x1,hx1⟩:∃ x1,iE c x p o M=x1:=⟨_,rfl⟩;have wD:Ho c (B+8) x p o (M.step c p x.m).1 (M.step c p x.m).2 x1:=by rw[← hx1];exact k3
 have KX:x1.ow[p]? = some o1:=by rw[← hx1];exact e1
 have hoth:∀ (q:Nat) oq,q≠p->x1.ow[q]? = some oq->∃ o2 d,x.ow[q]? = some o2/\oq=o2.fh d/\mG c (M.step c p x.m).2 q d:=λq oq hq h=>by
  have hq2:q<c.n:=by rw[← wD.len];exact(List.getElem?_eq_some_iff.1 h).1
  obtain⟨o2,h2⟩:∃ o2,x.ow[q]? = some o2:=⟨_,List.getElem?_eq_getElem (by rw[hI.len];exact hq2)⟩;obtain⟨d,j1,j2⟩:=wD.other q o2 hq h2;rw[h]at j1;exact⟨o2,d,h2,Option.some.inj j1,j2⟩
 have hkeep:∀ (q:Nat) oq,q≠p->x1.ow[q]? = some oq->JC c (B+8) (M.step c p x.m).2 q oq:=λq oq hq h=>by
  have hq2:q<c.n:=by rw[← wD.len];exact(List.getElem?_eq_some_iff.1 h).1
  obtain⟨o2,d,h2,rfl,hd⟩:=hoth q oq hq h;have hO2:=hI.ow q o2 h2;refine⟨hd,hO2.rs,λM2 hM2=>?_⟩;obtain⟨m1,m2,m3⟩:=hO2.dx M2 hM2;exact⟨m1,m2.keep hI.R k2 hq2 (Ne.symm hq),m3⟩
 have Hr:∀ q,q≠p->cJ x1 q=cJ x q:=λq hq=>by
  unfold cJ dY;cases h:x1.ow[q]? with
  | none =>
   have:x.ow[q]? = none:=by
    rw[List.getElem?_eq_none_iff]at h ⊢;rw[hI.len,← wD.len];exact h
   rw[this]
  | some oq =>
   obtain⟨o2,d,h2,rfl,hd⟩:=hoth q oq hq h;rw[h2];rfl
 unfold b_;rw[hmid,hx1]
 by_cases hd:(M.step c p x.m).1.st=0
 ·rw[if_pos hd,KX]
  refine⟨⟨?_,?_,λq oq hq=>?_,wD.bad⟩,?_,rfl,wD,hR'⟩
  ·show Rings c (B+8) x1.m
   rw[wD.mem];exact hR'
  ·show(x1.ow.set p _).length=c.n
   rw[List.length_set,wD.len]
  ·show JC c (B+8) x1.m q oq
   rw[wD.mem];replace hq:(x1.ow.set p (o1.now none))[q]? = some oq:=hq
   by_cases e:q=p
   ·subst e
    rw[List.getElem?_set_self (by rw[wD.len];exact hp)]at hq;cases hq;exact⟨e6,e7,λM2 hM2=>by cases hM2⟩
   ·rw[List.getElem?_set_ne (Ne.symm e)]at hq
    exact hkeep q oq e hq
  ·rw[if_pos hd]
   rw[if_pos hd,if_pos hd]at k4;refine k4.trans (List.Perm.append_right _ ?_);have:(List.range c.n).flatMap (λq=>rl c (M.step c p x.m).2 q++(if q=p then [] else cJ x q))=r8 c (x1.own p (o1.now none)):=by
    unfold r8;rw[List.flatMap_def,List.flatMap_def]
    congr 1
    apply List.map_congr_left;intro q hq;show _=rl c x1.m q++_;rw[wD.mem]
    congr 1
    by_cases e:q=p
    ·subst e
     rw[if_pos rfl];show[]=dY (x1.ow.set q (o1.now none)) q;unfold dY;rw[List.getElem?_set_self (by rw[wD.len];exact hp)];rfl
    ·rw[if_neg e,← Hr q e]
     show dY x1.ow q=dY (x1.ow.set p (o1.now none)) q;unfold dY;rw[List.getElem?_set_ne (Ne.symm e)]
   rw[this]
 ·rw[if_neg hd]
  refine⟨⟨?_,wD.len,λq oq hq=>?_,wD.bad⟩,?_,rfl,wD,hR'⟩
  ·show Rings c (B+8) x1.m
   rw[wD.mem];exact hR'
  ·show JC c (B+8) x1.m q oq
   rw[wD.mem]
   by_cases e:q=p
   ·subst e
    replace hq:x1.ow[q]? = some oq:=hq;rw[KX]at hq;cases hq;refine⟨e6,e7,λM2 hM2=>?_⟩;rw[e5]at hM2;cases hM2;refine⟨hd,e8 hd,?_⟩;cases M with
    | put u=>exact⟨e2.trans hC.1,e4.trans (hC.2.trans ((yN hI.R hp wC h0).2.2.2.1).symm)⟩
    | get u=>exact e2.trans hC
    | steal v u=>exact⟨e2.trans hC.1,e3.trans hC.2⟩
   ·exact hkeep q oq e hq
  ·rw[if_neg hd]
   rw[if_neg hd,if_neg hd]at k4;refine k4.trans (List.Perm.append_right _ ?_);have:(List.range c.n).flatMap (λq=>rl c (M.step c p x.m).2 q++(if q=p then (M.step c p x.m).1.hands else cJ x q))=r8 c x1:=by
    unfold r8;rw[List.flatMap_def,List.flatMap_def]
    congr 1
    apply List.map_congr_left;intro q hq;show _=rl c x1.m q++_;rw[wD.mem]
    congr 1
    by_cases e:q=p
    ·subst e
     rw[if_pos rfl];unfold cJ dY;rw[KX];simp[nE,e5]
    ·rw[if_neg e,← Hr q e]
   rw[this]
end
def db(c:aP)(p:Nat)(kd cv cg:Int):Option bG :=
 if kd=1/\0<=cg then some (.put (gB cg)) else if kd=2 then some (.get jb) else if kd=3/\0<=cv/\cv<(c.n:Int)/\cv≠(p:Int) then some (.steal cv.toNat dX) else none
def bX.wE(o:bX)(kd cv cg:Int)(M:bG):bX:=⟨kd,cv,cg,some M,o.dq,false,o.rs⟩
section
variable{c:aP}{B:Int}{x:aE}{p:Nat}{o:bX}{M:bG}{kd cv cg:Int}
theorem Dr(hg:Gn cg\/cg<0){m:bw}{rs:List Int}(h:db c p kd cv cg=some M):M.st≠0/\yP c B m p M false rs/\KI (o.wE kd cv cg M) M/\M.hands=(if kd=1 then [cg] else [])/\(kd=1->0<=cg):=by
 unfold db at h
 split at h
 ·next h1 =>
  cases h;have e:gB cg=⟨1,cg,0,[],[cg]⟩:=if_pos h1.2;have hG:Gn cg:=hg.resolve_right (by omega);rw[e];refine⟨Nat.succ_ne_zero 0,⟨⟨by show 1<=5;decide,λ_=>hG,⟨Int.le_refl 0,by show(0:Int)<18446744073709551616;decide⟩,by simp,λh=>(by cases h),by show 1<=64;decide⟩,hG,rfl,λh=>(by rcases h with h | h<;>cases h),λh=>(by cases h),λh=>(by rcases h with h | h<;>cases h),λh=>(by cases h)⟩,⟨h1.1,rfl⟩,?_,λ_=>h1.2⟩;rw[if_pos h1.1];rfl
 ·next h1 =>
  split at h
  ·next h2 =>
   cases h;refine⟨Nat.succ_ne_zero 0,⟨⟨by show 1<4;decide,⟨Int.le_refl 0,by show(0:Int)<18446744073709551616;decide⟩,λ_=>rfl⟩,λh=>(by rcases h with h | h<;>cases h),λh=>(by cases h)⟩,h2,?_,λh=>(by omega)⟩;rw[if_neg (by omega)];rfl
  ·next h2 =>
   split at h
   ·next h3 =>
    cases h;obtain⟨q1,q2,q3,q4⟩:=h3;refine⟨Nat.succ_ne_zero 0,⟨by omega,by omega,⟨yK,λ_=>rfl,λh=>(by rcases h with h | h<;>cases h),λh=>(by cases h),λh=>(by cases h)⟩⟩,⟨q1,by show cv=_;omega⟩,?_,λh=>(by omega)⟩;rw[if_neg (by omega)];rfl
   ·cases h
theorem r_(hI:dR c B x)(ho:x.ow[p]? = some o)(hM:o.dx=none)(hg:Gn cg\/cg<0)(h:db c p kd cv cg=some M) :
  dR c B (x.own p (o.wE kd cv cg M))/\(r8 c (x.own p (o.wE kd cv cg M))).Perm (r8 c x++(if kd=1 then [cg] else [])):=by
 have hlt:p<x.ow.length:=(List.getElem?_eq_some_iff.1 ho).1;have hp:p<c.n:=by rw[← hI.len];exact hlt
 have hO:=hI.ow p o ho;obtain⟨h1,h2,h3,h4,_⟩:=Dr (o:=o) (B:=B) (m:=x.m) (rs:=o.rs) hg h;refine⟨⟨hI.R,by show(x.ow.set p _).length=_;rw[List.length_set,hI.len],λq oq hq=>?_,hI.ok⟩,?_⟩
 ·replace hq:(x.ow.set p (o.wE kd cv cg M))[q]? = some oq:=hq
  by_cases e:q=p
  ·subst e
   rw[List.getElem?_set_self hlt]at hq;cases hq;refine⟨hO.dq,hO.rs,λM2 hM2=>?_⟩;cases hM2;exact⟨h1,h2,h3⟩
  ·rw[List.getElem?_set_ne (Ne.symm e)]at hq
   exact hI.ow q oq hq
 ·refine List.Perm.symm ?_
  unfold r8
  by_cases hk:kd=1
  ·rw[if_pos hk]at h4 ⊢
   refine List.Perm.symm (List.Perm.trans (lX _ hp) ?_);refine List.Perm.trans ?_ ((lX _ hp).symm.append_right _)
   have e1:(((List.range c.n).erase p).flatMap λq=>rl c (x.own p (o.wE kd cv cg M)).m q++cJ (x.own p (o.wE kd cv cg M)) q)=(((List.range c.n).erase p).flatMap λq=>rl c x.m q++cJ x q):=BW (λq hq hne=>by
    show rl c x.m q++_=_
    congr 1
    show dY (x.ow.set p _) q=dY x.ow q;unfold dY
    rw[List.getElem?_set_ne (Ne.symm hne)])
   rw[e1];have e2:cJ (x.own p (o.wE kd cv cg M)) p=[cg]:=by
    show dY (x.ow.set p (o.wE kd cv cg M)) p=_;unfold dY;rw[List.getElem?_set_self hlt];exact h4
   have e3:cJ x p=[]:=by
    simp[cJ,dY,ho,nE,hM]
   show((rl c x.m p++cJ (x.own p (o.wE kd cv cg M)) p)++_).Perm _;rw[e2,e3,List.append_nil,List.append_assoc,List.append_assoc];exact List.perm_append_comm.append_left _
  ·rw[if_neg hk]at h4 ⊢
   rw[List.append_nil];have:(List.range c.n).flatMap (λq=>rl c (x.own p (o.wE kd cv cg M)).m q++cJ (x.own p (o.wE kd cv cg M)) q)=(List.range c.n).flatMap (λq=>rl c x.m q++cJ x q):=by
    rw[List.flatMap_def,List.flatMap_def]
    congr 1
    apply List.map_congr_left;intro q hq;show rl c x.m q++_=_
    congr 1
    show dY (x.ow.set p (o.wE kd cv cg M)) q=dY x.ow q;unfold dY
    by_cases e:q=p
    ·subst e
     rw[List.getElem?_set_self hlt,ho];show M.hands=nE o;unfold nE;rw[hM,h4];rfl
    ·rw[List.getElem?_set_ne (Ne.symm e)]
   rw[this]
end
def gD(c:aP):bX:=⟨0,0,0,none,jX c,false,[]⟩
def eD(c:aP):aE:=⟨⟨List.replicate c.cells 0,0⟩,List.replicate c.n (gD c),0,false⟩
theorem BX(n a:Nat):ld ⟨List.replicate n 0,0⟩ a=0:=by
 unfold ld;simp only[List.getD_eq_getElem?_getD,List.getElem?_replicate]
 split<;>rfl
theorem Hs(c:aP)(h8:c.q=2\/c.q=4\/c.q=8):dR c 0 (eD c)/\r8 c (eD c)=[]:=by
 have hw:∀ q,wd c (eD c).m q=0:=λq=>BX _ _
 have hq:=c.qb;have hrl:∀ q,rl c (eD c).m q=[]:=λq=>by
  unfold rl;rw[hw];rfl
 have how:∀ (q:Nat) oq,(eD c).ow[q]? = some oq->oq=gD c:=λq oq h=>by
  simp only[eD,List.getElem?_replicate]at h
  split at h
  ·exact(Option.some.inj h).symm
  ·cases h
 have hz0:aO 0=0:=by decide
 refine⟨⟨⟨⟨by simp[eD,aP.cells],λy hy=>?_⟩,λq _ i=>?_,λq _=>?_,h8,by decide⟩,by simp[eD],λq oq h=>?_,rfl⟩,?_⟩
 ·have:y=0:=(List.mem_replicate.1 hy).2
  rw[this];exact⟨by decide,by decide⟩
 ·show Gn (ld _ _)
  rw[show ld (eD c).m (c.slot q i)=0 from BX _ _];exact⟨by decide,by decide⟩
 ·rw[hw]
  exact⟨⟨by decide,by decide⟩,by decide,by rw[hz0];omega⟩
 ·rw[how q oq h]
  refine⟨⟨yJ c,(hw q).symm,?_⟩,by simp[gD],λM hM=>by cases hM⟩;rw[hrl];unfold aX;rw[show(gD c).dq.w=0 from rfl,hz0];rfl
 ·unfold r8
  rw[List.flatMap_eq_nil_iff];intro q hq;rw[hrl];unfold cJ dY;cases h:(eD c).ow[q]? with
  | none=>rfl
  | some oq =>
   rw[how q oq h];rfl
end Go.Proofs.YtkmccgombmogmaaGreat
