/- Part of a proof: see the last text. -/
import Derived.Test.YtkmccgombmogmaaGreatZf24
set_option linter.unusedSimpArgs false
set_option linter.unusedVariables false
namespace Go.Proofs.YtkmccgombmogmaaGreat
open Go.Ev Go.Proofs.Tryz
open Go.RowKit
structure DV(c:aU)(B:Int)(m:bO)(p:Nat)(l:gu):Prop where
 ok:km l
 ne:l.ls≠[]
 nq:l.st=2\/l.st=3->Seen c B m p l.w/\l.n=min l.ls.length (c.q-(aW l.w).toNat)/\1<=l.n
 s2:l.st=2->l.k<l.n/\∀ (i:Nat) g,i<l.k->l.ls[i]? = some g->sl c m p (cI l.w+(i:Int))=g
 s3:l.st=3->∀ (i:Nat) g,i<l.n->l.ls[i]? = some g->sl c m p (cI l.w+(i:Int))=g
section
variable{c:aU}{B:Int}{m m':bO}{p:Nat}{own:Prop}
theorem DV.keep{l:gu}(h:DV c B m p l)(hr:dB c own p m m')(hn:¬ own)(hw:kD c B (wd c m p))(hB:B<=1073741824):DV c (B+8) m' p l:=by
 obtain⟨k1,k2,k3⟩:=hr.else hn hw hB
 exact⟨h.ok,h.ne,λe=>⟨(h.nq e).1.keep hr hn hw hB,(h.nq e).2⟩,λe=>⟨(h.s2 e).1,λi g hi hg=>by rw[k1];exact(h.s2 e).2 i g hi hg⟩,λe i g hi hg=>by rw[k1];exact h.s3 e i g hi hg⟩
theorem HO(hR:Rings c B m)(hp:p<c.n){l:gu}(h:DV c B m p l)(h0:l.st≠0) :
  bY c (az c p l m).2/\(∀ q,q<c.n->dB c (p=q) q m (az c p l m).2)/\(∀ q,q<c.n->q≠p->wd c (az c p l m).2 q=wd c m q/\rl c (az c p l m).2 q=rl c m q)/\A6 (az c p l m).1/\
  ((az c p l m).1.st≠0->DV c (B+8) (az c p l m).2 p (az c p l m).1/\Quiet c p m (az c p l m).2/\(az c p l m).1.ls=l.ls)/\
  ((az c p l m).1.st=0->rl c (az c p l m).2 p++(az c p l m).1.ls=rl c m p++l.ls/\∀ d,mV c m p d->mV c (az c p l m).2 p (dh c d (l.ls.take (tV c d l.ls)))/\l.ls.drop (tV c d l.ls)=(az c p l m).1.ls):=by
 have hok:=(sj hp h.ok hR.mem).1;have hw:=hR.w p hp;have hB:=hR.hB;have h8:=hR.h8;obtain⟨t1,t2,t3⟩:=hw.tl (by omega);have hz:=hw.sz;have qt:∀ {m':bO},Quiet c p m m'->bY c m'/\(∀ q,q<c.n->dB c (p=q) q m m')/\(∀ q,q<c.n->q≠p->wd c m' q=wd c m q/\rl c m' q=rl c m q):=λk=>⟨k.mem,k.ring,λq hq _=>⟨k.w q hq,k.l q hq⟩⟩
 have hne:=h.ne;have nq:=h.nq;have s2:=h.s2;have s3:=h.s3;have Ef:=h.ok.w;have hgs:=h.ok.gs;obtain⟨st,w,k,n,ls⟩:=l;dsimp only at hne nq s2 s3 Ef h0 hgs
 match st,h.ok.st with
 | 0,_=>exact absurd rfl h0
 | 1,_ =>
  obtain⟨a1,a2,a3⟩:=qt (hR.tick (p:=p));obtain⟨r,hr⟩:∃ r,ni c ls (ld m (c.word p))=r:=⟨_,rfl⟩;have hr2:r=min ls.length (c.q-(aW (wd c m p)).toNat):=by
   rw[← hr];unfold ni;show min ls.length (c.q-min (aW (wd c m p)).toNat c.q)=_;omega
  have e:az c p ⟨1,w,k,n,ls⟩ m=(⟨if r=0 then 0 else 2,ld m (c.word p),0,r,ls⟩,m.tick):=by simp only[az,hr]
  rw[e]at hok ⊢;refine⟨a1,a2,a3,hok.base,λhe=>?_,λhe=>⟨rfl,λd hd=>?_⟩⟩
  ·have hr0:¬ r=0:=λhh=>he (by dsimp only;rw[if_pos hh])
   rw[if_neg hr0]at hok ⊢;exact⟨⟨hok,hne,λ_=>⟨⟨hw.mono (by omega),Int.le_refl _,rfl⟩,hr2,by show 1<=r;omega⟩,λ_=>⟨by show 0<r;omega,λi g hi=>absurd hi (Nat.not_lt_zero _)⟩,λhe=>(by cases he)⟩,hR.tick,rfl⟩
  ·have hr0:r=0:=Classical.byContradiction λhh=>by
    dsimp only at he;rw[if_neg hh]at he;cases he
   have hd0:tV c d ls=0:=by
    unfold tV;rw[hd.w];omega
   rw[hd0];exact⟨hd.still rfl rfl,rfl⟩
 | 2,_ =>
  obtain⟨k1,k2,k3⟩:=nq (.inl rfl);obtain⟨k4,k5⟩:=s2 rfl;obtain⟨u1,u2,u3⟩:=k1.ok.tl (by omega);have kl:=k1.le;have kt:=k1.tl;have kz:=k1.ok.sz;have hkl:k<ls.length:=by omega
  have eg:ls.getD k 0=ls[k]:=by simp[List.getD_eq_getElem?_getD,hkl]
  have NK:Gn ls[k]:=hgs _ (List.getElem_mem hkl);have e:az c p ⟨2,w,k,n,ls⟩ m=(⟨if k+1=n then 3 else 2,w,k+1,n,ls⟩,m.put (c.slot p (cI w+(k:Int))) ls[k]):=by
   simp only[az,eg];rw[o7]
  rw[e]at hok ⊢;have Qt:=hR.store hp NK (j:=cI w+(k:Int)) (by omega) (by omega);obtain⟨a1,a2,a3⟩:=qt Qt;have Rr:Seen c (B+8) (m.put (c.slot p (cI w+(k:Int))) ls[k]) p w:=⟨k1.ok.mono (by omega),by rw[Qt.w p hp];exact kl,by rw[Qt.w p hp];exact kt⟩;have hsl:∀ (i:Nat) g,i<k+1->ls[i]? = some g->sl c (m.put (c.slot p (cI w+(k:Int))) ls[k]) p (cI w+(i:Int))=g:=λi g hi hg=>by
   rw[pf hR.mem hp]
   by_cases hik:i=k
   ·subst hik
    rw[if_pos ⟨rfl,rfl⟩];rw[List.getElem?_eq_getElem hkl]at hg;exact Option.some.inj hg
   ·rw[if_neg (λh=>o6 c (i:=cI w+(i:Int)) (j:=cI w+(k:Int)) (by omega) (by omega) h.2)]
    exact k5 i g (by omega) hg
  refine⟨a1,a2,a3,hok.base,λhe=>⟨⟨hok,hne,λ_=>⟨Rr,k2,k3⟩,λhe2=>?_,λOq=>?_⟩,Qt,rfl⟩,λhe=>?_⟩
  ·dsimp only at he2 ⊢
   refine⟨?_,hsl⟩
   split at he2
   ·cases he2
   ·omega
  ·dsimp only at Oq ⊢
   split at Oq
   ·next h=>rw[← h];exact hsl
   ·cases Oq
  ·dsimp only at he
   split at he<;>cases he
 | 3,_ =>
  obtain⟨k1,k2,k3⟩:=nq (.inr rfl);have k5:=s3 rfl
  by_cases hc:ld m (c.word p)=w
  ·have e:az c p ⟨3,w,k,n,ls⟩ m=(⟨0,w,k,n,ls.drop n⟩,m.put (c.word p) (dQ w (n:Int))):=by simp only[az,if_pos hc]
   rw[e]at hok ⊢;have nT:wd c m p=w:=hc;have hln:(ls.take n).length=n:=by rw[List.length_take];omega
   have hw':wd c (m.put (c.word p) (dQ w (n:Int))) p=dQ (wd c m p) ((ls.take n).length:Int):=by rw[gQ hR.mem hp,if_pos rfl,nT,hln]
   have hs':∀ q i,sl c (m.put (c.word p) (dQ w (n:Int))) q i=sl c m q i:=λq i=>o_ hR.mem hp _ q i
   have ho:∀ q,q≠p->wd c (m.put (c.word p) (dQ w (n:Int))) q=wd c m q:=λq hq=>by rw[gQ hR.mem hp,if_neg hq]
   have hfit:aW (wd c m p)+((ls.take n).length:Int)<=(c.q:Int):=by rw[hln,nT];rw[nT]at hz t3;omega
   have LS:∀ (i:Nat) g,(ls.take n)[i]? = some g->sl c m p (cI (wd c m p)+(i:Int))=g:=λi g hi=>by
    have hlt:=(List.getElem?_eq_some_iff.1 hi).1;rw[hln]at hlt;rw[nT];refine k5 i g hlt ?_;rw[List.getElem?_take,if_pos hlt]at hi;exact hi
   refine⟨hR.mem.put _ (qo Ef _),λq hq=>?_,λq hq hne=>⟨ho q hne,lw (λi _ _=>hs' q i) (ho q hne)⟩,hok.base,λhe=>absurd rfl he,λ_=>⟨?_,λd hd=>?_⟩⟩
   ·by_cases eq:p=q
    ·subst eq
     exact .grow rfl (hs' p) _ (by omega) hfit hw'
    ·exact .none (hs' q) (ho q (Ne.symm eq))
   ·show _++ls.drop n=_
    rw[Cv hw hB (hs' p) hfit hw' LS,List.append_assoc,List.take_append_drop]
   ·have hdn:tV c d ls=n:=by
     unfold tV;rw[hd.w,nT];exact k2.symm
    dsimp only;rw[hdn];exact⟨hd.lay hw hB (hs' p) hfit hw' LS,rfl⟩
  ·have e:az c p ⟨3,w,k,n,ls⟩ m=(⟨1,w,k,n,ls⟩,m.tick):=by simp only[az,if_neg hc]
   rw[e]at hok ⊢;obtain⟨a1,a2,a3⟩:=qt (hR.tick (p:=p));exact⟨a1,a2,a3,hok.base,λ_=>⟨⟨hok,hne,λhe=>(by rcases he with he | he<;>cases he),λhe=>(by cases he),λhe=>(by cases he)⟩,hR.tick,rfl⟩,λhe=>(by cases he)⟩
end
structure nU(c:aU)(B:Int)(m:bO)(p v:Nat)(u:bP)(gn:Bool)(rs:List Int):Prop where
 ok:fH u
 Bd:u.st=1\/u.st=2\/u.st=3->gn=false
 nq:u.st=2\/u.st=3->Kz c B m v u.w u.bt
 s3:u.st=3->(u.bt.length:Int)=cJ (aW u.w)
 s4:u.st=4->gn=true/\∃ l,u.ly=some l/\DV c B m p l/\l.st≠0/\rs=u.bt.drop 1/\l.ls=u.bt.drop 1
section
variable{c:aU}{B:Int}{m m':bO}{p v:Nat}{op ov:Prop}{gn:Bool}{rs:List Int}
theorem nU.keep{u:bP}(h:nU c B m p v u gn rs)(h8:c.q=2\/c.q=4\/c.q=8)(hr:dB c op p m m')(hn:¬ op)(hv:dB c ov v m m')(hw:kD c B (wd c m p))(hwv:kD c B (wd c m v))(hB:B<=1073741824):nU c (B+8) m' p v u gn rs :=
 ⟨h.ok,h.Bd,λe=>(h.nq e).keep h8 hv hwv hB,h.s3,λe=>by
  obtain⟨k1,l,k2,k3,k4,k5⟩:=h.s4 e
  exact⟨k1,l,k2,k3.keep hr hn hw hB,k4,k5⟩⟩
theorem Be(hR:Rings c B m)(hp:p<c.n)(hv:v<c.n)(hpv:v≠p){u:bP}(h:nU c B m p v u gn rs)(h0:u.st≠0) :
  bY c (ai c p v u m).2/\(∀ q,q<c.n->dB c (p=q) q m (ai c p v u m).2)/\(∀ q,q<c.n->q≠p->q≠v->wd c (ai c p v u m).2 q=wd c m q/\rl c (ai c p v u m).2 q=rl c m q)/\
  ((ai c p v u m).1.st≠0/\¬ (gn=false/\0<(ai c p v u m).1.many)/\nU c (B+8) (ai c p v u m).2 p v (ai c p v u m).1 gn rs/\Quiet c p m (ai c p v u m).2/\(ai c p v u m).1.hands=u.hands
 \/gn=false/\((ai c p v u m).1.st=0\/0<(ai c p v u m).1.many)/\((ai c p v u m).1.st≠0->nU c (B+8) (ai c p v u m).2 p v (ai c p v u m).1 true ((ai c p v u m).1.hands.drop 1))/\wd c (ai c p v u m).2 p=wd c m p/\rl c (ai c p v u m).2 p=rl c m p/\u.hands=[]/\(ai c p v u m).1.hands++rl c (ai c p v u m).2 v=rl c m v/\((ai c p v u m).1.st=0->(ai c p v u m).1.hands=(if (ai c p v u m).1.got.2 then [(ai c p v u m).1.got.1] else [])++(ai c p v u m).1.left)/\(∀ d,mV c m v d->mV c (ai c p v u m).2 v (cE d)/\dn c d=(ai c p v u m).1.hands)
 \/gn=true/\(ai c p v u m).1.st=0/\wd c (ai c p v u m).2 v=wd c m v/\rl c (ai c p v u m).2 v=rl c m v/\(((if (ai c p v u m).1.got.2 then [(ai c p v u m).1.got.1] else [])++(ai c p v u m).1.left)++rl c (ai c p v u m).2 p).Perm (u.hands++rl c m p)/\(∀ d,mV c m p d->mV c (ai c p v u m).2 p (dh c d (rs.take (tV c d rs)))/\rs.drop (tV c d rs)=(ai c p v u m).1.left)):=by
 have hok:=(iU hp hv h.ok hR.mem hR.sl).1;have hw:=hR.w v hv;have hB:=hR.hB;have h8:=hR.h8;obtain⟨t1,t2,t3⟩:=hw.tl (by omega);have hz:=hw.sz;have qt:∀ {m':bO},Quiet c p m m'->bY c m'/\(∀ q,q<c.n->dB c (p=q) q m m')/\(∀ q,q<c.n->q≠p->q≠v->wd c m' q=wd c m q/\rl c m' q=rl c m q):=λk=>⟨k.mem,k.ring,λq hq _ _=>⟨k.w q hq,k.l q hq⟩⟩
 have hno:=h.ok.no;have hone:=h.ok.one;have Ko:=h.ok.two;have sw:=h.ok.three;have Bd:=h.Bd;have nq:=h.nq;have s3:=h.s3;have s4:=h.s4;have Ef:=h.ok.w;have hgs:=h.ok.gs;obtain⟨st,w,bt,ly⟩:=u;dsimp only at hno hone Ko sw Bd nq s3 s4 Ef h0 hgs;obtain⟨a1,a2,a3⟩:=qt (hR.tick (p:=p))
 match st,h.ok.st with
 | 0,_=>exact absurd rfl h0
 | 1,_ =>
  obtain rfl:=hno (.inl rfl);obtain rfl:=hone rfl;have hgn:=Bd (.inl rfl)
  by_cases hc:aW (ld m (c.word v))=0\/(c.q:Int)<aW (ld m (c.word v))
  ·have e:ai c p v ⟨1,w,[],none⟩ m=(⟨0,ld m (c.word v),[],none⟩,m.tick):=by simp only[ai,if_pos hc]
   rw[e]at hok ⊢;have hz0:aW (wd c m v)=0:=by
    rcases hc with h | h
    ·exact h
    ·exact absurd h (by have:=hz;show ¬ _<aW (wd c m v);omega)
   refine⟨a1,a2,a3,.inr (.inl ⟨hgn,.inl rfl,λhe=>absurd rfl he,rfl,rfl,rfl,rfl,λ_=>rfl,λd hd=>?_⟩)⟩;have hdz:aW d.w=0:=by rw[hd.w];exact hz0
   refine⟨?_,by unfold dn;simp[bj,hdz,bP.hands]⟩;unfold cE;rw[if_pos hdz];exact hd.still rfl rfl
  ·have e:ai c p v ⟨1,w,[],none⟩ m=(⟨2,ld m (c.word v),[],none⟩,m.tick):=by simp only[ai,if_neg hc]
   rw[e]at hok ⊢;rw[not_or]at hc;have hz1:aW (wd c m v)≠0:=hc.1;refine⟨a1,a2,a3,.inl ⟨Nat.succ_ne_zero _,λh=>absurd h.2 (by simp[bP.many]),⟨hok,λ_=>hgn,λ_=>?_,λhe=>(by cases he),λhe=>(by cases he)⟩,hR.tick,rfl⟩⟩;exact⟨hw.mono (by omega),by show 1<=aW (wd c m v);omega,Int.le_refl _,(Cr t3).1,λ_=>(Cr t3).2.1,λ_ i g hi=>by cases hi⟩
 | 2,_ =>
  obtain rfl:=hno (.inr (.inl rfl));have hgn:=Bd (.inr (.inl rfl));obtain⟨k1,k2⟩:=Ko rfl;have hS:=nq (.inl rfl);obtain⟨st',hst'⟩:∃ st',(if ((bt.length+1:Nat):Int)=cJ (aW w) then 3 else 2)=st':=⟨_,rfl⟩;have e:ai c p v ⟨2,w,bt,none⟩ m=(⟨st',w,bt++[sl c m v (aj w+(bt.length:Int))],none⟩,m.tick):=by
   simp only[ai,hst'];rw[o7,oY (hR.sl v hv _)]
  rw[e]at hok ⊢;have TG:st'=2\/st'=3:=by split at hst'<;>omega
  refine⟨a1,a2,a3,.inl ⟨?_,λh=>absurd h.2 (by simp[bP.many]),⟨hok,λ_=>hgn,λ_=>?_,λhe=>?_,λhe=>?_⟩,hR.tick,rfl⟩⟩
  ·show st'≠0
   omega
  ·refine⟨hS.ok.mono (by omega),hS.ne,hS.le,?_,hS.old,λeh i g hi=>?_⟩
   ·show((bt++[_]).length:Int)<=cJ (aW w)
    rw[List.length_append];simp only[List.length_cons,List.length_nil];omega
   ·dsimp only at hi
    show g=sl c m v _
    by_cases hlt:i<bt.length
    ·rw[List.getElem?_append_left hlt]at hi
     exact hS.bt eh i g hi
    ·rw[List.getElem?_append_right (by omega)]at hi
     have hi0:i-bt.length=0:=by
      rcases Nat.eq_zero_or_pos (i-bt.length) with h | h
      ·exact h
      ·rw[List.getElem?_eq_none (by simp;omega)]at hi
       cases hi
     rw[hi0]at hi;cases hi;rw[show i=bt.length by omega]
  ·show((bt++[_]).length:Int)=cJ (aW w)
   rw[List.length_append];simp only[List.length_cons,List.length_nil];dsimp only at he
   split at hst'<;>omega
  ·dsimp only at he
   omega
 | 3,_ =>
  obtain rfl:=hno (.inr (.inr rfl));have hgn:=Bd (.inr (.inr rfl));have hlen:=s3 rfl;have hS:=nq (.inr rfl);have hpos:=sw rfl
  by_cases hc:ld m (c.word v)=w
  ·obtain⟨st',hst'⟩:∃ st',(if bt.length=1 then 0 else 4)=st':=⟨_,rfl⟩
   have e:ai c p v ⟨3,w,bt,none⟩ m=(⟨st',w,bt,some ⟨1,0,0,0,bt.drop 1⟩⟩,m.put (c.word v) (fM w (bt.length:Int))):=by simp only[ai,if_pos hc,hst',hlen]
   rw[e]at hok ⊢;have nT:wd c m v=w:=hc;have hw':wd c (m.put (c.word v) (fM w (bt.length:Int))) v=fM (wd c m v) (bt.length:Int):=by rw[gQ hR.mem hv,if_pos rfl,nT]
   have hs':∀ q i,sl c (m.put (c.word v) (fM w (bt.length:Int))) q i=sl c m q i:=λq i=>o_ hR.mem hv _ q i
   have ho:∀ q,q≠v->wd c (m.put (c.word v) (fM w (bt.length:Int))) q=wd c m q:=λq hq=>by rw[gQ hR.mem hv,if_neg hq]
   have hold:(bt.length:Int)<=aW (wd c m v):=by
    have:=hS.old (by rw[nT]);omega
   have hbt:(rl c m v).take bt.length=bt:=by
    unfold rl;rw[sN _ _ (by omega)];refine sO (λi g hi=>?_);rw[hS.bt (by rw[nT]) i g hi,nT]
   have hg:=wU hw hB (hs' v) hold hw';have hh:bt.take 1++bt.drop 1=bt:=List.take_append_drop 1 bt;refine⟨hR.mem.put _ (y6 Ef _),λq hq=>?_,λq hq _ hne=>⟨ho q hne,lw (λi _ _=>hs' q i) (ho q hne)⟩,.inr (.inl ⟨hgn,.inr (by simp[bP.many];omega),λhe=>?_,ho p (Ne.symm hpv),lw (λi _ _=>hs' p i) (ho p (Ne.symm hpv)),rfl,?_,λhe=>?_,λd hd=>⟨?_,?_⟩⟩)⟩
   ·by_cases eq:q=v
    ·subst eq
     exact .gain (hs' q) _ (by omega) hold hw'
    ·exact .none (hs' q) (ho q eq)
   ·have hl1:¬ bt.length=1:=λhh=>by
     dsimp only at he;rw[if_pos hh]at hst';omega
    have Rs:st'=4:=by rw[if_neg hl1]at hst';omega
    subst Rs;refine⟨hok,λhe=>(by rcases he with he | he | he<;>cases he),λhe=>(by rcases he with he | he<;>cases he),λhe=>(by cases he),λ_=>⟨rfl,_,rfl,⟨?_,?_,λhe=>(by rcases he with he | he<;>cases he),λhe=>(by cases he),λhe=>(by cases he)⟩,(by show(1:Nat)≠0;decide),?_,rfl⟩⟩
    ·obtain⟨l,e1,e2,e3⟩:=hok.four rfl
     cases e1;exact e2
    ·show bt.drop 1≠[]
     intro hh;have:=congrArg List.length hh;simp at this;omega
    ·show(bt.take 1++bt.drop 1).drop 1=bt.drop 1
     rw[hh]
   ·show(bt.take 1++bt.drop 1)++_=_
    rw[hh,hg];rw[show bt++(rl c m v).drop bt.length=(rl c m v).take bt.length++(rl c m v).drop bt.length by rw[hbt],List.take_append_drop]
   ·dsimp only at he
    subst he;show bt.take 1++bt.drop 1=(if true=true then [bt.getD 0 0] else [])++bt.drop 1;rw[if_pos rfl]
    congr 1
    cases bt with
    | nil=>simp at hpos
    | cons g l=>rfl
   ·have hdz:¬ aW d.w=0:=by rw[hd.w];omega
    unfold cE;rw[if_neg hdz,show cJ (aW d.w)=(bt.length:Int) by rw[hd.w,nT];exact hlen.symm];exact hd.gain hw hB (hs' v) hold hw'
   ·show dn c d=bt.take 1++bt.drop 1
    unfold dn;rw[hh,hd.l,show(cJ (aW d.w)).toNat=bt.length by rw[hd.w,nT];omega];exact hbt
  ·have e:ai c p v ⟨3,w,bt,none⟩ m=(⟨1,w,[],none⟩,m.tick):=by simp only[ai,if_neg hc]
   rw[e]at hok ⊢;exact⟨a1,a2,a3,.inl ⟨Nat.succ_ne_zero _,λh=>absurd h.2 (by simp[bP.many]),⟨hok,λ_=>hgn,λhe=>(by rcases he with he | he<;>cases he),λhe=>(by cases he),λhe=>(by cases he)⟩,hR.tick,rfl⟩⟩
 | 4,_ =>
  obtain⟨hgn,l,Kw,hL,hl0,hrs,hls⟩:=s4 rfl;subst Kw;obtain⟨b1,b2,b3,b4,b5,b6⟩:=HO hR hp hL hl0;have e:ai c p v ⟨4,w,bt,some l⟩ m=(⟨if (az c p l m).1.st=0 then 0 else 4,w,bt,some (az c p l m).1⟩,(az c p l m).2):=rfl;rw[e]at hok ⊢;obtain⟨hlb,hb0⟩:=h.ok.lay l rfl
  by_cases hd0:(az c p l m).1.st=0
  ·rw[if_pos hd0]at hok ⊢
   refine⟨b1,b2,λq hq hne _=>b3 q hq hne,.inr (.inr ⟨hgn,rfl,(b3 v hv hpv).1,(b3 v hv hpv).2,?_,λd hd=>?_⟩)⟩
   ·show(((if true=true then [bt.getD 0 0] else [])++(az c p l m).1.ls)++rl c (az c p l m).2 p).Perm ((bt.take 1++l.ls)++rl c m p)
    rw[if_pos rfl];have h1:bt.take 1=[bt.getD 0 0]:=by
     cases bt with
     | nil=>simp at hb0
     | cons g l=>rfl
    have hperm:((az c p l m).1.ls++rl c (az c p l m).2 p).Perm (l.ls++rl c m p):=by
     have:=(b6 hd0).1;exact(List.perm_append_comm.trans (by rw[this])).trans List.perm_append_comm
    rw[h1,List.append_assoc,List.append_assoc];exact hperm.append_left _
   ·obtain⟨k1,k2⟩:=(b6 hd0).2 d hd
    rw[hrs,← hls];exact⟨k1,k2⟩
  ·rw[if_neg hd0]at hok ⊢
   obtain⟨k1,k2,k3⟩:=b5 hd0;refine⟨b1,b2,λq hq hne _=>b3 q hq hne,.inl ⟨Nat.succ_ne_zero _,λh=>absurd h.1 (by rw[hgn];decide),⟨hok,λhe=>(by rcases he with he | he | he<;>cases he),λhe=>(by rcases he with he | he<;>cases he),λhe=>(by cases he),λ_=>⟨hgn,_,rfl,k1,hd0,hrs,k3.trans hls⟩⟩,k2,?_⟩⟩;show bt.take 1++(az c p l m).1.ls=bt.take 1++l.ls;rw[k3]
end
def Bf(c:aU)(B:Int)(m:bO)(p:Nat)(M:bV)(gn:Bool)(rs:List Int):Prop :=
 match M with
 | .put u=>sR c B m p u
 | .get u=>sT c B m p u
 | .steal v u=>v<c.n/\v≠p/\nU c B m p v u gn rs
def LU(o:ct)(M:bV):Prop :=
 match M with
 | .put u=>o.kd=1/\o.cg=u.gg
 | .get _=>o.kd=2
 | .steal v _=>o.kd=3/\o.cv=(v:Int)
structure KC(c:aU)(B:Int)(m:bO)(p:Nat)(o:ct):Prop where
 dq:mV c m p o.dq
 rs:o.rs.length<=64
 dE:∀ M,o.dE=some M->M.st≠0/\Bf c B m p M o.gn o.rs/\LU o M
structure en(c:aU)(B:Int)(x:aI):Prop where
 R:Rings c B x.m
 len:x.ow.length=c.n
 ow:∀ (p:Nat) o,x.ow[p]? = some o->KC c B x.m p o
 ok:x.bad=false
structure HP(c:aU)(B:Int)(x:aI)(p:Nat)(o:ct)(M:bV)(m:bO)(x1:aI):Prop where
 mem:x1.m=m
 len:x1.ow.length=c.n
 bad:x1.bad=false
 self:∃ o1,x1.ow[p]? = some o1/\o1.kd=o.kd/\o1.cv=o.cv/\o1.cg=o.cg/\o1.dE=some M/\mV c m p o1.dq/\o1.rs.length<=64/\(M.st≠0->Bf c B m p M o1.gn o1.rs)
 other:∀ (q:Nat) oq,q≠p->x.ow[q]? = some oq->∃ d,x1.ow[q]? = some (oq.fA d)/\mV c m q d
def eI(o:ct):List Int:=(o.dE.map bV.hands).getD []
def eo(l:List ct)(q:Nat):List Int:=(l[q]?.map eI).getD []
def cq(x:aI)(q:Nat):List Int:=eo x.ow q
def fl(c:aU)(x:aI):List Int:=(List.range c.n).flatMap (λq=>rl c x.m q++cq x q)
def qu(M:bV):List Int:=M.over++(if 0<=M.got then [M.got] else [])
theorem mg{n p:Nat}(f:Nat->List Int)(hp:p<n):((List.range n).flatMap f).Perm (f p++((List.range n).erase p).flatMap f):=by
 have:=(List.perm_cons_erase (List.mem_range.2 hp)).flatMap_right f
 rwa [List.flatMap_cons]at this
theorem Cx{n p:Nat}{f f':Nat->List Int}(h:∀ q,q<n->q≠p->f' q=f q):((List.range n).erase p).flatMap f'=((List.range n).erase p).flatMap f:=by
 rw[List.flatMap_def,List.flatMap_def]
 congr 1
 apply List.map_congr_left;intro q hq;have:=(List.Nodup.mem_erase_iff List.nodup_range).1 hq;exact h q (List.mem_range.1 this.2) this.1
theorem HQ{n p:Nat}{f f':Nat->List Int}{out:List Int}(hp:p<n)(h:∀ q,q<n->q≠p->f' q=f q)(hh:(f p).Perm (f' p++out)):((List.range n).flatMap f).Perm ((List.range n).flatMap f'++out):=by
 refine(mg f hp).trans (List.Perm.trans ?_ ((mg f' hp).symm.append_right out));rw[Cx h];refine(hh.append_right _).trans ?_;rw[List.append_assoc,List.append_assoc];exact(List.perm_append_comm).append_left _
theorem Nn{n p v:Nat}{f f':Nat->List Int}{out:List Int}(hp:p<n)(hv:v<n)(hpv:v≠p)(h:∀ q,q<n->q≠p->q≠v->f' q=f q)(hh:(f p++f v).Perm ((f' p++f' v)++out)):((List.range n).flatMap f).Perm ((List.range n).flatMap f'++out):=by
 have two:∀ g:Nat->List Int,((List.range n).flatMap g).Perm ((g p++g v)++(((List.range n).erase p).erase v).flatMap g):=λg=>by
  refine(mg g hp).trans ?_;have hm:v ∈ (List.range n).erase p:=(List.Nodup.mem_erase_iff List.nodup_range).2 ⟨hpv,List.mem_range.2 hv⟩;have:=(List.perm_cons_erase hm).flatMap_right g;rw[List.flatMap_cons]at this;rw[List.append_assoc];exact this.append_left _
 refine(two f).trans (List.Perm.trans ?_ ((two f').symm.append_right out));have e:(((List.range n).erase p).erase v).flatMap f'=(((List.range n).erase p).erase v).flatMap f:=by
  rw[List.flatMap_def,List.flatMap_def]
  congr 1
  apply List.map_congr_left;intro q hq;have h1:=(List.Nodup.mem_erase_iff (List.nodup_range.erase p)).1 hq;have h2:=(List.Nodup.mem_erase_iff List.nodup_range).1 h1.2;exact h q (List.mem_range.1 h2.2) h2.1 h1.1
 rw[e];refine(hh.append_right _).trans ?_;simp only[List.append_assoc];exact((List.perm_append_comm).append_left _).append_left _
section
variable{c:aU}{B:Int}{x:aI}{p:Nat}{o:ct}{M:bV}
theorem pg(o:ct):o.fA o.dq=o:=rfl
theorem sU(hI:en c B x)(ho:x.ow[p]? = some o)(hM:o.dE=some M) :
  bY c (M.step c p x.m).2/\(∀ q,q<c.n->dB c (p=q) q x.m (M.step c p x.m).2)/\
  HP c (B+8) x p o (M.step c p x.m).1 (M.step c p x.m).2 (bE c (aI.own ⟨(M.step c p x.m).2,x.ow,x.pts,x.bad⟩ p (o.now (some (M.step c p x.m).1))) p (o.now (some (M.step c p x.m).1)) (M.step c p x.m).1)/\
  ((List.range c.n).flatMap (λq=>rl c x.m q++cq x q)).Perm ((List.range c.n).flatMap (λq=>rl c (M.step c p x.m).2 q++(if q=p then (if (M.step c p x.m).1.st=0 then [] else (M.step c p x.m).1.hands) else cq x q))++(if (M.step c p x.m).1.st=0 then qu (M.step c p x.m).1 else [])):=by
 have hlt:p<x.ow.length:=(List.getElem?_eq_some_iff.1 ho).1;have hp:p<c.n:=by rw[← hI.len];exact hlt
 have hO:=hI.ow p o ho;obtain⟨h0,zC,hC⟩:=hO.dE M hM;have hR:=hI.R;have Rt:cq x p=M.hands:=by simp[cq,eo,ho,eI,hM]
 have hset:∀ (m':bO) (o':ct),(aI.own ⟨m',x.ow,x.pts,x.bad⟩ p o').ow[p]? = some o':=λm' o'=>by
  show(x.ow.set p o')[p]? = _;rw[List.getElem?_set_self hlt]
 have hoth:∀ (m':bO) (o':ct) (q:Nat),q≠p->(aI.own ⟨m',x.ow,x.pts,x.bad⟩ p o').ow[q]? = x.ow[q]?:=λm' o' q hq=>by
  show(x.ow.set p o')[q]? = _;rw[List.getElem?_set_ne (Ne.symm hq)]
 have hss:∀ (m':bO) (o1 o2:ct),((aI.own ⟨m',x.ow,x.pts,x.bad⟩ p o1).own p o2).ow[p]? = some o2:=λm' o1 o2=>by
  show((x.ow.set p o1).set p o2)[p]? = _;rw[List.getElem?_set_self (by simp[hlt])]
 have hln:∀ (q:Nat) oq,x.ow[q]? = some oq->q<c.n:=λq oq h=>by rw[← hI.len];exact(List.getElem?_eq_some_iff.1 h).1
 cases M with
 | put u =>
  obtain⟨k1,k2,k3,k4,k5,k6⟩:=zf hR hp zC h0;obtain⟨c1,c2⟩:=hC;have I6:u.hs=[u.gg]:=sR.hs zC;refine⟨k1,k2,?_,?_⟩
  ·by_cases hd:(aO c p u x.m).1.st=0
   ·obtain⟨j1,j2,j3⟩:=k6 hd o.dq hO.dq
    have e:bE c (aI.own ⟨((bV.put u).step c p x.m).2,x.ow,x.pts,x.bad⟩ p (o.now (some ((bV.put u).step c p x.m).1))) p (o.now (some ((bV.put u).step c p x.m).1)) ((bV.put u).step c p x.m).1=((aI.own ⟨(aO c p u x.m).2,x.ow,x.pts,x.bad⟩ p (o.now (some (.put (aO c p u x.m).1)))).own p ((o.now (some (.put (aO c p u x.m).1))).fA (cW c o.dq o.cg).1)).holds (decide ((cW c o.dq o.cg).2=(aO c p u x.m).1.hs)):=by
     simp only[bV.step,bE,if_pos hd];rfl
    rw[e];refine⟨rfl,by simp[aI.holds,aI.own,hI.len],by simp[aI.holds,aI.own,hI.ok,c2,j2],⟨_,hss _ _ _,rfl,rfl,rfl,rfl,by rw[c2];exact j1,hO.rs,λhe=>absurd hd he⟩,λq oq hq hoq=>⟨oq.dq,?_,?_⟩⟩
    ·show((x.ow.set p _).set p _)[q]? = _
     rw[List.getElem?_set_ne (Ne.symm hq),List.getElem?_set_ne (Ne.symm hq),hoq,pg]
    ·exact(hI.ow q oq hoq).dq.still (k3 q (hln q oq hoq) hq).2 (k3 q (hln q oq hoq) hq).1
   ·obtain⟨j1,j2⟩:=k5 hd
    have e:bE c (aI.own ⟨((bV.put u).step c p x.m).2,x.ow,x.pts,x.bad⟩ p (o.now (some ((bV.put u).step c p x.m).1))) p (o.now (some ((bV.put u).step c p x.m).1)) ((bV.put u).step c p x.m).1=(aI.own ⟨(aO c p u x.m).2,x.ow,x.pts,x.bad⟩ p (o.now (some (.put (aO c p u x.m).1)))):=by
     simp only[bV.step,bE,if_neg hd]
    rw[e];exact⟨rfl,by simp[aI.own,hI.len],hI.ok,⟨_,hset _ _,rfl,rfl,rfl,rfl,hO.dq.still (j2.l p hp) (j2.w p hp),hO.rs,λ_=>j1⟩,λq oq hq hoq=>⟨oq.dq,(hoth _ _ q hq).trans hoq,(hI.ow q oq hoq).dq.still (j2.l q (hln q oq hoq)) (j2.w q (hln q oq hoq))⟩⟩
  ·refine HQ hp (λq hq hne=>?_) ?_
   ·show rl c (aO c p u x.m).2 q++_=_
    rw[if_neg hne,(k3 q hq hne).2]
   ·show(rl c x.m p++cq x p).Perm ((rl c (aO c p u x.m).2 p++_)++_)
    rw[Rt,if_pos rfl];show(rl c x.m p++u.hs).Perm _
    by_cases hd:(aO c p u x.m).1.st=0
    ·obtain⟨j1,j2,j3⟩:=k6 hd o.dq hO.dq
     have hd2:((bV.put u).step c p x.m).1.st=0:=hd;rw[if_pos hd2,if_pos hd2,I6,List.append_nil];have e:qu ((bV.put u).step c p x.m).1=(aO c p u x.m).1.hs:=by
      simp[qu,bV.step,bV.over,bV.got,hd]
     rw[e];exact j3.symm
    ·obtain⟨j1,j2⟩:=k5 hd
     have hd2:¬ ((bV.put u).step c p x.m).1.st=0:=hd;rw[if_neg hd2,if_neg hd2,j2.l p hp,List.append_nil];show(rl c x.m p++u.hs).Perm (rl c x.m p++(aO c p u x.m).1.hs);rw[I6,show(aO c p u x.m).1.hs=[(aO c p u x.m).1.gg] from sR.hs j1,k4]
 | get u =>
  obtain⟨k1,k2,k3,k5,k6⟩:=zg hR hp zC h0;refine⟨k1,k2,?_,?_⟩
  ·by_cases hd:(aM c p u x.m).1.st=0
   ·obtain⟨j1,j2,j3,j4⟩:=k6 hd o.dq hO.dq
    have e:bE c (aI.own ⟨((bV.get u).step c p x.m).2,x.ow,x.pts,x.bad⟩ p (o.now (some ((bV.get u).step c p x.m).1))) p (o.now (some ((bV.get u).step c p x.m).1)) ((bV.get u).step c p x.m).1=((aI.own ⟨(aM c p u x.m).2,x.ow,x.pts,x.bad⟩ p (o.now (some (.get (aM c p u x.m).1)))).own p ((o.now (some (.get (aM c p u x.m).1))).fA (lG o.dq))).holds (decide ((bj c o.dq).headD 0=(if (aM c p u x.m).1.has then (aM c p u x.m).1.sn else 0))&&(decide (aW o.dq.w≠0)==(aM c p u x.m).1.has)):=by
     simp only[bV.step,bE,if_pos hd];rfl
    rw[e];refine⟨rfl,by simp[aI.holds,aI.own,hI.len],?_,⟨_,hss _ _ _,rfl,rfl,rfl,rfl,j1,hO.rs,λhe=>absurd hd he⟩,λq oq hq hoq=>⟨oq.dq,?_,?_⟩⟩
    ·show(x.bad || !_)=false
     rw[hI.ok,j3,j2];simp
    ·show((x.ow.set p _).set p _)[q]? = _
     rw[List.getElem?_set_ne (Ne.symm hq),List.getElem?_set_ne (Ne.symm hq),hoq,pg]
    ·exact(hI.ow q oq hoq).dq.still (k3 q (hln q oq hoq) hq).2 (k3 q (hln q oq hoq) hq).1
   ·obtain⟨j1,j2⟩:=k5 hd
    have e:bE c (aI.own ⟨((bV.get u).step c p x.m).2,x.ow,x.pts,x.bad⟩ p (o.now (some ((bV.get u).step c p x.m).1))) p (o.now (some ((bV.get u).step c p x.m).1)) ((bV.get u).step c p x.m).1=(aI.own ⟨(aM c p u x.m).2,x.ow,x.pts,x.bad⟩ p (o.now (some (.get (aM c p u x.m).1)))):=by
     simp only[bV.step,bE,if_neg hd]
    rw[e];exact⟨rfl,by simp[aI.own,hI.len],hI.ok,⟨_,hset _ _,rfl,rfl,rfl,rfl,hO.dq.still (j2.l p hp) (j2.w p hp),hO.rs,λ_=>j1⟩,λq oq hq hoq=>⟨oq.dq,(hoth _ _ q hq).trans hoq,(hI.ow q oq hoq).dq.still (j2.l q (hln q oq hoq)) (j2.w q (hln q oq hoq))⟩⟩
  ·refine HQ hp (λq hq hne=>?_) ?_
   ·show rl c (aM c p u x.m).2 q++_=_
    rw[if_neg hne,(k3 q hq hne).2]
   ·show(rl c x.m p++cq x p).Perm ((rl c (aM c p u x.m).2 p++_)++_)
    rw[Rt,if_pos rfl];have hh0:(bV.get u).hands=[]:=by
     simp only[bV.hands];rw[(sT.ok zC).has h0];rfl
    rw[hh0,List.append_nil]
    by_cases hd:(aM c p u x.m).1.st=0
    ·obtain⟨j1,j2,j3,j4⟩:=k6 hd o.dq hO.dq
     have hd2:((bV.get u).step c p x.m).1.st=0:=hd;rw[if_pos hd2,if_pos hd2,List.append_nil];have e:qu ((bV.get u).step c p x.m).1=(if (aM c p u x.m).1.has then [(aM c p u x.m).1.sn] else []):=by
      show[]++(if 0<=(if (aM c p u x.m).1.has then (aM c p u x.m).1.sn else -1) then [if (aM c p u x.m).1.has then (aM c p u x.m).1.sn else -1] else [])=_;cases hh:(aM c p u x.m).1.has with
      | false=>simp
      | true =>
       rw[hh]at j4;simp only[if_true]at j4 ⊢;have hmem:(aM c p u x.m).1.sn ∈ rl c x.m p:=by rw[← j4];simp
       have:0<=(aM c p u x.m).1.sn:=by
        unfold rl win at hmem;obtain⟨i,_,ei⟩:=List.mem_map.1 hmem;rw[← ei];exact(hR.sl p hp _).1
       rw[if_pos this];rfl
     rw[e,← j4];exact List.perm_append_comm
    ·obtain⟨j1,j2⟩:=k5 hd
     have hd2:¬ ((bV.get u).step c p x.m).1.st=0:=hd;rw[if_neg hd2,if_neg hd2,j2.l p hp,List.append_nil];have TH:((bV.get u).step c p x.m).1.hands=[]:=by
      simp only[bV.step,bV.hands];rw[(sT.ok j1).has hd];rfl
     rw[TH,List.append_nil]
 | steal v u =>
  obtain⟨hv,hpv,NM⟩:=zC;obtain⟨k1,k2,k3,k4⟩:=Be hR hp hv hpv NM h0;have hok:=(iU hp hv NM.ok hR.mem hR.sl).1;obtain⟨ov,hov⟩:∃ ov,x.ow[v]? = some ov:=⟨_,List.getElem?_eq_getElem (by rw[hI.len];exact hv)⟩;have hgn:(o.now (some ((bV.steal v u).step c p x.m).1)).gn=o.gn:=rfl;have hstep:(bV.steal v u).step c p x.m=(.steal v (ai c p v u x.m).1,(ai c p v u x.m).2):=rfl;have Ru:(aI.own ⟨(ai c p v u x.m).2,x.ow,x.pts,x.bad⟩ p (o.now (some (.steal v (ai c p v u x.m).1)))).ow[v]? = some ov:=(hoth _ _ v hpv).trans hov;have gets:∀ s:bP,(∀ g ∈ s.bt,Gn g)->0<s.bt.length->(bV.steal v s).over++(if 0<=(bV.steal v s).got then [(bV.steal v s).got] else [])=s.left++(if s.got.2 then [s.got.1] else []):=λs hg hb=>by
   show s.left++(if 0<=(if s.got.2 then s.got.1 else -1) then [if s.got.2 then s.got.1 else -1] else [])=_
   congr 1
   cases h2:s.got.2 with
   | false=>simp
   | true =>
    simp only[if_true];have:0<=s.got.1:=by
     unfold bP.got at h2 ⊢
     split
     ·split
      ·cases hb2:s.bt with
       | nil=>rw[hb2]at hb;simp at hb
       | cons g l=>exact(hg g (by rw[hb2];exact List.mem_cons_self ..)).1
      ·exact Int.le_refl _
     ·exact Int.le_refl _
    rw[if_pos this]
  have HR:∀ s:bP,s.ly=none->(bV.steal v s).over++(if 0<=(bV.steal v s).got then [(bV.steal v s).got] else [])=s.left++(if s.got.2 then [s.got.1] else []):=λs hs=>by
   have h1:s.got=(0,false):=by
    unfold bP.got
    split
    ·rw[hs]
    ·rfl
   show s.left++(if 0<=(if s.got.2 then s.got.1 else -1) then [if s.got.2 then s.got.1 else -1] else [])=_;rw[h1];simp
  have Rv:qu (.steal v (ai c p v u x.m).1)=(ai c p v u x.m).1.left++(if (ai c p v u x.m).1.got.2 then [(ai c p v u x.m).1.got.1] else []):=by
   unfold qu;cases hl:(ai c p v u x.m).1.ly with
   | none=>exact HR _ hl
   | some l=>exact gets _ hok.gs (hok.lay l hl).2
  refine⟨k1,k2,?_,?_⟩
  ·rw[hstep]
   rcases k4 with ⟨j1,j2,j3,j4,j5⟩ | ⟨j1,j2,j3,j4,j5,j6,j7,j8,j9⟩ | ⟨j1,j2,j3,j4,j5,j6⟩
   ·have e:bE c (aI.own ⟨(ai c p v u x.m).2,x.ow,x.pts,x.bad⟩ p (o.now (some (.steal v (ai c p v u x.m).1)))) p (o.now (some (.steal v (ai c p v u x.m).1))) (.steal v (ai c p v u x.m).1)=(aI.own ⟨(ai c p v u x.m).2,x.ow,x.pts,x.bad⟩ p (o.now (some (.steal v (ai c p v u x.m).1)))):=by
     simp only[bE];rw[if_neg (λh=>j2 ⟨h.1,h.2.resolve_left j1⟩),if_neg j1]
    rw[e];exact⟨rfl,by simp[aI.own,hI.len],hI.ok,⟨_,hset _ _,rfl,rfl,rfl,rfl,hO.dq.still (j4.l p hp) (j4.w p hp),hO.rs,λ_=>⟨hv,hpv,j3⟩⟩,λq oq hq hoq=>⟨oq.dq,(hoth _ _ q hq).trans hoq,(hI.ow q oq hoq).dq.still (j4.l q (hln q oq hoq)) (j4.w q (hln q oq hoq))⟩⟩
   ·obtain⟨d1,d2⟩:=j9 ov.dq (hI.ow v ov hov).dq
    have e:bE c (aI.own ⟨(ai c p v u x.m).2,x.ow,x.pts,x.bad⟩ p (o.now (some (.steal v (ai c p v u x.m).1)))) p (o.now (some (.steal v (ai c p v u x.m).1))) (.steal v (ai c p v u x.m).1)=(((aI.own ⟨(ai c p v u x.m).2,x.ow,x.pts,x.bad⟩ p (o.now (some (.steal v (ai c p v u x.m).1)))).own v (ov.fA (cE ov.dq))).own p ⟨o.kd,o.cv,o.cg,some (.steal v (ai c p v u x.m).1),o.dq,true,(ai c p v u x.m).1.hands.drop 1⟩).holds (decide (dn c ov.dq=(ai c p v u x.m).1.hands)):=by
     simp only[bE];rw[if_pos ⟨j1,j2⟩,Ru];rfl
    rw[e];have hlen:((ai c p v u x.m).1.hands.drop 1).length<=64:=by
     unfold bP.hands;cases hl:(ai c p v u x.m).1.ly with
     | none=>simp
     | some l =>
      have:=(hok.lay l hl).1.ls;simp only[List.length_drop,List.length_append,List.length_take];omega
    refine⟨rfl,by simp[aI.holds,aI.own,hI.len],by simp[aI.holds,aI.own,hI.ok,d2],⟨⟨o.kd,o.cv,o.cg,some (.steal v (ai c p v u x.m).1),o.dq,true,(ai c p v u x.m).1.hands.drop 1⟩,?_,rfl,rfl,rfl,rfl,hO.dq.still j5 j4,hlen,λhe=>⟨hv,hpv,j3 he⟩⟩,λq oq hq hoq=>?_⟩
    ·show(((x.ow.set p _).set v _).set p _)[p]? = _
     rw[List.getElem?_set_self (by simp[hlt])]
    ·by_cases LW:q=v
     ·subst LW
      rw[hov]at hoq;cases hoq;refine⟨_,?_,d1⟩;show(((x.ow.set p _).set q _).set p _)[q]? = _;rw[List.getElem?_set_ne (Ne.symm hq),List.getElem?_set_self (by simp[hI.len,hv])]
     ·refine⟨oq.dq,?_,(hI.ow q oq hoq).dq.still (k3 q (hln q oq hoq) hq LW).2 (k3 q (hln q oq hoq) hq LW).1⟩
      show(((x.ow.set p _).set v _).set p _)[q]? = _;rw[List.getElem?_set_ne (Ne.symm hq),List.getElem?_set_ne (Ne.symm LW),List.getElem?_set_ne (Ne.symm hq),hoq,pg]
   ·obtain⟨d1,d2⟩:=j6 o.dq hO.dq
    have e:bE c (aI.own ⟨(ai c p v u x.m).2,x.ow,x.pts,x.bad⟩ p (o.now (some (.steal v (ai c p v u x.m).1)))) p (o.now (some (.steal v (ai c p v u x.m).1))) (.steal v (ai c p v u x.m).1)=((aI.own ⟨(ai c p v u x.m).2,x.ow,x.pts,x.bad⟩ p (o.now (some (.steal v (ai c p v u x.m).1)))).own p ((o.now (some (.steal v (ai c p v u x.m).1))).fA (dh c o.dq (o.rs.take (tV c o.dq o.rs))))).holds (decide (o.rs.drop (tV c o.dq o.rs)=(ai c p v u x.m).1.left)):=by
     simp only[bE];rw[if_neg (λh=>by have:=h.1;rw[show(o.now (some (.steal v (ai c p v u x.m).1))).gn=o.gn from rfl,j1]at this;cases this),if_pos j2];rfl
    rw[e];refine⟨rfl,by simp[aI.holds,aI.own,hI.len],by simp[aI.holds,aI.own,hI.ok,d2],⟨_,hss _ _ _,rfl,rfl,rfl,rfl,d1,hO.rs,λhe=>absurd j2 he⟩,λq oq hq hoq=>⟨oq.dq,?_,?_⟩⟩
    ·show((x.ow.set p _).set p _)[q]? = _
     rw[List.getElem?_set_ne (Ne.symm hq),List.getElem?_set_ne (Ne.symm hq),hoq,pg]
    ·by_cases LW:q=v
     ·subst LW
      exact(hI.ow q oq hoq).dq.still j4 j3
     ·exact(hI.ow q oq hoq).dq.still (k3 q (hln q oq hoq) hq LW).2 (k3 q (hln q oq hoq) hq LW).1
  ·rw[hstep]
   show((List.range c.n).flatMap _).Perm ((List.range c.n).flatMap (λq=>rl c (ai c p v u x.m).2 q++(if q=p then (if (ai c p v u x.m).1.st=0 then [] else (ai c p v u x.m).1.hands) else cq x q))++(if (ai c p v u x.m).1.st=0 then qu (.steal v (ai c p v u x.m).1) else []));refine Nn hp hv hpv (λq hq hne TI=>?_) ?_
   ·rw[if_neg hne,(k3 q hq hne TI).2]
   ·rw[if_pos rfl,if_neg hpv,Rt,show(bV.steal v u).hands=u.hands from rfl,Rv]
    rcases k4 with ⟨j1,j2,j3,j4,j5⟩ | ⟨j1,j2,j3,j4,j5,j6,j7,j8,j9⟩ | ⟨j1,j2,j3,j4,j5,j6⟩
    ·rw[if_neg j1,if_neg j1,j4.l p hp,j4.l v hv,j5,List.append_nil]
    ·rw[j5,j6,← j7,List.append_nil]
     by_cases hd:(ai c p v u x.m).1.st=0
     ·rw[if_pos hd,if_pos hd,List.append_nil]
      rw[j8 hd];rw[List.append_assoc,List.append_assoc,List.append_assoc];refine List.Perm.append_left _ ?_;rw[← List.append_assoc];refine(List.perm_append_comm).trans ?_;simp only[List.append_assoc];refine List.Perm.append_left _ ?_;refine List.Perm.append_left _ ?_;exact List.perm_append_comm
     ·rw[if_neg hd,if_neg hd,List.append_nil]
      simp only[List.append_assoc];exact List.Perm.refl _
    ·rw[if_pos j2,if_pos j2,j4,List.append_nil]
     have h1:(rl c x.m p++u.hands).Perm (rl c (ai c p v u x.m).2 p++((ai c p v u x.m).1.left++(if (ai c p v u x.m).1.got.2 then [(ai c p v u x.m).1.got.1] else []))):=by
      refine(List.perm_append_comm).trans (j5.symm.trans ?_);refine(List.perm_append_comm).trans ?_;exact List.Perm.append_left _ List.perm_append_comm
     refine(h1.append_right _).trans ?_;simp only[List.append_assoc];refine List.Perm.append_left _ ?_;rw[← List.append_assoc];refine(List.perm_append_comm).trans ?_;simp only[List.append_assoc];exact List.Perm.refl _
end
section
variable{c:aU}{B:Int}{x:aI}{p:Nat}{o:ct}{M:bV}
def mP(c:aU)(x:aI)(p:Nat)(o:ct)(M:bV):aI:=bE c (aI.own ⟨(M.step c p x.m).2,x.ow,x.pts,x.bad⟩ p (o.now (some (M.step c p x.m).1))) p (o.now (some (M.step c p x.m).1)) (M.step c p x.m).1
theorem mV.same{m:bO}{q:Nat}{d:kC}(h:mV c m q d)(hs:∀ i,Gn (sl c m q i)):iD c m q=bj c d:=by
 have h1:=h.ok.sz;have h2:=c.qb;rw[h.l,HN hs (by rw[← h.w];omega)]
theorem zh{m:bO}{x1:aI}(hI:en c B x)(hM:HP c (B+8) x p o M m x1)(hs:lr c m)(ho:x.ow[p]? = some o){q:Nat}{oq:ct}(hq:x1.ow[q]? = some oq):mV c m q oq.dq/\iD c m q=bj c oq.dq:=by
 have hlt:q<c.n:=by rw[← hM.len];exact(List.getElem?_eq_some_iff.1 hq).1
 have hd:mV c m q oq.dq:=by
  by_cases e:q=p
  ·subst e
   obtain⟨o1,k1,_,_,_,_,k2,_⟩:=hM.self;rw[hq]at k1;cases k1;exact k2
  ·obtain⟨o2,h2⟩:∃ o2,x.ow[q]? = some o2:=⟨_,List.getElem?_eq_getElem (by rw[hI.len];exact hlt)⟩
   obtain⟨d,k1,k2⟩:=hM.other q o2 e h2;rw[hq]at k1;cases k1;exact k2
 exact⟨hd,hd.same (hs q hlt)⟩
theorem look_eq{m:bO}{x1:aI}(hI:en c B x)(hM:HP c (B+8) x p o M m x1)(hs:lr c m)(ho:x.ow[p]? = some o):sH c x1=x1:=by
 have hall:(List.range c.n).all (sameAt c x1)=true:=by
  rw[List.all_eq_true];intro q hq;unfold sameAt;cases h:x1.ow[q]? with
  | none=>rfl
  | some oq =>
   dsimp only;rw[hM.mem];simpa using (zh hI hM hs ho h).2
 unfold sH;rw[hall,hM.bad];have:=hM.bad;cases x1;simp at this;subst this;rfl
theorem Bf.keep{m m':bO}{own:Nat->Prop}{q:Nat}{gn:Bool}{rs:List Int}(hR:Rings c B m)(hr:∀ v,v<c.n->dB c (own v) v m m')(hq:q<c.n)(hn:¬ own q){M:bV}(h:Bf c B m q M gn rs):Bf c (B+8) m' q M gn rs:=by
 cases M with
 | put u=>exact sR.keep h (hr q hq) hn (hR.w q hq) hR.hB
 | get u=>exact sT.keep h (hr q hq) hn (hR.w q hq) hR.hB
 | steal v u =>
  obtain⟨h1,h2,h3⟩:=h;exact⟨h1,h2,h3.keep hR.h8 (hr q hq) hn (hr v h1) (hR.w q hq) (hR.w v h1) hR.hB⟩
theorem uS(hI:en c B x)(hB:B+8<=1073741824)(ho:x.ow[p]? = some o)(hM:o.dE=some M) :
  en c (B+8) (cK c x p o M).1/\(fl c x).Perm (fl c (cK c x p o M).1++(if (M.step c p x.m).1.st=0 then qu (M.step c p x.m).1 else []))/\
  mO c x p o M=mP c x p o M/\HP c (B+8) x p o (M.step c p x.m).1 (M.step c p x.m).2 (mP c x p o M)/\Rings c (B+8) (M.step c p x.m).2:=by
 obtain⟨k1,k2,k3,k4⟩:=sU hI ho hM;have hlt:p<x.ow.length:=(List.getElem?_eq_some_iff.1 ho).1;have hp:p<c.n:=by rw[← hI.len];exact hlt
 have hO:=hI.ow p o ho;obtain⟨h0,zC,hC⟩:=hO.dE M hM;have hR':Rings c (B+8) (M.step c p x.m).2:=hI.R.next (own:=λq=>p=q) k1 k2 hB
 have hmid:mO c x p o M=mP c x p o M:=look_eq hI k3 hR'.sl ho;obtain⟨o1,e1,e2,e3,e4,e5,e6,e7,e8⟩:=k3.self;obtain⟨x1,hx1⟩:∃ x1,mP c x p o M=x1:=⟨_,rfl⟩;have xh:HP c (B+8) x p o (M.step c p x.m).1 (M.step c p x.m).2 x1:=by rw[← hx1];exact k3
 have Jb:x1.ow[p]? = some o1:=by rw[← hx1];exact e1
 have hoth:∀ (q:Nat) oq,q≠p->x1.ow[q]? = some oq->∃ o2 d,x.ow[q]? = some o2/\oq=o2.fA d/\mV c (M.step c p x.m).2 q d:=λq oq hq h=>by
  have hq2:q<c.n:=by rw[← xh.len];exact(List.getElem?_eq_some_iff.1 h).1
  obtain⟨o2,h2⟩:∃ o2,x.ow[q]? = some o2:=⟨_,List.getElem?_eq_getElem (by rw[hI.len];exact hq2)⟩;obtain⟨d,j1,j2⟩:=xh.other q o2 hq h2;rw[h]at j1;exact⟨o2,d,h2,Option.some.inj j1,j2⟩
 have hkeep:∀ (q:Nat) oq,q≠p->x1.ow[q]? = some oq->KC c (B+8) (M.step c p x.m).2 q oq:=λq oq hq h=>by
  have hq2:q<c.n:=by rw[← xh.len];exact(List.getElem?_eq_some_iff.1 h).1
  obtain⟨o2,d,h2,rfl,hd⟩:=hoth q oq hq h;have hO2:=hI.ow q o2 h2;refine⟨hd,hO2.rs,λM2 hM2=>?_⟩;obtain⟨m1,m2,m3⟩:=hO2.dE M2 hM2;exact⟨m1,m2.keep hI.R k2 hq2 (Ne.symm hq),m3⟩
 have HS:∀ q,q≠p->cq x1 q=cq x q:=λq hq=>by
  unfold cq eo;cases h:x1.ow[q]? with
  | none =>
   have:x.ow[q]? = none:=by
    rw[List.getElem?_eq_none_iff]at h ⊢;rw[hI.len,← xh.len];exact h
   rw[this]
  | some oq =>
   obtain⟨o2,d,h2,rfl,hd⟩:=hoth q oq hq h;rw[h2];rfl
 unfold cK;rw[hmid,hx1]
 by_cases hd:(M.step c p x.m).1.st=0
 ·rw[if_pos hd,Jb]
  refine⟨⟨?_,?_,λq oq hq=>?_,xh.bad⟩,?_,rfl,xh,hR'⟩
  ·show Rings c (B+8) x1.m
   rw[xh.mem];exact hR'
  ·show(x1.ow.set p _).length=c.n
   rw[List.length_set,xh.len]
  ·show KC c (B+8) x1.m q oq
   rw[xh.mem];replace hq:(x1.ow.set p (o1.now none))[q]? = some oq:=hq
   by_cases e:q=p
   ·subst e
    rw[List.getElem?_set_self (by rw[xh.len];exact hp)]at hq;cases hq;exact⟨e6,e7,λM2 hM2=>by cases hM2⟩
   ·rw[List.getElem?_set_ne (Ne.symm e)]at hq
    exact hkeep q oq e hq
  ·rw[if_pos hd]
   rw[if_pos hd,if_pos hd]at k4;refine k4.trans (List.Perm.append_right _ ?_);have:(List.range c.n).flatMap (λq=>rl c (M.step c p x.m).2 q++(if q=p then [] else cq x q))=fl c (x1.own p (o1.now none)):=by
    unfold fl;rw[List.flatMap_def,List.flatMap_def]
    congr 1
    apply List.map_congr_left;intro q hq;show _=rl c x1.m q++_;rw[xh.mem]
    congr 1
    by_cases e:q=p
    ·subst e
     rw[if_pos rfl];show[]=eo (x1.ow.set q (o1.now none)) q;unfold eo;rw[List.getElem?_set_self (by rw[xh.len];exact hp)];rfl
    ·rw[if_neg e,← HS q e]
     show eo x1.ow q=eo (x1.ow.set p (o1.now none)) q;unfold eo;rw[List.getElem?_set_ne (Ne.symm e)]
   rw[this]
 ·rw[if_neg hd]
  refine⟨⟨?_,xh.len,λq oq hq=>?_,xh.bad⟩,?_,rfl,xh,hR'⟩
  ·show Rings c (B+8) x1.m
   rw[xh.mem];exact hR'
  ·show KC c (B+8) x1.m q oq
   rw[xh.mem]
   by_cases e:q=p
   ·subst e
    replace hq:x1.ow[q]? = some oq:=hq;rw[Jb]at hq;cases hq;refine⟨e6,e7,λM2 hM2=>?_⟩;rw[e5]at hM2;cases hM2;refine⟨hd,e8 hd,?_⟩;cases M with
    | put u=>exact⟨e2.trans hC.1,e4.trans (hC.2.trans ((zf hI.R hp zC h0).2.2.2.1).symm)⟩
    | get u=>exact e2.trans hC
    | steal v u=>exact⟨e2.trans hC.1,e3.trans hC.2⟩
   ·exact hkeep q oq e hq
  ·rw[if_neg hd]
   rw[if_neg hd,if_neg hd]at k4;refine k4.trans (List.Perm.append_right _ ?_);have:(List.range c.n).flatMap (λq=>rl c (M.step c p x.m).2 q++(if q=p then (M.step c p x.m).1.hands else cq x q))=fl c x1:=by
    unfold fl;rw[List.flatMap_def,List.flatMap_def]
    congr 1
    apply List.map_congr_left;intro q hq;show _=rl c x1.m q++_;rw[xh.mem]
    congr 1
    by_cases e:q=p
    ·subst e
     rw[if_pos rfl];unfold cq eo;rw[Jb];simp[eI,e5]
    ·rw[if_neg e,← HS q e]
   rw[this]
end
def ep(c:aU)(p:Nat)(kd cv cg:Int):Option bV :=
 if kd=1/\0<=cg then some (.put (iu cg)) else if kd=2 then some (.get lm) else if kd=3/\0<=cv/\cv<(c.n:Int)/\cv≠(p:Int) then some (.steal cv.toNat fD) else none
def ct.xi(o:ct)(kd cv cg:Int)(M:bV):ct:=⟨kd,cv,cg,some M,o.dq,false,o.rs⟩
section
variable{c:aU}{B:Int}{x:aI}{p:Nat}{o:ct}{M:bV}{kd cv cg:Int}
theorem DW(hg:Gn cg\/cg<0){m:bO}{rs:List Int}(h:ep c p kd cv cg=some M):M.st≠0/\Bf c B m p M false rs/\LU (o.xi kd cv cg M) M/\M.hands=(if kd=1 then [cg] else [])/\(kd=1->0<=cg):=by
 unfold ep at h
 split at h
 ·next h1 =>
  cases h;have e:iu cg=⟨1,cg,0,[],[cg]⟩:=if_pos h1.2;have hG:Gn cg:=hg.resolve_right (by omega);rw[e];refine⟨Nat.succ_ne_zero 0,⟨⟨by show 1<=5;decide,λ_=>hG,⟨Int.le_refl 0,by show(0:Int)<18446744073709551616;decide⟩,by simp,λh=>(by cases h),by show 1<=64;decide⟩,hG,rfl,λh=>(by rcases h with h | h<;>cases h),λh=>(by cases h),λh=>(by rcases h with h | h<;>cases h),λh=>(by cases h)⟩,⟨h1.1,rfl⟩,?_,λ_=>h1.2⟩;rw[if_pos h1.1];rfl
 ·next h1 =>
  split at h
  ·next h2 =>
   cases h;refine⟨Nat.succ_ne_zero 0,⟨⟨by show 1<4;decide,⟨Int.le_refl 0,by show(0:Int)<18446744073709551616;decide⟩,λ_=>rfl⟩,λh=>(by rcases h with h | h<;>cases h),λh=>(by cases h)⟩,h2,?_,λh=>(by omega)⟩;rw[if_neg (by omega)];rfl
  ·next h2 =>
   split at h
   ·next h3 =>
    cases h;obtain⟨q1,q2,q3,q4⟩:=h3;refine⟨Nat.succ_ne_zero 0,⟨by omega,by omega,⟨ze,λ_=>rfl,λh=>(by rcases h with h | h<;>cases h),λh=>(by cases h),λh=>(by cases h)⟩⟩,⟨q1,by show cv=_;omega⟩,?_,λh=>(by omega)⟩;rw[if_neg (by omega)];rfl
   ·cases h
theorem Bg(hI:en c B x)(ho:x.ow[p]? = some o)(hM:o.dE=none)(hg:Gn cg\/cg<0)(h:ep c p kd cv cg=some M) :
  en c B (x.own p (o.xi kd cv cg M))/\(fl c (x.own p (o.xi kd cv cg M))).Perm (fl c x++(if kd=1 then [cg] else [])):=by
 have hlt:p<x.ow.length:=(List.getElem?_eq_some_iff.1 ho).1;have hp:p<c.n:=by rw[← hI.len];exact hlt
 have hO:=hI.ow p o ho;obtain⟨h1,h2,h3,h4,_⟩:=DW (o:=o) (B:=B) (m:=x.m) (rs:=o.rs) hg h;refine⟨⟨hI.R,by show(x.ow.set p _).length=_;rw[List.length_set,hI.len],λq oq hq=>?_,hI.ok⟩,?_⟩
 ·replace hq:(x.ow.set p (o.xi kd cv cg M))[q]? = some oq:=hq
  by_cases e:q=p
  ·subst e
   rw[List.getElem?_set_self hlt]at hq;cases hq;refine⟨hO.dq,hO.rs,λM2 hM2=>?_⟩;cases hM2;exact⟨h1,h2,h3⟩
  ·rw[List.getElem?_set_ne (Ne.symm e)]at hq
   exact hI.ow q oq hq
 ·refine List.Perm.symm ?_
  unfold fl
  by_cases hk:kd=1
  ·rw[if_pos hk]at h4 ⊢
   refine List.Perm.symm (List.Perm.trans (mg _ hp) ?_);refine List.Perm.trans ?_ ((mg _ hp).symm.append_right _)
   have e1:(((List.range c.n).erase p).flatMap λq=>rl c (x.own p (o.xi kd cv cg M)).m q++cq (x.own p (o.xi kd cv cg M)) q)=(((List.range c.n).erase p).flatMap λq=>rl c x.m q++cq x q):=Cx (λq hq hne=>by
    show rl c x.m q++_=_
    congr 1
    show eo (x.ow.set p _) q=eo x.ow q;unfold eo
    rw[List.getElem?_set_ne (Ne.symm hne)])
   rw[e1];have e2:cq (x.own p (o.xi kd cv cg M)) p=[cg]:=by
    show eo (x.ow.set p (o.xi kd cv cg M)) p=_;unfold eo;rw[List.getElem?_set_self hlt];exact h4
   have e3:cq x p=[]:=by
    simp[cq,eo,ho,eI,hM]
   show((rl c x.m p++cq (x.own p (o.xi kd cv cg M)) p)++_).Perm _;rw[e2,e3,List.append_nil,List.append_assoc,List.append_assoc];exact List.perm_append_comm.append_left _
  ·rw[if_neg hk]at h4 ⊢
   rw[List.append_nil];have:(List.range c.n).flatMap (λq=>rl c (x.own p (o.xi kd cv cg M)).m q++cq (x.own p (o.xi kd cv cg M)) q)=(List.range c.n).flatMap (λq=>rl c x.m q++cq x q):=by
    rw[List.flatMap_def,List.flatMap_def]
    congr 1
    apply List.map_congr_left;intro q hq;show rl c x.m q++_=_
    congr 1
    show eo (x.ow.set p (o.xi kd cv cg M)) q=eo x.ow q;unfold eo
    by_cases e:q=p
    ·subst e
     rw[List.getElem?_set_self hlt,ho];show M.hands=eI o;unfold eI;rw[hM,h4];rfl
    ·rw[List.getElem?_set_ne (Ne.symm e)]
   rw[this]
end
def gM(c:aU):ct:=⟨0,0,0,none,kq c,false,[]⟩
def eJ(c:aU):aI:=⟨⟨List.replicate c.cells 0,0⟩,List.replicate c.n (gM c),0,false⟩
theorem Cy(n a:Nat):ld ⟨List.replicate n 0,0⟩ a=0:=by
 unfold ld;simp only[List.getD_eq_getElem?_getD,List.getElem?_replicate]
 split<;>rfl
theorem zi(c:aU)(h8:c.q=2\/c.q=4\/c.q=8):en c 0 (eJ c)/\fl c (eJ c)=[]:=by
 have hw:∀ q,wd c (eJ c).m q=0:=λq=>Cy _ _
 have hq:=c.qb;have hrl:∀ q,rl c (eJ c).m q=[]:=λq=>by
  unfold rl;rw[hw];rfl
 have how:∀ (q:Nat) oq,(eJ c).ow[q]? = some oq->oq=gM c:=λq oq h=>by
  simp only[eJ,List.getElem?_replicate]at h
  split at h
  ·exact(Option.some.inj h).symm
  ·cases h
 have hz0:aW 0=0:=by decide
 refine⟨⟨⟨⟨by simp[eJ,aU.cells],λy hy=>?_⟩,λq _ i=>?_,λq _=>?_,h8,by decide⟩,by simp[eJ],λq oq h=>?_,rfl⟩,?_⟩
 ·have:y=0:=(List.mem_replicate.1 hy).2
  rw[this];exact⟨by decide,by decide⟩
 ·show Gn (ld _ _)
  rw[show ld (eJ c).m (c.slot q i)=0 from Cy _ _];exact⟨by decide,by decide⟩
 ·rw[hw]
  exact⟨⟨by decide,by decide⟩,by decide,by rw[hz0];omega⟩
 ·rw[how q oq h]
  refine⟨⟨zd c,(hw q).symm,?_⟩,by simp[gM],λM hM=>by cases hM⟩;rw[hrl];unfold bj;rw[show(gM c).dq.w=0 from rfl,hz0];rfl
 ·unfold fl
  rw[List.flatMap_eq_nil_iff];intro q hq;rw[hrl];unfold cq eo;cases h:(eJ c).ow[q]? with
  | none=>rfl
  | some oq =>
   rw[how q oq h];rfl
end Go.Proofs.YtkmccgombmogmaaGreat
