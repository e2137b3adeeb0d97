/- Part of a proof: see the last text. -/
import Derived.Test.YtkmccgombmogmaaGreatZk8
namespace Go.Proofs.YtkmccgombmogmaaGreat
open Go.RowKit
set_option linter.unusedVariables false
set_option linter.unusedSimpArgs false
structure LayI (c:Cfg) (B:Int) (m:MemM) (p:Nat) (l:LayS) : Prop where
 ok:LayOk l
 ne:l.ls ≠ []
 s23:l.st=2∨l.st=3→Seen c B m p l.w∧l.n=min l.ls.length (c.q - (szW l.w).toNat)∧1≤l.n
 s2:l.st=2→l.k < l.n∧∀ (i:Nat) g,i < l.k→l.ls[i]? = some g→sl c m p (tlW l.w+(i:Int))=g
 s3:l.st=3→∀ (i:Nat) g,i < l.n→l.ls[i]? = some g→sl c m p (tlW l.w+(i:Int))=g
section
variable {c:Cfg} {B:Int} {m m':MemM} {p:Nat} {own:Prop}
theorem LayI.keep {l:LayS} (h:LayI c B m p l) (hr:RingTo c own p m m') (hn:¬ own) (hw:WOk c B (wd c m p)) (hB:B≤1073741824) : LayI c (B+8) m' p l:=by
 obtain ⟨k1,k2,k3⟩:=hr.else hn hw hB
 exact ⟨h.ok,h.ne,fun e=>⟨(h.s23 e).1.keep hr hn hw hB,(h.s23 e).2⟩,fun e=>⟨(h.s2 e).1,fun i g hi hg=>by rw [k1]; exact (h.s2 e).2 i g hi hg⟩,fun e i g hi hg=>by rw [k1]; exact h.s3 e i g hi hg⟩
theorem lay_does (hR:Rings c B m) (hp:p < c.n) {l:LayS} (h:LayI c B m p l) (h0:l.st ≠ 0) :
  MemOk c (layStep c p l m).2∧(∀ q,q < c.n→RingTo c (p=q) q m (layStep c p l m).2)∧(∀ q,q < c.n→q ≠ p→wd c (layStep c p l m).2 q=wd c m q∧rl c (layStep c p l m).2 q=rl c m q)∧LayB (layStep c p l m).1 ∧
  ((layStep c p l m).1.st ≠ 0→LayI c (B+8) (layStep c p l m).2 p (layStep c p l m).1∧Quiet c p m (layStep c p l m).2∧(layStep c p l m).1.ls=l.ls) ∧
  ((layStep c p l m).1.st=0→rl c (layStep c p l m).2 p++(layStep c p l m).1.ls=rl c m p++l.ls∧∀ d,DqR c m p d→DqR c (layStep c p l m).2 p (dqLay c d (l.ls.take (dqN c d l.ls)))∧l.ls.drop (dqN c d l.ls)=(layStep c p l m).1.ls):=by
 have hok:=(layStep_ok hp h.ok hR.mem).1
 have hw:=hR.w p hp
 have hB:=hR.hB
 have h8:=hR.h8
 obtain ⟨t1,t2,t3⟩:=hw.tl (by omega)
 have hz:=hw.sz
 have qt:∀ {m':MemM},Quiet c p m m'→MemOk c m'∧(∀ q,q < c.n→RingTo c (p=q) q m m')∧(∀ q,q < c.n→q ≠ p→wd c m' q=wd c m q∧rl c m' q=rl c m q):=fun k=>⟨k.mem,k.ring,fun q hq _=>⟨k.w q hq,k.l q hq⟩⟩
 have hne:=h.ne
 have s23:=h.s23
 have s2:=h.s2
 have s3:=h.s3
 have huw:=h.ok.w
 have hgs:=h.ok.gs
 obtain ⟨st,w,k,n,ls⟩:=l
 dsimp only at hne s23 s2 s3 huw h0 hgs
 match st,h.ok.st with
 | 0,_=>exact absurd rfl h0
 | 1,_ =>
  obtain ⟨a1,a2,a3⟩:=qt (hR.tick (p:=p))
  obtain ⟨r,hr⟩ : ∃ r,roomN c ls (ld m (c.word p))=r:=⟨_,rfl⟩
  have hr2:r=min ls.length (c.q - (szW (wd c m p)).toNat):=by
   rw [← hr]
   unfold roomN
   show min ls.length (c.q - min (szW (wd c m p)).toNat c.q)=_
   omega
  have e:layStep c p ⟨1,w,k,n,ls⟩ m=(⟨if r=0 then 0 else 2,ld m (c.word p),0,r,ls⟩,m.tick):=by simp only [layStep,hr]
  rw [e] at hok ⊢
  refine ⟨a1,a2,a3,hok.base,fun he=>?_,fun he=>⟨rfl,fun d hd=>?_⟩⟩
  ·have hr0:¬ r=0:=fun hh=>he (by dsimp only; rw [if_pos hh])
   rw [if_neg hr0] at hok ⊢
   exact ⟨⟨hok,hne,fun _=>⟨⟨hw.mono (by omega),Int.le_refl _,rfl⟩,hr2,by show 1≤r; omega⟩,fun _=>⟨by show 0 < r; omega,fun i g hi=>absurd hi (Nat.not_lt_zero _)⟩,fun he=>(by cases he)⟩,hR.tick,rfl⟩
  ·have hr0:r=0:=Classical.byContradiction fun hh=>by
    dsimp only at he
    rw [if_neg hh] at he
    cases he
   have hd0:dqN c d ls=0:=by
    unfold dqN
    rw [hd.w]
    omega
   rw [hd0]
   exact ⟨hd.still rfl rfl,rfl⟩
 | 2,_ =>
  obtain ⟨k1,k2,k3⟩:=s23 (.inl rfl)
  obtain ⟨k4,k5⟩:=s2 rfl
  obtain ⟨u1,u2,u3⟩:=k1.ok.tl (by omega)
  have kl:=k1.le
  have kt:=k1.tl
  have kz:=k1.ok.sz
  have hkl:k < ls.length:=by omega
  have eg:ls.getD k 0=ls[k]:=by simp [List.getD_eq_getElem?_getD,hkl]
  have hgk:Gn ls[k]:=hgs _ (List.getElem_mem hkl)
  have e:layStep c p ⟨2,w,k,n,ls⟩ m=(⟨if k+1=n then 3 else 2,w,k+1,n,ls⟩,m.put (c.slot p (tlW w+(k:Int))) ls[k]):=by
   simp only [layStep,eg]
   rw [slot_mod]
  rw [e] at hok ⊢
  have Qt:=hR.store hp hgk (j:=tlW w+(k:Int)) (by omega) (by omega)
  obtain ⟨a1,a2,a3⟩:=qt Qt
  have hsee:Seen c (B+8) (m.put (c.slot p (tlW w+(k:Int))) ls[k]) p w:=⟨k1.ok.mono (by omega),by rw [Qt.w p hp]; exact kl,by rw [Qt.w p hp]; exact kt⟩
  have hsl:∀ (i:Nat) g,i < k+1→ls[i]? = some g→sl c (m.put (c.slot p (tlW w+(k:Int))) ls[k]) p (tlW w+(i:Int))=g:=fun i g hi hg=>by
   rw [sl_puts hR.mem hp]
   by_cases hik:i=k
   ·subst hik
    rw [if_pos ⟨rfl,rfl⟩]
    rw [List.getElem?_eq_getElem hkl] at hg
    exact Option.some.inj hg
   ·rw [if_neg (fun h=>slotI_ne c (i:=tlW w+(i:Int)) (j:=tlW w+(k:Int)) (by omega) (by omega) h.2)]
    exact k5 i g (by omega) hg
  refine ⟨a1,a2,a3,hok.base,fun he=>⟨⟨hok,hne,fun _=>⟨hsee,k2,k3⟩,fun he2=>?_,fun he3=>?_⟩,Qt,rfl⟩,fun he=>?_⟩
  ·dsimp only at he2 ⊢
   refine ⟨?_,hsl⟩
   split at he2
   ·cases he2
   ·omega
  ·dsimp only at he3 ⊢
   split at he3
   ·next h=>rw [← h]; exact hsl
   ·cases he3
  ·dsimp only at he
   split at he <;> cases he
 | 3,_ =>
  obtain ⟨k1,k2,k3⟩:=s23 (.inr rfl)
  have k5:=s3 rfl
  by_cases hc:ld m (c.word p)=w
  ·have e:layStep c p ⟨3,w,k,n,ls⟩ m=(⟨0,w,k,n,ls.drop n⟩,m.put (c.word p) (mvW w (n:Int))):=by simp only [layStep,if_pos hc]
   rw [e] at hok ⊢
   have hwe:wd c m p=w:=hc
   have hln:(ls.take n).length=n:=by rw [List.length_take]; omega
   have hw':wd c (m.put (c.word p) (mvW w (n:Int))) p=mvW (wd c m p) ((ls.take n).length:Int):=by rw [wd_putw hR.mem hp,if_pos rfl,hwe,hln]
   have hs':∀ q i,sl c (m.put (c.word p) (mvW w (n:Int))) q i=sl c m q i:=fun q i=>sl_putw hR.mem hp _ q i
   have ho:∀ q,q ≠ p→wd c (m.put (c.word p) (mvW w (n:Int))) q=wd c m q:=fun q hq=>by rw [wd_putw hR.mem hp,if_neg hq]
   have hfit:szW (wd c m p)+((ls.take n).length:Int)≤(c.q:Int):=by rw [hln,hwe]; rw [hwe] at hz t3; omega
   have hslot:∀ (i:Nat) g,(ls.take n)[i]? = some g→sl c m p (tlW (wd c m p)+(i:Int))=g:=fun i g hi=>by
    have hlt:=(List.getElem?_eq_some_iff.1 hi).1
    rw [hln] at hlt
    rw [hwe]
    refine k5 i g hlt ?_
    rw [List.getElem?_take,if_pos hlt] at hi
    exact hi
   refine ⟨hR.mem.put _ (mvW_u huw _),fun q hq=>?_,fun q hq hne=>⟨ho q hne,rl_same (fun i _ _=>hs' q i) (ho q hne)⟩,hok.base,fun he=>absurd rfl he,fun _=>⟨?_,fun d hd=>?_⟩⟩
   ·by_cases eq:p=q
    ·subst eq
     exact .grow rfl (hs' p) _ (by omega) hfit hw'
    ·exact .none (hs' q) (ho q (Ne.symm eq))
   ·show _++ls.drop n=_
    rw [rl_grow hw hB (hs' p) hfit hw' hslot,List.append_assoc,List.take_append_drop]
   ·have hdn:dqN c d ls=n:=by
     unfold dqN
     rw [hd.w,hwe]
     exact k2.symm
    dsimp only
    rw [hdn]
    exact ⟨hd.lay hw hB (hs' p) hfit hw' hslot,rfl⟩
  ·have e:layStep c p ⟨3,w,k,n,ls⟩ m=(⟨1,w,k,n,ls⟩,m.tick):=by simp only [layStep,if_neg hc]
   rw [e] at hok ⊢
   obtain ⟨a1,a2,a3⟩:=qt (hR.tick (p:=p))
   exact ⟨a1,a2,a3,hok.base,fun _=>⟨⟨hok,hne,fun he=>(by rcases he with he | he <;> cases he),fun he=>(by cases he),fun he=>(by cases he)⟩,hR.tick,rfl⟩,fun he=>(by cases he)⟩
end
structure StealI (c:Cfg) (B:Int) (m:MemM) (p v:Nat) (u:StealS) (gn:Bool) (rs:List Int) : Prop where
 ok:StealOk u
 s123:u.st=1∨u.st=2∨u.st=3→gn=false
 s23:u.st=2∨u.st=3→Snap c B m v u.w u.bt
 s3:u.st=3→(u.bt.length:Int)=oldN (szW u.w)
 s4:u.st=4→gn=true∧∃ l,u.ly=some l∧LayI c B m p l∧l.st ≠ 0∧rs=u.bt.drop 1∧l.ls=u.bt.drop 1
section
variable {c:Cfg} {B:Int} {m m':MemM} {p v:Nat} {op ov:Prop} {gn:Bool} {rs:List Int}
theorem StealI.keep {u:StealS} (h:StealI c B m p v u gn rs) (h8:c.q=2∨c.q=4∨c.q=8) (hr:RingTo c op p m m') (hn:¬ op) (hv:RingTo c ov v m m') (hw:WOk c B (wd c m p)) (hwv:WOk c B (wd c m v)) (hB:B≤1073741824) : StealI c (B+8) m' p v u gn rs :=
 ⟨h.ok,h.s123,fun e=>(h.s23 e).keep h8 hv hwv hB,h.s3,fun e=>by
  obtain ⟨k1,l,k2,k3,k4,k5⟩:=h.s4 e
  exact ⟨k1,l,k2,k3.keep hr hn hw hB,k4,k5⟩⟩
theorem steal_does (hR:Rings c B m) (hp:p < c.n) (hv:v < c.n) (hpv:v ≠ p) {u:StealS} (h:StealI c B m p v u gn rs) (h0:u.st ≠ 0) :
  MemOk c (stealStep c p v u m).2∧(∀ q,q < c.n→RingTo c (p=q) q m (stealStep c p v u m).2)∧(∀ q,q < c.n→q ≠ p→q ≠ v→wd c (stealStep c p v u m).2 q=wd c m q∧rl c (stealStep c p v u m).2 q=rl c m q) ∧
  ((stealStep c p v u m).1.st ≠ 0∧¬ (gn=false∧0 < (stealStep c p v u m).1.many)∧StealI c (B+8) (stealStep c p v u m).2 p v (stealStep c p v u m).1 gn rs∧Quiet c p m (stealStep c p v u m).2∧(stealStep c p v u m).1.hands=u.hands
  ∨ gn=false∧((stealStep c p v u m).1.st=0∨0 < (stealStep c p v u m).1.many)∧((stealStep c p v u m).1.st ≠ 0→StealI c (B+8) (stealStep c p v u m).2 p v (stealStep c p v u m).1 true ((stealStep c p v u m).1.hands.drop 1))∧wd c (stealStep c p v u m).2 p=wd c m p∧rl c (stealStep c p v u m).2 p=rl c m p∧u.hands=[]∧(stealStep c p v u m).1.hands++rl c (stealStep c p v u m).2 v=rl c m v∧((stealStep c p v u m).1.st=0→(stealStep c p v u m).1.hands=(if (stealStep c p v u m).1.got.2 then [(stealStep c p v u m).1.got.1] else [])++(stealStep c p v u m).1.left)∧(∀ d,DqR c m v d→DqR c (stealStep c p v u m).2 v (dqSteal d)∧dqOld c d=(stealStep c p v u m).1.hands)
  ∨ gn=true∧(stealStep c p v u m).1.st=0∧wd c (stealStep c p v u m).2 v=wd c m v∧rl c (stealStep c p v u m).2 v=rl c m v∧(((if (stealStep c p v u m).1.got.2 then [(stealStep c p v u m).1.got.1] else [])++(stealStep c p v u m).1.left)++rl c (stealStep c p v u m).2 p).Perm (u.hands++rl c m p)∧(∀ d,DqR c m p d→DqR c (stealStep c p v u m).2 p (dqLay c d (rs.take (dqN c d rs)))∧rs.drop (dqN c d rs)=(stealStep c p v u m).1.left)):=by
 have hok:=(stealStep_ok hp hv h.ok hR.mem hR.sl).1
 have hw:=hR.w v hv
 have hB:=hR.hB
 have h8:=hR.h8
 obtain ⟨t1,t2,t3⟩:=hw.tl (by omega)
 have hz:=hw.sz
 have qt:∀ {m':MemM},Quiet c p m m'→MemOk c m'∧(∀ q,q < c.n→RingTo c (p=q) q m m')∧(∀ q,q < c.n→q ≠ p→q ≠ v→wd c m' q=wd c m q∧rl c m' q=rl c m q):=fun k=>⟨k.mem,k.ring,fun q hq _ _=>⟨k.w q hq,k.l q hq⟩⟩
 have hno:=h.ok.no
 have hone:=h.ok.one
 have htwo:=h.ok.two
 have hthree:=h.ok.three
 have s123:=h.s123
 have s23:=h.s23
 have s3:=h.s3
 have s4:=h.s4
 have huw:=h.ok.w
 have hgs:=h.ok.gs
 obtain ⟨st,w,bt,ly⟩:=u
 dsimp only at hno hone htwo hthree s123 s23 s3 s4 huw h0 hgs
 obtain ⟨a1,a2,a3⟩:=qt (hR.tick (p:=p))
 match st,h.ok.st with
 | 0,_=>exact absurd rfl h0
 | 1,_ =>
  obtain rfl:=hno (.inl rfl)
  obtain rfl:=hone rfl
  have hgn:=s123 (.inl rfl)
  by_cases hc:szW (ld m (c.word v))=0∨(c.q:Int) < szW (ld m (c.word v))
  ·have e:stealStep c p v ⟨1,w,[],none⟩ m=(⟨0,ld m (c.word v),[],none⟩,m.tick):=by simp only [stealStep,if_pos hc]
   rw [e] at hok ⊢
   have hz0:szW (wd c m v)=0:=by
    rcases hc with h | h
    ·exact h
    ·exact absurd h (by have:=hz; show ¬ _ < szW (wd c m v); omega)
   refine ⟨a1,a2,a3,.inr (.inl ⟨hgn,.inl rfl,fun he=>absurd rfl he,rfl,rfl,rfl,rfl,fun _=>rfl,fun d hd=>?_⟩)⟩
   have hdz:szW d.w=0:=by rw [hd.w]; exact hz0
   refine ⟨?_,by unfold dqOld; simp [dqAll,hdz,StealS.hands]⟩
   unfold dqSteal
   rw [if_pos hdz]
   exact hd.still rfl rfl
  ·have e:stealStep c p v ⟨1,w,[],none⟩ m=(⟨2,ld m (c.word v),[],none⟩,m.tick):=by simp only [stealStep,if_neg hc]
   rw [e] at hok ⊢
   rw [not_or] at hc
   have hz1:szW (wd c m v) ≠ 0:=hc.1
   refine ⟨a1,a2,a3,.inl ⟨Nat.succ_ne_zero _,fun h=>absurd h.2 (by simp [StealS.many]),⟨hok,fun _=>hgn,fun _=>?_,fun he=>(by cases he),fun he=>(by cases he)⟩,hR.tick,rfl⟩⟩
   exact ⟨hw.mono (by omega),by show 1≤szW (wd c m v); omega,Int.le_refl _,(oldN_b3 t3).1,fun _=>(oldN_b3 t3).2.1,fun _ i g hi=>by cases hi⟩
 | 2,_ =>
  obtain rfl:=hno (.inr (.inl rfl))
  have hgn:=s123 (.inr (.inl rfl))
  obtain ⟨k1,k2⟩:=htwo rfl
  have hS:=s23 (.inl rfl)
  obtain ⟨st',hst'⟩ : ∃ st',(if ((bt.length+1:Nat) : Int)=oldN (szW w) then 3 else 2)=st':=⟨_,rfl⟩
  have e:stealStep c p v ⟨2,w,bt,none⟩ m=(⟨st',w,bt++[sl c m v (hdW w+(bt.length:Int))],none⟩,m.tick):=by
   simp only [stealStep,hst']
   rw [slot_mod,gn_wrap (hR.sl v hv _)]
  rw [e] at hok ⊢
  have hst2:st'=2∨st'=3:=by split at hst' <;> omega
  refine ⟨a1,a2,a3,.inl ⟨?_,fun h=>absurd h.2 (by simp [StealS.many]),⟨hok,fun _=>hgn,fun _=>?_,fun he=>?_,fun he=>?_⟩,hR.tick,rfl⟩⟩
  ·show st' ≠ 0
   omega
  ·refine ⟨hS.ok.mono (by omega),hS.ne,hS.le,?_,hS.old,fun eh i g hi=>?_⟩
   ·show ((bt++[_]).length:Int)≤oldN (szW w)
    rw [List.length_append]
    simp only [List.length_cons,List.length_nil]
    omega
   ·dsimp only at hi
    show g=sl c m v _
    by_cases hlt:i < bt.length
    ·rw [List.getElem?_append_left hlt] at hi
     exact hS.bt eh i g hi
    ·rw [List.getElem?_append_right (by omega)] at hi
     have hi0:i - bt.length=0:=by
      rcases Nat.eq_zero_or_pos (i - bt.length) with h | h
      ·exact h
      ·rw [List.getElem?_eq_none (by simp; omega)] at hi
       cases hi
     rw [hi0] at hi
     cases hi
     rw [show i=bt.length by omega]
  ·show ((bt++[_]).length:Int)=oldN (szW w)
   rw [List.length_append]
   simp only [List.length_cons,List.length_nil]
   dsimp only at he
   split at hst' <;> omega
  ·dsimp only at he
   omega
 | 3,_ =>
  obtain rfl:=hno (.inr (.inr rfl))
  have hgn:=s123 (.inr (.inr rfl))
  have hlen:=s3 rfl
  have hS:=s23 (.inr rfl)
  have hpos:=hthree rfl
  by_cases hc:ld m (c.word v)=w
  ·obtain ⟨st',hst'⟩ : ∃ st',(if bt.length=1 then 0 else 4)=st':=⟨_,rfl⟩
   have e:stealStep c p v ⟨3,w,bt,none⟩ m=(⟨st',w,bt,some ⟨1,0,0,0,bt.drop 1⟩⟩,m.put (c.word v) (gnW w (bt.length:Int))):=by simp only [stealStep,if_pos hc,hst',hlen]
   rw [e] at hok ⊢
   have hwe:wd c m v=w:=hc
   have hw':wd c (m.put (c.word v) (gnW w (bt.length:Int))) v=gnW (wd c m v) (bt.length:Int):=by rw [wd_putw hR.mem hv,if_pos rfl,hwe]
   have hs':∀ q i,sl c (m.put (c.word v) (gnW w (bt.length:Int))) q i=sl c m q i:=fun q i=>sl_putw hR.mem hv _ q i
   have ho:∀ q,q ≠ v→wd c (m.put (c.word v) (gnW w (bt.length:Int))) q=wd c m q:=fun q hq=>by rw [wd_putw hR.mem hv,if_neg hq]
   have hold:(bt.length:Int)≤szW (wd c m v):=by
    have:=hS.old (by rw [hwe])
    omega
   have hbt:(rl c m v).take bt.length=bt:=by
    unfold rl
    rw [win_take _ _ (by omega)]
    refine win_list (fun i g hi=>?_)
    rw [hS.bt (by rw [hwe]) i g hi,hwe]
   have hg:=rl_gain hw hB (hs' v) hold hw'
   have hh:bt.take 1++bt.drop 1=bt:=List.take_append_drop 1 bt
   refine ⟨hR.mem.put _ (gnW_u huw _),fun q hq=>?_,fun q hq _ hne=>⟨ho q hne,rl_same (fun i _ _=>hs' q i) (ho q hne)⟩,.inr (.inl ⟨hgn,.inr (by simp [StealS.many]; omega),fun he=>?_,ho p (Ne.symm hpv),rl_same (fun i _ _=>hs' p i) (ho p (Ne.symm hpv)),rfl,?_,fun he=>?_,fun d hd=>⟨?_,?_⟩⟩)⟩
   ·by_cases eq:q=v
    ·subst eq
     exact .gain (hs' q) _ (by omega) hold hw'
    ·exact .none (hs' q) (ho q eq)
   ·have hl1:¬ bt.length=1:=fun hh=>by
     dsimp only at he
     rw [if_pos hh] at hst'
     omega
    have hst4:st'=4:=by rw [if_neg hl1] at hst'; omega
    subst hst4
    refine ⟨hok,fun he=>(by rcases he with he | he | he <;> cases he),fun he=>(by rcases he with he | he <;> cases he),fun he=>(by cases he),fun _=>⟨rfl,_,rfl,⟨?_,?_,fun he=>(by rcases he with he | he <;> cases he),fun he=>(by cases he),fun he=>(by cases he)⟩,(by show (1:Nat) ≠ 0; decide),?_,rfl⟩⟩
    ·obtain ⟨l,e1,e2,e3⟩:=hok.four rfl
     cases e1
     exact e2
    ·show bt.drop 1 ≠ []
     intro hh
     have:=congrArg List.length hh
     simp at this
     omega
    ·show (bt.take 1++bt.drop 1).drop 1=bt.drop 1
     rw [hh]
   ·show (bt.take 1++bt.drop 1)++_=_
    rw [hh,hg]
    rw [show bt++(rl c m v).drop bt.length=(rl c m v).take bt.length++(rl c m v).drop bt.length by rw [hbt],List.take_append_drop]
   ·dsimp only at he
    subst he
    show bt.take 1++bt.drop 1=(if true=true then [bt.getD 0 0] else [])++bt.drop 1
    rw [if_pos rfl]
    congr 1
    cases bt with
    | nil=>simp at hpos
    | cons g l=>rfl
   ·have hdz:¬ szW d.w=0:=by rw [hd.w]; omega
    unfold dqSteal
    rw [if_neg hdz,show oldN (szW d.w)=(bt.length:Int) by rw [hd.w,hwe]; exact hlen.symm]
    exact hd.gain hw hB (hs' v) hold hw'
   ·show dqOld c d=bt.take 1++bt.drop 1
    unfold dqOld
    rw [hh,hd.l,show (oldN (szW d.w)).toNat=bt.length by rw [hd.w,hwe]; omega]
    exact hbt
  ·have e:stealStep c p v ⟨3,w,bt,none⟩ m=(⟨1,w,[],none⟩,m.tick):=by simp only [stealStep,if_neg hc]
   rw [e] at hok ⊢
   exact ⟨a1,a2,a3,.inl ⟨Nat.succ_ne_zero _,fun h=>absurd h.2 (by simp [StealS.many]),⟨hok,fun _=>hgn,fun he=>(by rcases he with he | he <;> cases he),fun he=>(by cases he),fun he=>(by cases he)⟩,hR.tick,rfl⟩⟩
 | 4,_ =>
  obtain ⟨hgn,l,hly,hL,hl0,hrs,hls⟩:=s4 rfl
  subst hly
  obtain ⟨b1,b2,b3,b4,b5,b6⟩:=lay_does hR hp hL hl0
  have e:stealStep c p v ⟨4,w,bt,some l⟩ m=(⟨if (layStep c p l m).1.st=0 then 0 else 4,w,bt,some (layStep c p l m).1⟩,(layStep c p l m).2):=rfl
  rw [e] at hok ⊢
  obtain ⟨hlb,hb0⟩:=h.ok.lay l rfl
  by_cases hd0:(layStep c p l m).1.st=0
  ·rw [if_pos hd0] at hok ⊢
   refine ⟨b1,b2,fun q hq hne _=>b3 q hq hne,.inr (.inr ⟨hgn,rfl,(b3 v hv hpv).1,(b3 v hv hpv).2,?_,fun d hd=>?_⟩)⟩
   ·show (((if true=true then [bt.getD 0 0] else [])++(layStep c p l m).1.ls)++rl c (layStep c p l m).2 p).Perm ((bt.take 1++l.ls)++rl c m p)
    rw [if_pos rfl]
    have h1:bt.take 1=[bt.getD 0 0]:=by
     cases bt with
     | nil=>simp at hb0
     | cons g l=>rfl
    have hperm:((layStep c p l m).1.ls++rl c (layStep c p l m).2 p).Perm (l.ls++rl c m p):=by
     have:=(b6 hd0).1
     exact (List.perm_append_comm.trans (by rw [this])).trans List.perm_append_comm
    rw [h1,List.append_assoc,List.append_assoc]
    exact hperm.append_left _
   ·obtain ⟨k1,k2⟩:=(b6 hd0).2 d hd
    rw [hrs,← hls]
    exact ⟨k1,k2⟩
  ·rw [if_neg hd0] at hok ⊢
   obtain ⟨k1,k2,k3⟩:=b5 hd0
   refine ⟨b1,b2,fun q hq hne _=>b3 q hq hne,.inl ⟨Nat.succ_ne_zero _,fun h=>absurd h.1 (by rw [hgn]; decide),⟨hok,fun he=>(by rcases he with he | he | he <;> cases he),fun he=>(by rcases he with he | he <;> cases he),fun he=>(by cases he),fun _=>⟨hgn,_,rfl,k1,hd0,hrs,k3.trans hls⟩⟩,k2,?_⟩⟩
   show bt.take 1++(layStep c p l m).1.ls=bt.take 1++l.ls
   rw [k3]
end
end Go.Proofs.YtkmccgombmogmaaGreat
namespace Go.Proofs.YtkmccgombmogmaaGreat
open Go.RowKit
set_option linter.unusedVariables false
set_option linter.unusedSimpArgs false
def MacI (c:Cfg) (B:Int) (m:MemM) (p:Nat) (M:MacS) (gn:Bool) (rs:List Int) : Prop :=
 match M with
 | .put u=>PutI c B m p u
 | .get u=>GetI c B m p u
 | .steal v u=>v < c.n∧v ≠ p∧StealI c B m p v u gn rs
def CallI (o:OwnS) (M:MacS) : Prop :=
 match M with
 | .put u=>o.kd=1∧o.cg=u.gg
 | .get _=>o.kd=2
 | .steal v _=>o.kd=3∧o.cv=(v:Int)
structure OwnI (c:Cfg) (B:Int) (m:MemM) (p:Nat) (o:OwnS) : Prop where
 dq:DqR c m p o.dq
 rs:o.rs.length≤64
 mac:∀ M,o.mac=some M→M.st ≠ 0∧MacI c B m p M o.gn o.rs∧CallI o M
structure RaceI (c:Cfg) (B:Int) (x:RaceS) : Prop where
 R:Rings c B x.m
 len:x.ow.length=c.n
 ow:∀ (p:Nat) o,x.ow[p]? = some o→OwnI c B x.m p o
 ok:x.bad=false
structure MidI (c:Cfg) (B:Int) (x:RaceS) (p:Nat) (o:OwnS) (M:MacS) (m:MemM) (x1:RaceS) : Prop where
 mem:x1.m=m
 len:x1.ow.length=c.n
 bad:x1.bad=false
 self:∃ o1,x1.ow[p]? = some o1∧o1.kd=o.kd∧o1.cv=o.cv∧o1.cg=o.cg∧o1.mac=some M∧DqR c m p o1.dq∧o1.rs.length≤64∧(M.st ≠ 0→MacI c B m p M o1.gn o1.rs)
 other:∀ (q:Nat) oq,q ≠ p→x.ow[q]? = some oq→∃ d,x1.ow[q]? = some (oq.deq d)∧DqR c m q d
def handsO (o:OwnS) : List Int:=(o.mac.map MacS.hands).getD []
def handsL (l:List OwnS) (q:Nat) : List Int:=(l[q]?.map handsO).getD []
def handsAt (x:RaceS) (q:Nat) : List Int:=handsL x.ow q
def allR (c:Cfg) (x:RaceS) : List Int:=(List.range c.n).flatMap (fun q=>rl c x.m q++handsAt x q)
def outsM (M:MacS) : List Int:=M.over++(if 0≤M.got then [M.got] else [])
theorem fm_split {n p:Nat} (f:Nat→List Int) (hp:p < n) : ((List.range n).flatMap f).Perm (f p++((List.range n).erase p).flatMap f):=by
 have:=(List.perm_cons_erase (List.mem_range.2 hp)).flatMap_right f
 rwa [List.flatMap_cons] at this
theorem fm_rest {n p:Nat} {f f':Nat→List Int} (h:∀ q,q < n→q ≠ p→f' q=f q) : ((List.range n).erase p).flatMap f'=((List.range n).erase p).flatMap f:=by
 rw [List.flatMap_def,List.flatMap_def]
 congr 1
 apply List.map_congr_left
 intro q hq
 have:=(List.Nodup.mem_erase_iff List.nodup_range).1 hq
 exact h q (List.mem_range.1 this.2) this.1
theorem fm_one {n p:Nat} {f f':Nat→List Int} {out:List Int} (hp:p < n) (h:∀ q,q < n→q ≠ p→f' q=f q) (hh:(f p).Perm (f' p++out)) : ((List.range n).flatMap f).Perm ((List.range n).flatMap f'++out):=by
 refine (fm_split f hp).trans (List.Perm.trans ?_ ((fm_split f' hp).symm.append_right out))
 rw [fm_rest h]
 refine (hh.append_right _).trans ?_
 rw [List.append_assoc,List.append_assoc]
 exact (List.perm_append_comm).append_left _
theorem fm_two {n p v:Nat} {f f':Nat→List Int} {out:List Int} (hp:p < n) (hv:v < n) (hpv:v ≠ p) (h:∀ q,q < n→q ≠ p→q ≠ v→f' q=f q) (hh:(f p++f v).Perm ((f' p++f' v)++out)) : ((List.range n).flatMap f).Perm ((List.range n).flatMap f'++out):=by
 have two:∀ g:Nat→List Int,((List.range n).flatMap g).Perm ((g p++g v)++(((List.range n).erase p).erase v).flatMap g):=fun g=>by
  refine (fm_split g hp).trans ?_
  have hm:v ∈ (List.range n).erase p:=(List.Nodup.mem_erase_iff List.nodup_range).2 ⟨hpv,List.mem_range.2 hv⟩
  have:=(List.perm_cons_erase hm).flatMap_right g
  rw [List.flatMap_cons] at this
  rw [List.append_assoc]
  exact this.append_left _
 refine (two f).trans (List.Perm.trans ?_ ((two f').symm.append_right out))
 have e:(((List.range n).erase p).erase v).flatMap f'=(((List.range n).erase p).erase v).flatMap f:=by
  rw [List.flatMap_def,List.flatMap_def]
  congr 1
  apply List.map_congr_left
  intro q hq
  have h1:=(List.Nodup.mem_erase_iff (List.nodup_range.erase p)).1 hq
  have h2:=(List.Nodup.mem_erase_iff List.nodup_range).1 h1.2
  exact h q (List.mem_range.1 h2.2) h2.1 h1.1
 rw [e]
 refine (hh.append_right _).trans ?_
 simp only [List.append_assoc]
 exact ((List.perm_append_comm).append_left _).append_left _
section
variable {c:Cfg} {B:Int} {x:RaceS} {p:Nat} {o:OwnS} {M:MacS}
theorem deq_self (o:OwnS) : o.deq o.dq=o:=rfl
theorem race_point (hI:RaceI c B x) (ho:x.ow[p]? = some o) (hM:o.mac=some M) :
  MemOk c (M.step c p x.m).2∧(∀ q,q < c.n→RingTo c (p=q) q x.m (M.step c p x.m).2) ∧
  MidI c (B+8) x p o (M.step c p x.m).1 (M.step c p x.m).2 (racePoint c (RaceS.own ⟨(M.step c p x.m).2,x.ow,x.pts,x.bad⟩ p (o.now (some (M.step c p x.m).1))) p (o.now (some (M.step c p x.m).1)) (M.step c p x.m).1) ∧
  ((List.range c.n).flatMap (fun q=>rl c x.m q++handsAt x q)).Perm ((List.range c.n).flatMap (fun q=>rl c (M.step c p x.m).2 q++(if q=p then (if (M.step c p x.m).1.st=0 then [] else (M.step c p x.m).1.hands) else handsAt x q))++(if (M.step c p x.m).1.st=0 then outsM (M.step c p x.m).1 else [])):=by
 have hlt:p < x.ow.length:=(List.getElem?_eq_some_iff.1 ho).1
 have hp:p < c.n:=by rw [← hI.len]; exact hlt
 have hO:=hI.ow p o ho
 obtain ⟨h0,hMI,hC⟩:=hO.mac M hM
 have hR:=hI.R
 have hhp:handsAt x p=M.hands:=by simp [handsAt,handsL,ho,handsO,hM]
 have hset:∀ (m':MemM) (o':OwnS),(RaceS.own ⟨m',x.ow,x.pts,x.bad⟩ p o').ow[p]? = some o':=fun m' o'=>by
  show (x.ow.set p o')[p]? = _
  rw [List.getElem?_set_self hlt]
 have hoth:∀ (m':MemM) (o':OwnS) (q:Nat),q ≠ p→(RaceS.own ⟨m',x.ow,x.pts,x.bad⟩ p o').ow[q]? = x.ow[q]?:=fun m' o' q hq=>by
  show (x.ow.set p o')[q]? = _
  rw [List.getElem?_set_ne (Ne.symm hq)]
 have hss:∀ (m':MemM) (o1 o2:OwnS),((RaceS.own ⟨m',x.ow,x.pts,x.bad⟩ p o1).own p o2).ow[p]? = some o2:=fun m' o1 o2=>by
  show ((x.ow.set p o1).set p o2)[p]? = _
  rw [List.getElem?_set_self (by simp [hlt])]
 have hln:∀ (q:Nat) oq,x.ow[q]? = some oq→q < c.n:=fun q oq h=>by rw [← hI.len]; exact (List.getElem?_eq_some_iff.1 h).1
 cases M with
 | put u =>
  obtain ⟨k1,k2,k3,k4,k5,k6⟩:=put_does hR hp hMI h0
  obtain ⟨c1,c2⟩:=hC
  have hhs:u.hs=[u.gg]:=PutI.hs hMI
  refine ⟨k1,k2,?_,?_⟩
  ·by_cases hd:(putStep c p u x.m).1.st=0
   ·obtain ⟨j1,j2,j3⟩:=k6 hd o.dq hO.dq
    have e:racePoint c (RaceS.own ⟨((MacS.put u).step c p x.m).2,x.ow,x.pts,x.bad⟩ p (o.now (some ((MacS.put u).step c p x.m).1))) p (o.now (some ((MacS.put u).step c p x.m).1)) ((MacS.put u).step c p x.m).1=((RaceS.own ⟨(putStep c p u x.m).2,x.ow,x.pts,x.bad⟩ p (o.now (some (.put (putStep c p u x.m).1)))).own p ((o.now (some (.put (putStep c p u x.m).1))).deq (dqPut c o.dq o.cg).1)).holds (decide ((dqPut c o.dq o.cg).2=(putStep c p u x.m).1.hs)):=by
     simp only [MacS.step,racePoint,if_pos hd]
     rfl
    rw [e]
    refine ⟨rfl,by simp [RaceS.holds,RaceS.own,hI.len],by simp [RaceS.holds,RaceS.own,hI.ok,c2,j2],⟨_,hss _ _ _,rfl,rfl,rfl,rfl,by rw [c2]; exact j1,hO.rs,fun he=>absurd hd he⟩,fun q oq hq hoq=>⟨oq.dq,?_,?_⟩⟩
    ·show ((x.ow.set p _).set p _)[q]? = _
     rw [List.getElem?_set_ne (Ne.symm hq),List.getElem?_set_ne (Ne.symm hq),hoq,deq_self]
    ·exact (hI.ow q oq hoq).dq.still (k3 q (hln q oq hoq) hq).2 (k3 q (hln q oq hoq) hq).1
   ·obtain ⟨j1,j2⟩:=k5 hd
    have e:racePoint c (RaceS.own ⟨((MacS.put u).step c p x.m).2,x.ow,x.pts,x.bad⟩ p (o.now (some ((MacS.put u).step c p x.m).1))) p (o.now (some ((MacS.put u).step c p x.m).1)) ((MacS.put u).step c p x.m).1=(RaceS.own ⟨(putStep c p u x.m).2,x.ow,x.pts,x.bad⟩ p (o.now (some (.put (putStep c p u x.m).1)))):=by
     simp only [MacS.step,racePoint,if_neg hd]
    rw [e]
    exact ⟨rfl,by simp [RaceS.own,hI.len],hI.ok,⟨_,hset _ _,rfl,rfl,rfl,rfl,hO.dq.still (j2.l p hp) (j2.w p hp),hO.rs,fun _=>j1⟩,fun q oq hq hoq=>⟨oq.dq,(hoth _ _ q hq).trans hoq,(hI.ow q oq hoq).dq.still (j2.l q (hln q oq hoq)) (j2.w q (hln q oq hoq))⟩⟩
  ·refine fm_one hp (fun q hq hne=>?_) ?_
   ·show rl c (putStep c p u x.m).2 q++_=_
    rw [if_neg hne,(k3 q hq hne).2]
   ·show (rl c x.m p++handsAt x p).Perm ((rl c (putStep c p u x.m).2 p++_)++_)
    rw [hhp,if_pos rfl]
    show (rl c x.m p++u.hs).Perm _
    by_cases hd:(putStep c p u x.m).1.st=0
    ·obtain ⟨j1,j2,j3⟩:=k6 hd o.dq hO.dq
     have hd2:((MacS.put u).step c p x.m).1.st=0:=hd
     rw [if_pos hd2,if_pos hd2,hhs,List.append_nil]
     have e:outsM ((MacS.put u).step c p x.m).1=(putStep c p u x.m).1.hs:=by
      simp [outsM,MacS.step,MacS.over,MacS.got,hd]
     rw [e]
     exact j3.symm
    ·obtain ⟨j1,j2⟩:=k5 hd
     have hd2:¬ ((MacS.put u).step c p x.m).1.st=0:=hd
     rw [if_neg hd2,if_neg hd2,j2.l p hp,List.append_nil]
     show (rl c x.m p++u.hs).Perm (rl c x.m p++(putStep c p u x.m).1.hs)
     rw [hhs,show (putStep c p u x.m).1.hs=[(putStep c p u x.m).1.gg] from PutI.hs j1,k4]
 | get u =>
  obtain ⟨k1,k2,k3,k5,k6⟩:=get_does hR hp hMI h0
  refine ⟨k1,k2,?_,?_⟩
  ·by_cases hd:(getStep c p u x.m).1.st=0
   ·obtain ⟨j1,j2,j3,j4⟩:=k6 hd o.dq hO.dq
    have e:racePoint c (RaceS.own ⟨((MacS.get u).step c p x.m).2,x.ow,x.pts,x.bad⟩ p (o.now (some ((MacS.get u).step c p x.m).1))) p (o.now (some ((MacS.get u).step c p x.m).1)) ((MacS.get u).step c p x.m).1=((RaceS.own ⟨(getStep c p u x.m).2,x.ow,x.pts,x.bad⟩ p (o.now (some (.get (getStep c p u x.m).1)))).own p ((o.now (some (.get (getStep c p u x.m).1))).deq (dqGet o.dq))).holds (decide ((dqAll c o.dq).headD 0=(if (getStep c p u x.m).1.has then (getStep c p u x.m).1.sn else 0)) && (decide (szW o.dq.w ≠ 0) == (getStep c p u x.m).1.has)):=by
     simp only [MacS.step,racePoint,if_pos hd]
     rfl
    rw [e]
    refine ⟨rfl,by simp [RaceS.holds,RaceS.own,hI.len],?_,⟨_,hss _ _ _,rfl,rfl,rfl,rfl,j1,hO.rs,fun he=>absurd hd he⟩,fun q oq hq hoq=>⟨oq.dq,?_,?_⟩⟩
    ·show (x.bad || !_)=false
     rw [hI.ok,j3,j2]
     simp
    ·show ((x.ow.set p _).set p _)[q]? = _
     rw [List.getElem?_set_ne (Ne.symm hq),List.getElem?_set_ne (Ne.symm hq),hoq,deq_self]
    ·exact (hI.ow q oq hoq).dq.still (k3 q (hln q oq hoq) hq).2 (k3 q (hln q oq hoq) hq).1
   ·obtain ⟨j1,j2⟩:=k5 hd
    have e:racePoint c (RaceS.own ⟨((MacS.get u).step c p x.m).2,x.ow,x.pts,x.bad⟩ p (o.now (some ((MacS.get u).step c p x.m).1))) p (o.now (some ((MacS.get u).step c p x.m).1)) ((MacS.get u).step c p x.m).1=(RaceS.own ⟨(getStep c p u x.m).2,x.ow,x.pts,x.bad⟩ p (o.now (some (.get (getStep c p u x.m).1)))):=by
     simp only [MacS.step,racePoint,if_neg hd]
    rw [e]
    exact ⟨rfl,by simp [RaceS.own,hI.len],hI.ok,⟨_,hset _ _,rfl,rfl,rfl,rfl,hO.dq.still (j2.l p hp) (j2.w p hp),hO.rs,fun _=>j1⟩,fun q oq hq hoq=>⟨oq.dq,(hoth _ _ q hq).trans hoq,(hI.ow q oq hoq).dq.still (j2.l q (hln q oq hoq)) (j2.w q (hln q oq hoq))⟩⟩
  ·refine fm_one hp (fun q hq hne=>?_) ?_
   ·show rl c (getStep c p u x.m).2 q++_=_
    rw [if_neg hne,(k3 q hq hne).2]
   ·show (rl c x.m p++handsAt x p).Perm ((rl c (getStep c p u x.m).2 p++_)++_)
    rw [hhp,if_pos rfl]
    have hh0:(MacS.get u).hands=[]:=by
     simp only [MacS.hands]
     rw [(GetI.ok hMI).has h0]
     rfl
    rw [hh0,List.append_nil]
    by_cases hd:(getStep c p u x.m).1.st=0
    ·obtain ⟨j1,j2,j3,j4⟩:=k6 hd o.dq hO.dq
     have hd2:((MacS.get u).step c p x.m).1.st=0:=hd
     rw [if_pos hd2,if_pos hd2,List.append_nil]
     have e:outsM ((MacS.get u).step c p x.m).1=(if (getStep c p u x.m).1.has then [(getStep c p u x.m).1.sn] else []):=by
      show []++(if 0≤(if (getStep c p u x.m).1.has then (getStep c p u x.m).1.sn else -1) then [if (getStep c p u x.m).1.has then (getStep c p u x.m).1.sn else -1] else [])=_
      cases hh:(getStep c p u x.m).1.has with
      | false=>simp
      | true =>
       rw [hh] at j4
       simp only [if_true] at j4 ⊢
       have hmem:(getStep c p u x.m).1.sn ∈ rl c x.m p:=by rw [← j4]; simp
       have:0≤(getStep c p u x.m).1.sn:=by
        unfold rl win at hmem
        obtain ⟨i,_,ei⟩:=List.mem_map.1 hmem
        rw [← ei]
        exact (hR.sl p hp _).1
       rw [if_pos this]
       rfl
     rw [e,← j4]
     exact List.perm_append_comm
    ·obtain ⟨j1,j2⟩:=k5 hd
     have hd2:¬ ((MacS.get u).step c p x.m).1.st=0:=hd
     rw [if_neg hd2,if_neg hd2,j2.l p hp,List.append_nil]
     have hh1:((MacS.get u).step c p x.m).1.hands=[]:=by
      simp only [MacS.step,MacS.hands]
      rw [(GetI.ok j1).has hd]
      rfl
     rw [hh1,List.append_nil]
 | steal v u =>
  obtain ⟨hv,hpv,hSI⟩:=hMI
  obtain ⟨k1,k2,k3,k4⟩:=steal_does hR hp hv hpv hSI h0
  have hok:=(stealStep_ok hp hv hSI.ok hR.mem hR.sl).1
  obtain ⟨ov,hov⟩ : ∃ ov,x.ow[v]? = some ov:=⟨_,List.getElem?_eq_getElem (by rw [hI.len]; exact hv)⟩
  have hgn:(o.now (some ((MacS.steal v u).step c p x.m).1)).gn=o.gn:=rfl
  have hstep:(MacS.steal v u).step c p x.m=(.steal v (stealStep c p v u x.m).1,(stealStep c p v u x.m).2):=rfl
  have hov':(RaceS.own ⟨(stealStep c p v u x.m).2,x.ow,x.pts,x.bad⟩ p (o.now (some (.steal v (stealStep c p v u x.m).1)))).ow[v]? = some ov:=(hoth _ _ v hpv).trans hov
  have gets:∀ s:StealS,(∀ g ∈ s.bt,Gn g)→0 < s.bt.length→(MacS.steal v s).over++(if 0≤(MacS.steal v s).got then [(MacS.steal v s).got] else [])=s.left++(if s.got.2 then [s.got.1] else []):=fun s hg hb=>by
   show s.left++(if 0≤(if s.got.2 then s.got.1 else -1) then [if s.got.2 then s.got.1 else -1] else [])=_
   congr 1
   cases h2:s.got.2 with
   | false=>simp
   | true =>
    simp only [if_true]
    have:0≤s.got.1:=by
     unfold StealS.got at h2 ⊢
     split
     ·split
      ·cases hb2:s.bt with
       | nil=>rw [hb2] at hb; simp at hb
       | cons g l=>exact (hg g (by rw [hb2]; exact List.mem_cons_self ..)).1
      ·exact Int.le_refl _
     ·exact Int.le_refl _
    rw [if_pos this]
  have none_out:∀ s:StealS,s.ly=none→(MacS.steal v s).over++(if 0≤(MacS.steal v s).got then [(MacS.steal v s).got] else [])=s.left++(if s.got.2 then [s.got.1] else []):=fun s hs=>by
   have h1:s.got=(0,false):=by
    unfold StealS.got
    split
    ·rw [hs]
    ·rfl
   show s.left++(if 0≤(if s.got.2 then s.got.1 else -1) then [if s.got.2 then s.got.1 else -1] else [])=_
   rw [h1]
   simp
  have outE:outsM (.steal v (stealStep c p v u x.m).1)=(stealStep c p v u x.m).1.left++(if (stealStep c p v u x.m).1.got.2 then [(stealStep c p v u x.m).1.got.1] else []):=by
   unfold outsM
   cases hl:(stealStep c p v u x.m).1.ly with
   | none=>exact none_out _ hl
   | some l=>exact gets _ hok.gs (hok.lay l hl).2
  refine ⟨k1,k2,?_,?_⟩
  ·rw [hstep]
   rcases k4 with ⟨j1,j2,j3,j4,j5⟩ | ⟨j1,j2,j3,j4,j5,j6,j7,j8,j9⟩ | ⟨j1,j2,j3,j4,j5,j6⟩
   ·have e:racePoint c (RaceS.own ⟨(stealStep c p v u x.m).2,x.ow,x.pts,x.bad⟩ p (o.now (some (.steal v (stealStep c p v u x.m).1)))) p (o.now (some (.steal v (stealStep c p v u x.m).1))) (.steal v (stealStep c p v u x.m).1)=(RaceS.own ⟨(stealStep c p v u x.m).2,x.ow,x.pts,x.bad⟩ p (o.now (some (.steal v (stealStep c p v u x.m).1)))):=by
     simp only [racePoint]
     rw [if_neg (fun h=>j2 ⟨h.1,h.2.resolve_left j1⟩),if_neg j1]
    rw [e]
    exact ⟨rfl,by simp [RaceS.own,hI.len],hI.ok,⟨_,hset _ _,rfl,rfl,rfl,rfl,hO.dq.still (j4.l p hp) (j4.w p hp),hO.rs,fun _=>⟨hv,hpv,j3⟩⟩,fun q oq hq hoq=>⟨oq.dq,(hoth _ _ q hq).trans hoq,(hI.ow q oq hoq).dq.still (j4.l q (hln q oq hoq)) (j4.w q (hln q oq hoq))⟩⟩
   ·obtain ⟨d1,d2⟩:=j9 ov.dq (hI.ow v ov hov).dq
    have e:racePoint c (RaceS.own ⟨(stealStep c p v u x.m).2,x.ow,x.pts,x.bad⟩ p (o.now (some (.steal v (stealStep c p v u x.m).1)))) p (o.now (some (.steal v (stealStep c p v u x.m).1))) (.steal v (stealStep c p v u x.m).1)=(((RaceS.own ⟨(stealStep c p v u x.m).2,x.ow,x.pts,x.bad⟩ p (o.now (some (.steal v (stealStep c p v u x.m).1)))).own v (ov.deq (dqSteal ov.dq))).own p ⟨o.kd,o.cv,o.cg,some (.steal v (stealStep c p v u x.m).1),o.dq,true,(stealStep c p v u x.m).1.hands.drop 1⟩).holds (decide (dqOld c ov.dq=(stealStep c p v u x.m).1.hands)):=by
     simp only [racePoint]
     rw [if_pos ⟨j1,j2⟩,hov']
     rfl
    rw [e]
    have hlen:((stealStep c p v u x.m).1.hands.drop 1).length≤64:=by
     unfold StealS.hands
     cases hl:(stealStep c p v u x.m).1.ly with
     | none=>simp
     | some l =>
      have:=(hok.lay l hl).1.ls
      simp only [List.length_drop,List.length_append,List.length_take]
      omega
    refine ⟨rfl,by simp [RaceS.holds,RaceS.own,hI.len],by simp [RaceS.holds,RaceS.own,hI.ok,d2],⟨⟨o.kd,o.cv,o.cg,some (.steal v (stealStep c p v u x.m).1),o.dq,true,(stealStep c p v u x.m).1.hands.drop 1⟩,?_,rfl,rfl,rfl,rfl,hO.dq.still j5 j4,hlen,fun he=>⟨hv,hpv,j3 he⟩⟩,fun q oq hq hoq=>?_⟩
    ·show (((x.ow.set p _).set v _).set p _)[p]? = _
     rw [List.getElem?_set_self (by simp [hlt])]
    ·by_cases hqv:q=v
     ·subst hqv
      rw [hov] at hoq
      cases hoq
      refine ⟨_,?_,d1⟩
      show (((x.ow.set p _).set q _).set p _)[q]? = _
      rw [List.getElem?_set_ne (Ne.symm hq),List.getElem?_set_self (by simp [hI.len,hv])]
     ·refine ⟨oq.dq,?_,(hI.ow q oq hoq).dq.still (k3 q (hln q oq hoq) hq hqv).2 (k3 q (hln q oq hoq) hq hqv).1⟩
      show (((x.ow.set p _).set v _).set p _)[q]? = _
      rw [List.getElem?_set_ne (Ne.symm hq),List.getElem?_set_ne (Ne.symm hqv),List.getElem?_set_ne (Ne.symm hq),hoq,deq_self]
   ·obtain ⟨d1,d2⟩:=j6 o.dq hO.dq
    have e:racePoint c (RaceS.own ⟨(stealStep c p v u x.m).2,x.ow,x.pts,x.bad⟩ p (o.now (some (.steal v (stealStep c p v u x.m).1)))) p (o.now (some (.steal v (stealStep c p v u x.m).1))) (.steal v (stealStep c p v u x.m).1)=((RaceS.own ⟨(stealStep c p v u x.m).2,x.ow,x.pts,x.bad⟩ p (o.now (some (.steal v (stealStep c p v u x.m).1)))).own p ((o.now (some (.steal v (stealStep c p v u x.m).1))).deq (dqLay c o.dq (o.rs.take (dqN c o.dq o.rs))))).holds (decide (o.rs.drop (dqN c o.dq o.rs)=(stealStep c p v u x.m).1.left)):=by
     simp only [racePoint]
     rw [if_neg (fun h=>by have:=h.1; rw [show (o.now (some (.steal v (stealStep c p v u x.m).1))).gn=o.gn from rfl,j1] at this; cases this),if_pos j2]
     rfl
    rw [e]
    refine ⟨rfl,by simp [RaceS.holds,RaceS.own,hI.len],by simp [RaceS.holds,RaceS.own,hI.ok,d2],⟨_,hss _ _ _,rfl,rfl,rfl,rfl,d1,hO.rs,fun he=>absurd j2 he⟩,fun q oq hq hoq=>⟨oq.dq,?_,?_⟩⟩
    ·show ((x.ow.set p _).set p _)[q]? = _
     rw [List.getElem?_set_ne (Ne.symm hq),List.getElem?_set_ne (Ne.symm hq),hoq,deq_self]
    ·by_cases hqv:q=v
     ·subst hqv
      exact (hI.ow q oq hoq).dq.still j4 j3
     ·exact (hI.ow q oq hoq).dq.still (k3 q (hln q oq hoq) hq hqv).2 (k3 q (hln q oq hoq) hq hqv).1
  ·rw [hstep]
   show ((List.range c.n).flatMap _).Perm ((List.range c.n).flatMap (fun q=>rl c (stealStep c p v u x.m).2 q++(if q=p then (if (stealStep c p v u x.m).1.st=0 then [] else (stealStep c p v u x.m).1.hands) else handsAt x q))++(if (stealStep c p v u x.m).1.st=0 then outsM (.steal v (stealStep c p v u x.m).1) else []))
   refine fm_two hp hv hpv (fun q hq hne hnv=>?_) ?_
   ·rw [if_neg hne,(k3 q hq hne hnv).2]
   ·rw [if_pos rfl,if_neg hpv,hhp,show (MacS.steal v u).hands=u.hands from rfl,outE]
    rcases k4 with ⟨j1,j2,j3,j4,j5⟩ | ⟨j1,j2,j3,j4,j5,j6,j7,j8,j9⟩ | ⟨j1,j2,j3,j4,j5,j6⟩
    ·rw [if_neg j1,if_neg j1,j4.l p hp,j4.l v hv,j5,List.append_nil]
    ·rw [j5,j6,← j7,List.append_nil]
     by_cases hd:(stealStep c p v u x.m).1.st=0
     ·rw [if_pos hd,if_pos hd,List.append_nil]
      rw [j8 hd]
      rw [List.append_assoc,List.append_assoc,List.append_assoc]
      refine List.Perm.append_left _ ?_
      rw [← List.append_assoc]
      refine (List.perm_append_comm).trans ?_
      simp only [List.append_assoc]
      refine List.Perm.append_left _ ?_
      refine List.Perm.append_left _ ?_
      exact List.perm_append_comm
     ·rw [if_neg hd,if_neg hd,List.append_nil]
      simp only [List.append_assoc]
      exact List.Perm.refl _
    ·rw [if_pos j2,if_pos j2,j4,List.append_nil]
     have h1:(rl c x.m p++u.hands).Perm (rl c (stealStep c p v u x.m).2 p++((stealStep c p v u x.m).1.left++(if (stealStep c p v u x.m).1.got.2 then [(stealStep c p v u x.m).1.got.1] else []))):=by
      refine (List.perm_append_comm).trans (j5.symm.trans ?_)
      refine (List.perm_append_comm).trans ?_
      exact List.Perm.append_left _ List.perm_append_comm
     refine (h1.append_right _).trans ?_
     simp only [List.append_assoc]
     refine List.Perm.append_left _ ?_
     rw [← List.append_assoc]
     refine (List.perm_append_comm).trans ?_
     simp only [List.append_assoc]
     exact List.Perm.refl _
end
end Go.Proofs.YtkmccgombmogmaaGreat
namespace Go.Proofs.YtkmccgombmogmaaGreat
open Go.RowKit
set_option linter.unusedVariables false
set_option linter.unusedSimpArgs false
section
variable {c:Cfg} {B:Int} {x:RaceS} {p:Nat} {o:OwnS} {M:MacS}
def atPoint (c:Cfg) (x:RaceS) (p:Nat) (o:OwnS) (M:MacS) : RaceS:=racePoint c (RaceS.own ⟨(M.step c p x.m).2,x.ow,x.pts,x.bad⟩ p (o.now (some (M.step c p x.m).1))) p (o.now (some (M.step c p x.m).1)) (M.step c p x.m).1
theorem DqR.same {m:MemM} {q:Nat} {d:DqS} (h:DqR c m q d) (hs:∀ i,Gn (sl c m q i)) : ringL c m q=dqAll c d:=by
 have h1:=h.ok.sz
 have h2:=c.qb
 rw [h.l,ringL_rl hs (by rw [← h.w]; omega)]
theorem mid_same {m:MemM} {x1:RaceS} (hI:RaceI c B x) (hM:MidI c (B+8) x p o M m x1) (hs:SlotsOk c m) (ho:x.ow[p]? = some o) {q:Nat} {oq:OwnS} (hq:x1.ow[q]? = some oq) : DqR c m q oq.dq∧ringL c m q=dqAll c oq.dq:=by
 have hlt:q < c.n:=by rw [← hM.len]; exact (List.getElem?_eq_some_iff.1 hq).1
 have hd:DqR c m q oq.dq:=by
  by_cases e:q=p
  ·subst e
   obtain ⟨o1,k1,_,_,_,_,k2,_⟩:=hM.self
   rw [hq] at k1
   cases k1
   exact k2
  ·obtain ⟨o2,h2⟩ : ∃ o2,x.ow[q]? = some o2:=⟨_,List.getElem?_eq_getElem (by rw [hI.len]; exact hlt)⟩
   obtain ⟨d,k1,k2⟩:=hM.other q o2 e h2
   rw [hq] at k1
   cases k1
   exact k2
 exact ⟨hd,hd.same (hs q hlt)⟩
theorem look_eq {m:MemM} {x1:RaceS} (hI:RaceI c B x) (hM:MidI c (B+8) x p o M m x1) (hs:SlotsOk c m) (ho:x.ow[p]? = some o) : raceLook c x1=x1:=by
 have hall:(List.range c.n).all (sameAt c x1)=true:=by
  rw [List.all_eq_true]
  intro q hq
  unfold sameAt
  cases h:x1.ow[q]? with
  | none=>rfl
  | some oq =>
   dsimp only
   rw [hM.mem]
   simpa using (mid_same hI hM hs ho h).2
 unfold raceLook
 rw [hall,hM.bad]
 have:=hM.bad
 cases x1
 simp at this
 subst this
 rfl
theorem MacI.keep {m m':MemM} {own:Nat→Prop} {q:Nat} {gn:Bool} {rs:List Int} (hR:Rings c B m) (hr:∀ v,v < c.n→RingTo c (own v) v m m') (hq:q < c.n) (hn:¬ own q) {M:MacS} (h:MacI c B m q M gn rs) : MacI c (B+8) m' q M gn rs:=by
 cases M with
 | put u=>exact PutI.keep h (hr q hq) hn (hR.w q hq) hR.hB
 | get u=>exact GetI.keep h (hr q hq) hn (hR.w q hq) hR.hB
 | steal v u =>
  obtain ⟨h1,h2,h3⟩:=h
  exact ⟨h1,h2,h3.keep hR.h8 (hr q hq) hn (hr v h1) (hR.w q hq) (hR.w v h1) hR.hB⟩
theorem race_step (hI:RaceI c B x) (hB:B+8≤1073741824) (ho:x.ow[p]? = some o) (hM:o.mac=some M) :
  RaceI c (B+8) (raceStep c x p o M).1∧(allR c x).Perm (allR c (raceStep c x p o M).1++(if (M.step c p x.m).1.st=0 then outsM (M.step c p x.m).1 else [])) ∧
  raceMid c x p o M=atPoint c x p o M∧MidI c (B+8) x p o (M.step c p x.m).1 (M.step c p x.m).2 (atPoint c x p o M)∧Rings c (B+8) (M.step c p x.m).2:=by
 obtain ⟨k1,k2,k3,k4⟩:=race_point hI ho hM
 have hlt:p < x.ow.length:=(List.getElem?_eq_some_iff.1 ho).1
 have hp:p < c.n:=by rw [← hI.len]; exact hlt
 have hO:=hI.ow p o ho
 obtain ⟨h0,hMI,hC⟩:=hO.mac M hM
 have hR':Rings c (B+8) (M.step c p x.m).2:=hI.R.next (own:=fun q=>p=q) k1 k2 hB
 have hmid:raceMid c x p o M=atPoint c x p o M:=look_eq hI k3 hR'.sl ho
 obtain ⟨o1,e1,e2,e3,e4,e5,e6,e7,e8⟩:=k3.self
 obtain ⟨x1,hx1⟩ : ∃ x1,atPoint c x p o M=x1:=⟨_,rfl⟩
 have k3':MidI c (B+8) x p o (M.step c p x.m).1 (M.step c p x.m).2 x1:=by rw [← hx1]; exact k3
 have e1':x1.ow[p]? = some o1:=by rw [← hx1]; exact e1
 have hoth:∀ (q:Nat) oq,q ≠ p→x1.ow[q]? = some oq→∃ o2 d,x.ow[q]? = some o2∧oq=o2.deq d∧DqR c (M.step c p x.m).2 q d:=fun q oq hq h=>by
  have hq2:q < c.n:=by rw [← k3'.len]; exact (List.getElem?_eq_some_iff.1 h).1
  obtain ⟨o2,h2⟩ : ∃ o2,x.ow[q]? = some o2:=⟨_,List.getElem?_eq_getElem (by rw [hI.len]; exact hq2)⟩
  obtain ⟨d,j1,j2⟩:=k3'.other q o2 hq h2
  rw [h] at j1
  exact ⟨o2,d,h2,Option.some.inj j1,j2⟩
 have hkeep:∀ (q:Nat) oq,q ≠ p→x1.ow[q]? = some oq→OwnI c (B+8) (M.step c p x.m).2 q oq:=fun q oq hq h=>by
  have hq2:q < c.n:=by rw [← k3'.len]; exact (List.getElem?_eq_some_iff.1 h).1
  obtain ⟨o2,d,h2,rfl,hd⟩:=hoth q oq hq h
  have hO2:=hI.ow q o2 h2
  refine ⟨hd,hO2.rs,fun M2 hM2=>?_⟩
  obtain ⟨m1,m2,m3⟩:=hO2.mac M2 hM2
  exact ⟨m1,m2.keep hI.R k2 hq2 (Ne.symm hq),m3⟩
 have hhands:∀ q,q ≠ p→handsAt x1 q=handsAt x q:=fun q hq=>by
  unfold handsAt handsL
  cases h:x1.ow[q]? with
  | none =>
   have:x.ow[q]? = none:=by
    rw [List.getElem?_eq_none_iff] at h ⊢
    rw [hI.len,← k3'.len]
    exact h
   rw [this]
  | some oq =>
   obtain ⟨o2,d,h2,rfl,hd⟩:=hoth q oq hq h
   rw [h2]
   rfl
 unfold raceStep
 rw [hmid,hx1]
 by_cases hd:(M.step c p x.m).1.st=0
 ·rw [if_pos hd,e1']
  refine ⟨⟨?_,?_,fun q oq hq=>?_,k3'.bad⟩,?_,rfl,k3',hR'⟩
  ·show Rings c (B+8) x1.m
   rw [k3'.mem]
   exact hR'
  ·show (x1.ow.set p _).length=c.n
   rw [List.length_set,k3'.len]
  ·show OwnI c (B+8) x1.m q oq
   rw [k3'.mem]
   replace hq:(x1.ow.set p (o1.now none))[q]? = some oq:=hq
   by_cases e:q=p
   ·subst e
    rw [List.getElem?_set_self (by rw [k3'.len]; exact hp)] at hq
    cases hq
    exact ⟨e6,e7,fun M2 hM2=>by cases hM2⟩
   ·rw [List.getElem?_set_ne (Ne.symm e)] at hq
    exact hkeep q oq e hq
  ·rw [if_pos hd]
   rw [if_pos hd,if_pos hd] at k4
   refine k4.trans (List.Perm.append_right _ ?_)
   have:(List.range c.n).flatMap (fun q=>rl c (M.step c p x.m).2 q++(if q=p then [] else handsAt x q))=allR c (x1.own p (o1.now none)):=by
    unfold allR
    rw [List.flatMap_def,List.flatMap_def]
    congr 1
    apply List.map_congr_left
    intro q hq
    show _=rl c x1.m q++_
    rw [k3'.mem]
    congr 1
    by_cases e:q=p
    ·subst e
     rw [if_pos rfl]
     show []=handsL (x1.ow.set q (o1.now none)) q
     unfold handsL
     rw [List.getElem?_set_self (by rw [k3'.len]; exact hp)]
     rfl
    ·rw [if_neg e,← hhands q e]
     show handsL x1.ow q=handsL (x1.ow.set p (o1.now none)) q
     unfold handsL
     rw [List.getElem?_set_ne (Ne.symm e)]
   rw [this]
 ·rw [if_neg hd]
  refine ⟨⟨?_,k3'.len,fun q oq hq=>?_,k3'.bad⟩,?_,rfl,k3',hR'⟩
  ·show Rings c (B+8) x1.m
   rw [k3'.mem]
   exact hR'
  ·show OwnI c (B+8) x1.m q oq
   rw [k3'.mem]
   by_cases e:q=p
   ·subst e
    replace hq:x1.ow[q]? = some oq:=hq
    rw [e1'] at hq
    cases hq
    refine ⟨e6,e7,fun M2 hM2=>?_⟩
    rw [e5] at hM2
    cases hM2
    refine ⟨hd,e8 hd,?_⟩
    cases M with
    | put u=>exact ⟨e2.trans hC.1,e4.trans (hC.2.trans ((put_does hI.R hp hMI h0).2.2.2.1).symm)⟩
    | get u=>exact e2.trans hC
    | steal v u=>exact ⟨e2.trans hC.1,e3.trans hC.2⟩
   ·exact hkeep q oq e hq
  ·rw [if_neg hd]
   rw [if_neg hd,if_neg hd] at k4
   refine k4.trans (List.Perm.append_right _ ?_)
   have:(List.range c.n).flatMap (fun q=>rl c (M.step c p x.m).2 q++(if q=p then (M.step c p x.m).1.hands else handsAt x q))=allR c x1:=by
    unfold allR
    rw [List.flatMap_def,List.flatMap_def]
    congr 1
    apply List.map_congr_left
    intro q hq
    show _=rl c x1.m q++_
    rw [k3'.mem]
    congr 1
    by_cases e:q=p
    ·subst e
     rw [if_pos rfl]
     unfold handsAt handsL
     rw [e1']
     simp [handsO,e5]
    ·rw [if_neg e,← hhands q e]
   rw [this]
end
def newMac (c:Cfg) (p:Nat) (kd cv cg:Int) : Option MacS :=
 if kd=1∧0≤cg then some (.put (newPut cg)) else if kd=2 then some (.get newGet) else if kd=3∧0≤cv∧cv < (c.n:Int)∧cv ≠ (p:Int) then some (.steal cv.toNat newSteal) else none
def OwnS.beg (o:OwnS) (kd cv cg:Int) (M:MacS) : OwnS:=⟨kd,cv,cg,some M,o.dq,false,o.rs⟩
section
variable {c:Cfg} {B:Int} {x:RaceS} {p:Nat} {o:OwnS} {M:MacS} {kd cv cg:Int}
theorem newMac_ok (hg:Gn cg∨cg < 0) {m:MemM} {rs:List Int} (h:newMac c p kd cv cg=some M) : M.st ≠ 0∧MacI c B m p M false rs∧CallI (o.beg kd cv cg M) M∧M.hands=(if kd=1 then [cg] else [])∧(kd=1→0≤cg):=by
 unfold newMac at h
 split at h
 ·next h1 =>
  cases h
  have e:newPut cg=⟨1,cg,0,[],[cg]⟩:=if_pos h1.2
  have hG:Gn cg:=hg.resolve_right (by omega)
  rw [e]
  refine ⟨Nat.succ_ne_zero 0,⟨⟨by show 1≤5; decide,fun _=>hG,⟨Int.le_refl 0,by show (0:Int) < 18446744073709551616; decide⟩,by simp,fun h=>(by cases h),by show 1≤64; decide⟩,hG,rfl,fun h=>(by rcases h with h | h <;> cases h),fun h=>(by cases h),fun h=>(by rcases h with h | h <;> cases h),fun h=>(by cases h)⟩,⟨h1.1,rfl⟩,?_,fun _=>h1.2⟩
  rw [if_pos h1.1]
  rfl
 ·next h1 =>
  split at h
  ·next h2 =>
   cases h
   refine ⟨Nat.succ_ne_zero 0,⟨⟨by show 1 < 4; decide,⟨Int.le_refl 0,by show (0:Int) < 18446744073709551616; decide⟩,fun _=>rfl⟩,fun h=>(by rcases h with h | h <;> cases h),fun h=>(by cases h)⟩,h2,?_,fun h=>(by omega)⟩
   rw [if_neg (by omega)]
   rfl
  ·next h2 =>
   split at h
   ·next h3 =>
    cases h
    obtain ⟨q1,q2,q3,q4⟩:=h3
    refine ⟨Nat.succ_ne_zero 0,⟨by omega,by omega,⟨newSteal_ok,fun _=>rfl,fun h=>(by rcases h with h | h <;> cases h),fun h=>(by cases h),fun h=>(by cases h)⟩⟩,⟨q1,by show cv=_; omega⟩,?_,fun h=>(by omega)⟩
    rw [if_neg (by omega)]
    rfl
   ·cases h
theorem race_begin (hI:RaceI c B x) (ho:x.ow[p]? = some o) (hM:o.mac=none) (hg:Gn cg∨cg < 0) (h:newMac c p kd cv cg=some M) :
  RaceI c B (x.own p (o.beg kd cv cg M))∧(allR c (x.own p (o.beg kd cv cg M))).Perm (allR c x++(if kd=1 then [cg] else [])):=by
 have hlt:p < x.ow.length:=(List.getElem?_eq_some_iff.1 ho).1
 have hp:p < c.n:=by rw [← hI.len]; exact hlt
 have hO:=hI.ow p o ho
 obtain ⟨h1,h2,h3,h4,_⟩:=newMac_ok (o:=o) (B:=B) (m:=x.m) (rs:=o.rs) hg h
 refine ⟨⟨hI.R,by show (x.ow.set p _).length=_; rw [List.length_set,hI.len],fun q oq hq=>?_,hI.ok⟩,?_⟩
 ·replace hq:(x.ow.set p (o.beg kd cv cg M))[q]? = some oq:=hq
  by_cases e:q=p
  ·subst e
   rw [List.getElem?_set_self hlt] at hq
   cases hq
   refine ⟨hO.dq,hO.rs,fun M2 hM2=>?_⟩
   cases hM2
   exact ⟨h1,h2,h3⟩
  ·rw [List.getElem?_set_ne (Ne.symm e)] at hq
   exact hI.ow q oq hq
 ·refine List.Perm.symm ?_
  unfold allR
  by_cases hk:kd=1
  ·rw [if_pos hk] at h4 ⊢
   refine List.Perm.symm (List.Perm.trans (fm_split _ hp) ?_)
   refine List.Perm.trans ?_ ((fm_split _ hp).symm.append_right _)
   have e1:(((List.range c.n).erase p).flatMap fun q=>rl c (x.own p (o.beg kd cv cg M)).m q++handsAt (x.own p (o.beg kd cv cg M)) q)=(((List.range c.n).erase p).flatMap fun q=>rl c x.m q++handsAt x q):=fm_rest (fun q hq hne=>by
    show rl c x.m q++_=_
    congr 1
    show handsL (x.ow.set p _) q=handsL x.ow q
    unfold handsL
    rw [List.getElem?_set_ne (Ne.symm hne)])
   rw [e1]
   have e2:handsAt (x.own p (o.beg kd cv cg M)) p=[cg]:=by
    show handsL (x.ow.set p (o.beg kd cv cg M)) p=_
    unfold handsL
    rw [List.getElem?_set_self hlt]
    exact h4
   have e3:handsAt x p=[]:=by
    simp [handsAt,handsL,ho,handsO,hM]
   show ((rl c x.m p++handsAt (x.own p (o.beg kd cv cg M)) p)++_).Perm _
   rw [e2,e3,List.append_nil,List.append_assoc,List.append_assoc]
   exact List.perm_append_comm.append_left _
  ·rw [if_neg hk] at h4 ⊢
   rw [List.append_nil]
   have:(List.range c.n).flatMap (fun q=>rl c (x.own p (o.beg kd cv cg M)).m q++handsAt (x.own p (o.beg kd cv cg M)) q)=(List.range c.n).flatMap (fun q=>rl c x.m q++handsAt x q):=by
    rw [List.flatMap_def,List.flatMap_def]
    congr 1
    apply List.map_congr_left
    intro q hq
    show rl c x.m q++_=_
    congr 1
    show handsL (x.ow.set p (o.beg kd cv cg M)) q=handsL x.ow q
    unfold handsL
    by_cases e:q=p
    ·subst e
     rw [List.getElem?_set_self hlt,ho]
     show M.hands=handsO o
     unfold handsO
     rw [hM,h4]
     rfl
    ·rw [List.getElem?_set_ne (Ne.symm e)]
   rw [this]
end
def newOwn (c:Cfg) : OwnS:=⟨0,0,0,none,newDq c,false,[]⟩
def newRace (c:Cfg) : RaceS:=⟨⟨List.replicate c.cells 0,0⟩,List.replicate c.n (newOwn c),0,false⟩
theorem ld_zero (n a:Nat) : ld ⟨List.replicate n 0,0⟩ a=0:=by
 unfold ld
 simp only [List.getD_eq_getElem?_getD,List.getElem?_replicate]
 split <;> rfl
theorem race_new (c:Cfg) (h8:c.q=2∨c.q=4∨c.q=8) : RaceI c 0 (newRace c)∧allR c (newRace c)=[]:=by
 have hw:∀ q,wd c (newRace c).m q=0:=fun q=>ld_zero _ _
 have hq:=c.qb
 have hrl:∀ q,rl c (newRace c).m q=[]:=fun q=>by
  unfold rl
  rw [hw]
  rfl
 have how:∀ (q:Nat) oq,(newRace c).ow[q]? = some oq→oq=newOwn c:=fun q oq h=>by
  simp only [newRace,List.getElem?_replicate] at h
  split at h
  ·exact (Option.some.inj h).symm
  ·cases h
 have hz0:szW 0=0:=by decide
 refine ⟨⟨⟨⟨by simp [newRace,Cfg.cells],fun y hy=>?_⟩,fun q _ i=>?_,fun q _=>?_,h8,by decide⟩,by simp [newRace],fun q oq h=>?_,rfl⟩,?_⟩
 ·have:y=0:=(List.mem_replicate.1 hy).2
  rw [this]
  exact ⟨by decide,by decide⟩
 ·show Gn (ld _ _)
  rw [show ld (newRace c).m (c.slot q i)=0 from ld_zero _ _]
  exact ⟨by decide,by decide⟩
 ·rw [hw]
  exact ⟨⟨by decide,by decide⟩,by decide,by rw [hz0]; omega⟩
 ·rw [how q oq h]
  refine ⟨⟨newDq_ok c,(hw q).symm,?_⟩,by simp [newOwn],fun M hM=>by cases hM⟩
  rw [hrl]
  unfold dqAll
  rw [show (newOwn c).dq.w=0 from rfl,hz0]
  rfl
 ·unfold allR
  rw [List.flatMap_eq_nil_iff]
  intro q hq
  rw [hrl]
  unfold handsAt handsL
  cases h:(newRace c).ow[q]? with
  | none=>rfl
  | some oq =>
   rw [how q oq h]
   rfl
end Go.Proofs.YtkmccgombmogmaaGreat
