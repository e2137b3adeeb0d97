/- Part of a proof: see the last text. -/
import Derived.Test.YtkmccgombmogmaaGreatZe22
set_option linter.unusedSimpArgs false
set_option linter.unusedVariables false
namespace Go.Proofs.YtkmccgombmogmaaGreat
open Go.Ev Go.Proofs.Tryz
open Go.RowKit
set_option maxRecDepth 8000
def bD.hands(x:bD):List Int:=match x.ly with | none=>[] | some l=>x.bt.take 1++l.ls
theorem Ju(m:Nat){c:aP}{p bl:Nat}{l:fJ}(hp:p<c.n)(hl:Az l){mm:bw}(hm:bT c mm){F:Nat->Prop}{w:World}(h:cG [d7 c p bl l] F w) :
  CallsIn Fence.wide m prog 103 #[.agg #[.pointer (some ⟨bl,0,none⟩)]] w λe w'=>∃ v,aV v=true/\e=.returned v/\af ⟨w,F⟩ [cf v l.ls,d7 c p bl l] w':=by
 refine callsIn_of_wp func103 rfl trivial ?_ rfl;simp only[ntmps103,List.size_toArray,List.length_cons,List.length_nil,Nat.reduceAdd,Nat.reduceSub,Array.replicate_succ,Array.replicate_zero,List.push_toArray,List.append_toArray,List.nil_append,List.cons_append];obtain⟨W1,hW1⟩:∃ W1,w.alloc (.cells #[.pointer (some ⟨bl,0,none⟩)] 153)=W1:=⟨_,rfl⟩;have hB1:Below w.heap.size w W1:=by rw[← hW1];exact(Below.refl _ w).alloc (Nat.le_refl _) _
 have h1:W1.heap[w.heap.size]? = some (Obj.cells #[.pointer (some ⟨bl,0,none⟩)] 153 (0,0)):=by rw[← hW1];exact World.alloc_heap_new _ _
 have d0:=cell_of h1 0 _ rfl;obtain⟨F1,k1,back⟩:=cQ (rest:=[]) [d7 c p bl l] (bA (af.start h) hB1)
 gi_wp2
 refine⟨trivial,λh=>by simp[Fence.wide]at h,(callsIn_wide.2 (uf hp hl.w hl.b hl.ls hm k1)).mono ?_⟩;rintro e w2 ⟨v,lv,rfl,hh⟩
 gi_wp2
 exact bodyPost_ret (results_tmp rfl _ _ _) rfl ⟨_,lv,rfl,back _ _ hh⟩
theorem yL{ctx:dc}{l:List aG}{e:TypeId}{n:Nat}{v:Value}{xs:List Value}{w w':World}(h:af ctx l w)(ho:w'.ownsRow w.heap.size e 1 v n xs)(hb:Below w.heap.size w w'):af ctx (bQ e 1 v n xs::l) w':=by
 obtain⟨F',m1,m2,m3⟩:=h.ex;obtain⟨v2,cd,_,e,hh⟩:=rK m1 ho hb;cases e;exact hh.into (l:=[]) m2 m3
theorem BQ{w:World}{a0 a1:Option Addr}{c0 c1 n lo hi:Nat}{l:List Int}(h:jd 1 (.slice a0 n c0) l.length (bu l) w)(hl:n=l.length)(h1:lo<=hi)(h2:hi<=l.length)(hcv:Ev.cutV 1 (.slice a0 n c0) lo hi=.slice a1 (hi-lo) c1):jd 1 (.slice a1 (hi-lo) c1) ((l.drop lo).take (hi-lo)).length (bu ((l.drop lo).take (hi-lo))) w:=by
 have:=h.cut h1 h2;rw[hcv]at this;simp only[Nat.mul_one]at this;rw[show((l.drop lo).take (hi-lo)).length=hi-lo by simp;omega];simpa[bu,List.map_take,List.map_drop] using this
theorem Jv{w:World}{n:Nat}{e:TypeId}{sz k:Nat}{v:Value}{xs:List Value}(h:w.ownsRow n e sz v k xs):∃ a c,v=.slice a k c:=by
 rcases h.2 with ⟨rfl,rfl⟩ | ⟨g,cap,cur,rfl,_⟩
 ·exact⟨_,_,rfl⟩
 ·exact⟨_,_,rfl⟩
theorem AG(m:Nat){b:Nat}{u0 u1:Value}{l0 l1:List Int}{T:TypeId}{fz:Nat×Nat}{w:World}(hb:w.heap[b]? = some (Obj.cells #[u0,u1] T fz))(h0:jd 1 u0 l0.length (bu l0) w)(h1:jd 1 u1 l1.length (bu l1) w)(n0:l0.length<=1000)(n1:l1.length<=1000) :
  CallsIn Fence.wide m prog 116 #[.slice (some ⟨b,0,none⟩) 2 2] w λe w'=>∃ v,e=.returned v/\w'.ownsRow w.heap.size 3 1 v (l0++l1).length (bu (l0++l1))/\Below w.heap.size w w':=by
 have:=Dk m b 2 (λk=>if k=0 then u0 else u1) (λk=>if k=0 then l0 else l1) w (by omega) (λk hk=>?_) (λk hk=>?_) (Array.getElem?_eq_some_iff.1 hb).1
 ·have e:cat (λk=>if k=0 then l0 else l1) 2=l0++l1:=by simp[cat,List.range_succ]
  rw[e]at this;exact this
 ·match k,hk with
  | 0,_=>exact cell_of hb 0 _ rfl
  | 1,_=>exact cell_of hb 1 _ rfl
 ·match k,hk with
  | 0,_=>exact⟨h0,n0⟩
  | 1,_=>exact⟨h1,n1⟩
set_option maxHeartbeats 2000000 in
theorem yM(m:Nat){c:aP}{p v bp:Nat}{x:bD}(hp:p<c.n)(hv:v<c.n)(hx:eZ x){mm:bw}(hm:bT c mm){F:Nat->Prop}{w:World}(h:cG [cP c p v bp x] F w) :
  CallsIn Fence.wide m prog 99 #[.pointer (some ⟨bp,0,none⟩)] w λe w'=>∃ u,aV u=true/\e=.returned u/\af ⟨w,F⟩ [cf u x.hands,cP c p v bp x] w':=by
 refine callsIn_of_wp func99 rfl trivial ?_ rfl;simp only[ntmps99,List.size_toArray,List.length_cons,List.length_nil,Nat.reduceAdd,Nat.reduceSub,Array.replicate_succ,Array.replicate_zero,List.push_toArray,List.append_toArray,List.nil_append,List.cons_append]
 gi_wp2
 refine⟨trivial,λh=>by simp[Fence.wide]at h,(callsIn_wide.2 (rR hp hv hx h)).mono ?_⟩;rintro e w1 ⟨rfl,hh⟩;cases Jw:x.ly with
 | none =>
  have e0:((x.many:Nat):Int)=0:=by simp[bD.many,Jw]
  have eh:x.hands=[]:=by simp[bD.hands,Jw]
  rw[e0]
  gi_wp2
  have h2:=hh.eC (e := 3) (sz:=1);refine bodyPost_ret (results_tmp rfl _ _ _) rfl ⟨.slice none 0 0,rfl,rfl,?_⟩;rw[eh];exact h2
 | some l =>
  obtain⟨hlb,hb0⟩:=hx.lay l Jw;have e0:¬ ((x.many:Nat):Int)=0:=by simp only[bD.many,Jw];omega
  have eh:x.hands=x.bt.take 1++l.ls:=by simp[bD.hands,Jw]
  obtain⟨bv,bl,eU,h2⟩:=gV Jw hh;have hbl:=ax (h2.sel [1]);have hsl:=bk (h2.sel [2]);obtain⟨a0,c0,rfl⟩:=c8 hsl;obtain⟨a1,c1,hcv⟩:∃ a1 c1,Ev.cutV 1 (.slice a0 x.bt.length c0) 0 1=.slice a1 1 c1:=by
   cases a0 with
   | none=>exact⟨none,c0-0,by simp[Ev.cutV]⟩
   | some a=>exact⟨_,c0-0,by simp only[Ev.cutV,Nat.sub_zero];rfl⟩
  have hcut:∀ w,(Instr.sliceAt 35 (.slice a0 x.bt.length c0) none (some (.int .i64 1)) none).run prog w=.ok (.slice a1 1 c1) w:=by
   obtain⟨i0,hi,hz1,hz0,hz2⟩:=bY;intro w;rw[← hcv];exact vV (kd:=.i64) (.inl ⟨rfl,rfl⟩) rfl hsl underlying35 hi hz1 (Nat.zero_le _) hb0 w
  have Sk:∀ w',af ⟨w,F⟩ [d7 c p bl l,eB c p v bp x (.slice a0 x.bt.length c0) (.pointer (some ⟨bl,0,none⟩)),cf (.slice a0 x.bt.length c0) x.bt] w'->w'.cell? ⟨bp,11,none⟩=some (.slice a0 x.bt.length c0)/\w'.cell? ⟨bp,6,none⟩=some (.pointer (some ⟨bl,0,none⟩))/\af ⟨w,F⟩ [d7 c p bl l,eB c p v bp x (.slice a0 x.bt.length c0) (.pointer (some ⟨bl,0,none⟩)),cf (.slice a0 x.bt.length c0) x.bt] w':=λw' hh=>⟨cell_of (ax (hh.sel [1])) 11 _ rfl,cell_of (ax (hh.sel [1])) 6 _ rfl,hh⟩
  have hd:=bA h2 ((Below.refl _ w1).drew)
  gi_wp2
  refine wpIn_wide.2 ?_;have MF:∀ w',(w'.cell? ⟨bp,11,none⟩=some (.slice a0 x.bt.length c0)/\w'.cell? ⟨bp,6,none⟩=some (.pointer (some ⟨bl,0,none⟩))/\af ⟨w,F⟩ [d7 c p bl l,eB c p v bp x (.slice a0 x.bt.length c0) (.pointer (some ⟨bl,0,none⟩)),cf (.slice a0 x.bt.length c0) x.bt] w')->af ⟨w,F⟩ ([d7 c p bl l]++[eB c p v bp x (.slice a0 x.bt.length c0) (.pointer (some ⟨bl,0,none⟩)),cf (.slice a0 x.bt.length c0) x.bt]) w':=λw' h=>h.2.2
  go_region_held3 (λw'=>w'.cell? ⟨bp,11,none⟩=some (.slice a0 x.bt.length c0)/\w'.cell? ⟨bp,6,none⟩=some (.pointer (some ⟨bl,0,none⟩))/\af ⟨w,F⟩ [d7 c p bl l,eB c p v bp x (.slice a0 x.bt.length c0) (.pointer (some ⟨bl,0,none⟩)),cf (.slice a0 x.bt.length c0) x.bt] w') ((refine Sk _ ?_;first | with_reducible exact hd | with_reducible exact hS5 | with_reducible exact QJ | with_reducible exact P5 | fail)) ((first
   | (go_at_call 103;obtain⟨F1,k1,back⟩:=cQ [d7 c p bl l] (MF _ (by assumption));have hcon:=callsIn_wide.1 (Ju 0 hp hlb hm k1);(with_reducible refine hcon.mono ?_);clear hcon;rintro e w3 ⟨vr,S4,rfl,hr⟩;have hH3:=back _ _ hr;clear back k1;obtain⟨ar,cr,rfl⟩:=c8 (bk hH3);have QJ:af ⟨w,F⟩ [d7 c p bl l,eB c p v bp x (.slice a0 x.bt.length c0) (.pointer (some ⟨bl,0,none⟩)),cf (.slice a0 x.bt.length c0) x.bt] w3:=hH3.sel [1,2,3];have hB4:=(Below.refl _ w3).alloc (Nat.le_refl _) (.cells #[.slice a1 1 c1,.slice ar l.ls.length cr] 35);have QK:=bA hH3 hB4;have P5:=bA QJ hB4;skip)
   | (go_at_call 116;have hcon:=callsIn_wide.1 (AG 0 (World.alloc_heap_new w3 _) (BQ (lo:=0) (hi:=1) (bk (QK.sel [3])) rfl (Nat.zero_le _) hb0 hcv) (bk QK) (by simp;omega) (Nat.le_trans hlb.ls (by decide)));(with_reducible refine hcon.mono ?_);clear hcon;rintro e w5 ⟨vc,rfl,oc,bc⟩;have hS5:=bA P5 bc;have hH5:=yL P5 oc bc;have S5:=c8 (bk hH5);skip)))
  gi_wp2
  have h6:af ⟨w,F⟩ _ w5:=(hH5.sel [1,2,3,0]).head (b:=lm c p l (.pointer (some ⟨bl,0,none⟩))) (λF h=>⟨bl,rfl,h⟩);have h7:af ⟨w,F⟩ [cP c p v bp x,cf vc (x.bt.take 1++l.ls)] w5:=dt (l:=[cf vc (x.bt.take 1++l.ls)]) (bv:=.slice a0 x.bt.length c0) Jw rfl (h6.sel [1,2,0,3]);rw[← eh]at h7;refine bodyPost_ret (results_tmp rfl _ _ _) rfl ⟨vc,dK hH5,rfl,h7.sel [1,0]⟩
end Go.Proofs.YtkmccgombmogmaaGreat
namespace Go.Proofs.YtkmccgombmogmaaGreat
open Go.Ev Go.Proofs.Tryz
open Go.RowKit
inductive bG where
 | put (x:gy)
 | get (x:hY)
 | steal (v:Nat) (x:bD)
def bG.st:bG->Nat
 | .put x=>x.st
 | .get x=>x.st
 | .steal _ x=>x.st
def bG.step(c:aP)(p:Nat)(M:bG)(m:bw):bG×bw :=
 match M with
 | .put x=>(.put (aB c p x m).1,(aB c p x m).2)
 | .get x=>(.get (aC c p x m).1,(aC c p x m).2)
 | .steal v x=>(.steal v (ai c p v x m).1,(ai c p v x m).2)
def bG.hands:bG->List Int
 | .put x=>x.hs
 | .get x=>if x.has then [x.sn] else []
 | .steal _ x=>x.hands
def bG.got:bG->Int
 | .put _=>-1
 | .get x=>if x.has then x.sn else -1
 | .steal _ x=>if x.got.2 then x.got.1 else -1
def bG.over:bG->List Int
 | .put x=>if x.st=0 then x.hs else []
 | .get _=>[]
 | .steal _ x=>x.left
structure bX where
 kd:Int
 cv:Int
 cg:Int
 dx:Option bG
 dq:ki
 gn:Bool
 rs:List Int
structure aE where
 m:bw
 ow:List bX
 pts:Int
 bad:Bool
def aE.own(x:aE)(p:Nat)(o:bX):aE:=⟨x.m,x.ow.set p o,x.pts,x.bad⟩
def aE.holds(x:aE)(is:Bool):aE:=⟨x.m,x.ow,IntKind.i64.wrap (x.pts+1),x.bad || !is⟩
def bX.fh(o:bX)(d:ki):bX:=⟨o.kd,o.cv,o.cg,o.dx,d,o.gn,o.rs⟩
def lh(x:ki):ki:=if aO x.w=0 then x else ⟨fq x.w 1,x.sl⟩
def cw(x:ki):ki:=⟨if aO x.w=0 then x.w else fq x.w (cj (aO x.w)),x.sl⟩
def c6(c:aP)(x:ki):List Int:=(aX c x).take (cj (aO x.w)).toNat
def bj(c:aP)(x:aE)(p:Nat)(o:bX)(M:bG):aE :=
 match M with
 | .put u=>if u.st=0 then (x.own p (o.fh (cK c o.dq o.cg).1)).holds (decide ((cK c o.dq o.cg).2=u.hs)) else x
 | .get u=>if u.st=0 then (x.own p (o.fh (lh o.dq))).holds (decide ((aX c o.dq).headD 0=(if u.has then u.sn else 0))&&(decide (aO o.dq.w≠0)==u.has)) else x
 | .steal v u =>
  if o.gn=false/\(u.st=0\/0<u.many) then
   match x.ow[v]? with
   | some ov=>((x.own v (ov.fh (cw ov.dq))).own p ⟨o.kd,o.cv,o.cg,o.dx,o.dq,true,u.hands.drop 1⟩).holds (decide (c6 c ov.dq=u.hands))
   | none=>x
  else if u.st=0 then
   (x.own p (o.fh (cU c o.dq (o.rs.take (tx c o.dq o.rs))))).holds (decide (o.rs.drop (tx c o.dq o.rs)=u.left))
  else x
def ii(c:aP)(m:bw)(p:Nat):List Int:=(ep (ld m (c.word p))).map (λi=>IntKind.i64.wrap (ld m (c.slot p i)))
def sameAt(c:aP)(x:aE)(q:Nat):Bool:=match x.ow[q]? with | some oq=>decide (ii c x.m q=aX c oq.dq) | none=>true
def rV(c:aP)(x:aE):aE:=⟨x.m,x.ow,x.pts,x.bad || !((List.range c.n).all (sameAt c x))⟩
structure nB where
 kd:Int
 got:Int
 over:List Int
def bX.now(o:bX)(M:Option bG):bX:=⟨o.kd,o.cv,o.cg,M,o.dq,o.gn,o.rs⟩
def mt(c:aP)(x:aE)(p:Nat)(o:bX)(M:bG):aE :=
 rV c (bj c (aE.own ⟨(M.step c p x.m).2,x.ow,x.pts,x.bad⟩ p (o.now (some (M.step c p x.m).1))) p (o.now (some (M.step c p x.m).1)) (M.step c p x.m).1)
def b_(c:aP)(x:aE)(p:Nat)(o:bX)(M:bG):aE×Option nB :=
 if (M.step c p x.m).1.st=0 then
  (match (mt c x p o M).ow[p]? with
   | some o2=>(mt c x p o M).own p (o2.now none)
   | none=>mt c x p o M,some ⟨o.kd,(M.step c p x.m).1.got,(M.step c p x.m).1.over⟩)
 else (mt c x p o M,none)
def li(c:aP)(p:Nat):bG->Prop
 | .put x=>oE c x
 | .get x=>ud x
 | .steal v x=>eZ x/\v<c.n/\v≠p
structure NK(c:aP)(p:Nat)(o:bX):Prop where
 dq:eR c o.dq
 rs:o.rs.length<=64
 dx:∀ M,o.dx=some M->li c p M/\M.st≠0
 cv:∀ v u,o.dx=some (.steal v u)->o.cv=(v:Int)
structure P6(c:aP)(x:aE):Prop where
 mem:bT c x.m
 sl:kR c x.m
 len:x.ow.length=c.n
 ow:∀ (p:Nat) o,x.ow[p]? = some o->NK c p o
theorem Hl(c:aP){p q:Nat}(h:p<q):c.off p+(6+c.q)<=c.off q:=by
 unfold aP.off;have:(p+1)*(6+c.q)<=q*(6+c.q):=Nat.mul_le_mul_right _ h;rw[Nat.succ_mul]at this;omega
theorem nC(c:aP){p q:Nat}(h:p≠q):c.off p+(6+c.q)<=c.off q\/c.off q+(6+c.q)<=c.off p:=by
 rcases Nat.lt_or_gt_of_ne h with h | h
 ·exact .inl (Hl c h)
 ·exact .inr (Hl c h)
theorem um(c:aP)(p q:Nat)(i:Int):c.word p≠c.slot q i:=by
 have:=c.az i;unfold aP.word aP.slot
 by_cases h:p=q
 ·subst h;omega
 ·rcases nC c h with h | h<;>omega
theorem Dm(c:aP){p q:Nat}(h:p≠q):c.word p≠c.word q:=by
 unfold aP.word;rcases nC c h with h | h<;>omega
theorem Dp(c:aP){p q:Nat}(h:p≠q)(i j:Int):c.slot p i≠c.slot q j:=by
 have:=c.az i;have:=c.az j;unfold aP.slot;rcases nC c h with h | h<;>omega
theorem uo(c:aP)(p:Nat)(i j:Int):c.slot p i=c.slot p j↔c.ae i=c.ae j:=by
 unfold aP.slot;omega
theorem wh{m:bw}{a:Nat}(ha:a<m.cells.length)(v:Int)(b:Nat):ld (m.put a v) b=if b=a then v else ld m b:=by
 unfold ld bw.put;simp only[List.getD_eq_getElem?_getD]
 by_cases e:b=a
 ·subst e
  rw[if_pos rfl,List.getElem?_set_self ha];rfl
 ·rw[if_neg e,List.getElem?_set_ne (Ne.symm e)]
theorem oL(c:aP){i j:Int}(h1:i<j)(h2:j<i+(c.q:Int)):c.ae i≠c.ae j:=by
 have hq:=c.qb;intro e;unfold aP.ae at e;have a1:=Int.emod_nonneg i (b:=(c.q:Int)) (by omega);have a2:=Int.emod_nonneg j (b:=(c.q:Int)) (by omega);have e2:j%(c.q:Int)=i%(c.q:Int):=by omega
 have e3:(j-i)%(c.q:Int)=0:=Int.emod_eq_emod_iff_emod_sub_eq_zero.1 e2;rw[Int.emod_eq_of_lt (by omega) (by omega)]at e3;omega
theorem aP.q6(c:aP):c.q=2\/c.q=4\/c.q=8\/c.q=16\/c.q=32\/c.q=64:=by
 have:=(gU c.h).2.1;omega
theorem uq(c:aP)(i:Int):c.ae (i%4294967296)=c.ae i:=by
 unfold aP.ae;rw[Int.emod_emod_of_dvd];rcases c.q6 with h | h | h | h | h | h<;>rw[h]<;>decide
theorem lV(c:aP)(p:Nat)(i:Int):c.slot p (i%4294967296)=c.slot p i:=by
 unfold aP.slot;rw[uq]
structure kj(c:aP)(B w:Int):Prop where
 u:fg w
 hd:aj w<=B
 sz:aO w<=(c.q:Int)
theorem kj.tl{c:aP}{B w:Int}(h:kj c B w)(hB:B<=2147483648):cy w=aj w+aO w/\0<=aj w/\0<=aO w:=by
 have h1:=bJ h.u;have h2:=bF w;have h3:=h.hd;have h4:=h.sz;have h5:=c.qb;have h6:aO w=(cy w-aj w)%4294967296:=rfl;omega
theorem kj.mono{c:aP}{B B' w:Int}(h:kj c B w)(hB:B<=B'):kj c B' w:=⟨h.u,Int.le_trans h.hd hB,h.sz⟩
theorem Jx{x y:Int}(h1:aj x=aj y)(h2:cy x=cy y):x=y:=by
 unfold aj cy at *;omega
theorem NL{x d:Int}(h:fg x):aj (fq x d)=(aj x+d)%4294967296:=by
 have:=bF x;unfold fq mQ;unfold aj at *;omega
theorem KF(x d:Int):cy (fq x d)=cy x:=by
 have:=bF x;unfold fq mQ;unfold cy at *;omega
section
variable{c:aP}{B w d:Int}
theorem kj.gain(h:kj c B w)(hB:B<=1073741824)(h1:0<=d)(h2:d<=aO w):kj c (B+d) (fq w d)/\aj (fq w d)=aj w+d/\aO (fq w d)=aO w-d/\cy (fq w d)=cy w:=by
 obtain⟨t1,t2,t3⟩:=h.tl (by omega);have h3:=h.hd;have h4:=h.sz;have h5:=c.qb;have e1:aj (fq w d)=aj w+d:=by rw[NL h.u];omega
 have e2:aO (fq w d)=aO w-d:=by
  show(cy (fq w d)-aj (fq w d))%4294967296=_;rw[KF,e1];omega
 exact⟨⟨yA h.u d,by omega,by omega⟩,e1,e2,KF _ _⟩
theorem kj.move(h:kj c B w)(hB:B<=1073741824)(h1:0<=aO w+d)(h2:aO w+d<=(c.q:Int)):kj c B (dF w d)/\aj (dF w d)=aj w/\aO (dF w d)=aO w+d/\cy (dF w d)=cy w+d:=by
 obtain⟨t1,t2,t3⟩:=h.tl (by omega);have h3:=h.hd;have h4:=h.sz;have h5:=c.qb;have e1:aj (dF w d)=aj w:=KC h.u;have e0:cy (dF w d)=cy w+d:=by rw[KD h.u];omega
 have e2:aO (dF w d)=aO w+d:=by
  show(cy (dF w d)-aj (dF w d))%4294967296=_;rw[e0,e1];omega
 exact⟨⟨pY h.u d,by omega,by omega⟩,e1,e2,e0⟩
end
theorem wj{n:Int}(h:0<=n):0<=cj n/\cj n<=n/\(1<=n->1<=cj n):=by
 unfold cj;omega
abbrev wd(c:aP)(m:bw)(q:Nat):Int:=ld m (c.word q)
abbrev sl(c:aP)(m:bw)(q:Nat)(i:Int):Int:=ld m (c.slot q i)
inductive di(c:aP)(own:Prop)(q:Nat)(m m':bw):Prop where
 | none (s:∀ i,sl c m' q i=sl c m q i) (w:wd c m' q=wd c m q)
 | gain (s:∀ i,sl c m' q i=sl c m q i) (d:Int) (h1:1<=d) (h2:d<=aO (wd c m q)) (w:wd c m' q=fq (wd c m q) d)
 | grow (o:own) (s:∀ i,sl c m' q i=sl c m q i) (d:Int) (h1:0<=d) (h2:aO (wd c m q)+d<=(c.q:Int)) (w:wd c m' q=dF (wd c m q) d)
 | drop (o:own) (s:∀ i,sl c m' q i=sl c m q i) (h2:aO (wd c m q)=(c.q:Int)) (w:wd c m' q=dF (wd c m q) (-((c.q / 2:Nat):Int)))
 | store (o:own) (w:wd c m' q=wd c m q) (j g:Int) (h1:cy (wd c m q)<=j) (h2:j<aj (wd c m q)+(c.q:Int)) (hg:Gn g) (s:∀ i,sl c m' q i=if c.ae i=c.ae j then g else sl c m q i)
structure Still(c:aP)(q:Nat)(m m':bw):Prop where
 w:wd c m' q=wd c m q
 s:∀ i:Int,aj (wd c m q)<=i->i<cy (wd c m q)->sl c m' q i=sl c m q i
section
variable{c:aP}{own:Prop}{q:Nat}{m m':bw}{B:Int}
theorem Jy(h8:c.q=2\/c.q=4\/c.q=8){n:Int}(h0:0<=n)(h:n<=(c.q:Int)):cj n<=(c.q:Int)-((c.q / 2:Nat):Int):=by
 unfold cj;omega
theorem di.word(h:di c own q m m')(hw:kj c B (wd c m q))(hB:B<=1073741824):kj c (B+8) (wd c m' q)\/8<c.q:=by
 have hq:=c.qb;obtain⟨t1,t2,t3⟩:=hw.tl (by omega);have hz:=hw.sz;rcases Nat.lt_or_ge 8 c.q with h8 | h8
 ·exact .inr h8
 refine .inl ?_;cases h with
 | none s w=>rw[w];exact hw.mono (by omega)
 | gain s d h1 h2 w=>rw[w];exact(hw.gain hB (by omega) h2).1.mono (by omega)
 | grow o s d h1 h2 w=>rw[w];exact(hw.move hB (by omega) h2).1.mono (by omega)
 | drop o s h2 w=>rw[w];exact(hw.move hB (by omega) (by omega)).1.mono (by omega)
 | store o w j g h1 h2 hg s=>rw[w];exact hw.mono (by omega)
theorem di.gn(h:di c own q m m')(hs:∀ i,Gn (sl c m q i))(i:Int):Gn (sl c m' q i):=by
 cases h with
 | none s w=>rw[s];exact hs i
 | gain s d h1 h2 w=>rw[s];exact hs i
 | grow o s d h1 h2 w=>rw[s];exact hs i
 | drop o s h2 w=>rw[s];exact hs i
 | store o w j g h1 h2 hg s =>
  rw[s]
  split
  ·exact hg
  ·exact hs i
structure Jz(c:aP)(B:Int)(m:bw)(v:Nat)(w:Int)(bt:List Int):Prop where
 ok:kj c B w
 ne:1<=aO w
 le:aj w<=aj (wd c m v)
 many:(bt.length:Int)<=cj (aO w)
 old:aj w=aj (wd c m v)->cj (aO w)<=aO (wd c m v)
 bt:aj w=aj (wd c m v)->∀ (i:Nat) g,bt[i]? = some g->g=sl c m v (aj w+(i:Int))
theorem Jz.keep{w:Int}{bt:List Int}(h:Jz c B m q w bt)(h8:c.q=2\/c.q=4\/c.q=8)(hr:di c own q m m')(hw:kj c B (wd c m q))(hB:B<=1073741824):Jz c (B+8) m' q w bt:=by
 have hq:=c.qb;obtain⟨t1,t2,t3⟩:=hw.tl (by omega);obtain⟨u1,u2,u3⟩:=h.ok.tl (by omega);have hz:=hw.sz;have hle:=h.le;have hne:=h.ne;have hold:=Jy h8 (by omega) h.ok.sz;cases hr with
 | none s w=>exact⟨h.ok.mono (by omega),h.ne,by rw[w];exact h.le,h.many,by rw[w];exact h.old,by rw[w];intro e i g hi;rw[s];exact h.bt e i g hi⟩
 | gain s d h1 h2 w =>
  obtain⟨_,e1,_,_⟩:=hw.gain hB (by omega) h2;exact⟨h.ok.mono (by omega),h.ne,by rw[w,e1];omega,h.many,by rw[w,e1];omega,by rw[w,e1];omega⟩
 | grow o s d h1 h2 w =>
  obtain⟨_,e1,e2,_⟩:=hw.move hB (by omega) h2;exact⟨h.ok.mono (by omega),h.ne,by rw[w,e1];omega,h.many,by rw[w,e1,e2];intro e;have:=h.old e;omega,by rw[w,e1];intro e i g hi;rw[s];exact h.bt e i g hi⟩
 | drop o s h2 w =>
  obtain⟨_,e1,e2,_⟩:=hw.move (d:=-((c.q / 2:Nat):Int)) hB (by omega) (by omega);exact⟨h.ok.mono (by omega),h.ne,by rw[w,e1];omega,h.many,by rw[w,e1,e2];intro e;omega,by rw[w,e1];intro e i g hi;rw[s];exact h.bt e i g hi⟩
 | store o w j g h1 h2 hg s =>
  refine⟨h.ok.mono (by omega),h.ne,by rw[w];exact h.le,h.many,by rw[w];exact h.old,?_⟩;rw[w];intro e i g' hi;have hlt:=(List.getElem?_eq_some_iff.1 hi).1;have hm:=h.many;have ho:=h.old e;rw[s,if_neg (oL c (by omega) (by omega))];exact h.bt e i g' hi
structure Seen(c:aP)(B:Int)(m:bw)(p:Nat)(w:Int):Prop where
 ok:kj c B w
 le:aj w<=aj (wd c m p)
 tl:cy w=cy (wd c m p)
theorem di.else(h:di c own q m m')(hn:¬ own)(hw:kj c B (wd c m q))(hB:B<=1073741824):(∀ i,sl c m' q i=sl c m q i)/\aj (wd c m q)<=aj (wd c m' q)/\cy (wd c m' q)=cy (wd c m q):=by
 cases h with
 | none s w=>exact⟨s,by rw[w];exact Int.le_refl _,by rw[w]⟩
 | gain s d h1 h2 w =>
  obtain⟨_,e1,_,e2⟩:=hw.gain hB (by omega) h2;exact⟨s,by rw[w,e1];omega,by rw[w,e2]⟩
 | grow o _ _ _ _ _=>exact absurd o hn
 | drop o _ _ _=>exact absurd o hn
 | store o _ _ _ _ _ _ _=>exact absurd o hn
theorem Seen.keep{w:Int}(h:Seen c B m q w)(hr:di c own q m m')(hn:¬ own)(hw:kj c B (wd c m q))(hB:B<=1073741824):Seen c (B+8) m' q w:=by
 obtain⟨k1,k2,k3⟩:=hr.else hn hw hB
 exact⟨h.ok.mono (by omega),Int.le_trans h.le k2,h.tl.trans k3.symm⟩
end
def win(f:Int->Int)(h:Int)(n:Nat):List Int:=(List.range n).map (λi:Nat=>f (h+(i:Int)))
theorem BR(f:Int->Int)(h:Int)(n:Nat):(win f h n).length=n:=by simp[win]
theorem ur{f g:Int->Int}{h:Int}{n:Nat}(e:∀ i:Int,h<=i->i<h+(n:Int)->f i=g i):win f h n=win g h n:=by
 apply List.map_congr_left;intro i hi;rw[List.mem_range]at hi;exact e _ (by omega) (by omega)
theorem mA(f:Int->Int)(h:Int)(n k:Nat):win f h (n+k)=win f h n++win f (h+(n:Int)) k:=by
 unfold win;rw[List.range_add,List.map_append,List.map_map]
 congr 1
 apply List.map_congr_left;intro i _;show f (h+((n+i:Nat):Int))=f (h+(n:Int)+(i:Int))
 congr 1
 omega
theorem rW(f:Int->Int)(h:Int){n k:Nat}(hk:k<=n):(win f h n).drop k=win f (h+(k:Int)) (n-k):=by
 obtain⟨j,rfl⟩:∃ j,n=k+j:=⟨n-k,by omega⟩;rw[mA,show k+j-k=j by omega];exact List.drop_left' (BR f h k)
theorem rX(f:Int->Int)(h:Int){n k:Nat}(hk:k<=n):(win f h n).take k=win f h k:=by
 obtain⟨j,rfl⟩:∃ j,n=k+j:=⟨n-k,by omega⟩;rw[mA,List.take_left' (BR f h k)]
theorem rY{f:Int->Int}{h:Int}{l:List Int}(e:∀ (i:Nat) g,l[i]? = some g->f (h+(i:Int))=g):win f h l.length=l:=by
 apply List.ext_getElem (by simp[win]);intro i h1 h2;have:=e i l[i] (List.getElem?_eq_getElem h2);simpa[win] using this
def rl(c:aP)(m:bw)(q:Nat):List Int:=win (sl c m q) (aj (wd c m q)) (aO (wd c m q)).toNat
theorem iM(c:aP)(d:ki):aX c d=win (λi=>d.sl.getD (c.ae i) 0) (aj d.w) (aO d.w).toNat:=by
 unfold aX win aR;apply List.map_congr_left;intro i _;show d.sl.getD (c.ae ((aj d.w+(i:Int))%4294967296)) 0=_;rw[uq]
theorem rZ(x:Int):0<=aO x/\aO x<4294967296:=by
 unfold aO;omega
theorem Hm{c:aP}{m:bw}{q:Nat}(hs:∀ i,Gn (sl c m q i))(hz:aO (wd c m q)<=65536):ii c m q=rl c m q:=by
 unfold ii ep rl win;rw[if_neg (by show ¬ 65536<aO (wd c m q);omega),List.map_map];apply List.map_congr_left;intro i _;show IntKind.i64.wrap (ld m (c.slot q ((aj (ld m (c.word q))+(i:Int))%4294967296)))=_;rw[lV,kS (hs _)]
section
variable{c:aP}{d:ki}{B:Int}
theorem JA(hx:eR c d)(hw:kj c B d.w)(hB:B<=1073741824){k:Nat}(hk:(k:Int)<=aO d.w):eR c ⟨fq d.w (k:Int),d.sl⟩/\aX c ⟨fq d.w (k:Int),d.sl⟩=(aX c d).drop k:=by
 obtain⟨h1,e1,e2,e3⟩:=hw.gain (d:=(k:Int)) hB (by omega) hk;refine⟨⟨h1.u,hx.sl,h1.sz⟩,?_⟩;rw[iM,iM,rW _ _ (by omega)];show win (λi=>d.sl.getD (c.ae i) 0) (aj (fq d.w (k:Int))) (aO (fq d.w (k:Int))).toNat=_;rw[e1,e2]
 congr 1
 omega
theorem JB(hx:eR c d)(hw:kj c B d.w)(hB:B<=1073741824){k:Nat}(hk:(k:Int)<=aO d.w):eR c ⟨dF d.w (-(k:Int)),d.sl⟩/\aX c ⟨dF d.w (-(k:Int)),d.sl⟩=(aX c d).take ((aO d.w).toNat-k):=by
 have hz:=hw.sz;obtain⟨h1,e1,e2,e3⟩:=hw.move (d:=-(k:Int)) hB (by omega) (by omega);refine⟨⟨h1.u,hx.sl,h1.sz⟩,?_⟩;rw[iM,iM,rX _ _ (by omega)];show win (λi=>d.sl.getD (c.ae i) 0) (aj (dF d.w (-(k:Int)))) (aO (dF d.w (-(k:Int)))).toNat=_;rw[e1,e2]
 congr 1
 omega
theorem BS(hx:eR c d)(hw:kj c B d.w)(hB:B<=1073741824)(hz:aO d.w<(c.q:Int))(g:Int):eR c (dP c d g)/\kj c B (dP c d g).w/\aX c (dP c d g)=aX c d++[g]:=by
 obtain⟨t1,t2,t3⟩:=hw.tl (by omega);obtain⟨h1,e1,e2,e3⟩:=hw.move (d:=1) hB (by omega) (by omega);refine⟨(uk hx hz g).1,h1,?_⟩;rw[iM,iM];show win (λi=>(d.sl.set (c.ae (cy d.w)) g).getD (c.ae i) 0) (aj (dF d.w 1)) (aO (dF d.w 1)).toNat=_;rw[e1,e2,show(aO d.w+1).toNat=(aO d.w).toNat+1 by omega,mA];have hl:=c.az (cy d.w);have hsl:=hx.sl
 congr 1
 ·apply ur
  intro i i1 i2;have:=oL c (i:=i) (j:=cy d.w) (by omega) (by omega);simp only[List.getD_eq_getElem?_getD];rw[List.getElem?_set_ne (Ne.symm this)]
 ·have e5:aj d.w+(((aO d.w).toNat:Nat):Int)=cy d.w:=by omega
  rw[e5];simp only[win,List.range_succ,List.range_zero,List.nil_append,List.map_cons,List.map_nil,List.getD_eq_getElem?_getD];simp[hsl,hl]
theorem Mc(hx:eR c d)(hw:kj c B d.w)(hB:B<=1073741824)(l:List Int)(hz:aO d.w+(l.length:Int)<=(c.q:Int)):eR c (cU c d l)/\aj (cU c d l).w=aj d.w/\cy (cU c d l).w=cy d.w+(l.length:Int)/\aX c (cU c d l)=aX c d++l:=by
 induction l generalizing d with
 | nil=>exact⟨hx,rfl,by simp[cU],by simp[cU]⟩
 | cons g l ih =>
  simp only[List.length_cons]at hz;have hnn:=rZ d.w;obtain⟨k1,k2,k3⟩:=BS hx hw hB (by omega) g;obtain⟨h1,e1,e2,e3⟩:=hw.move (d:=1) hB (by omega) (by omega);obtain⟨j1,j2,j3,j4⟩:=ih k1 k2 (by show aO (dF d.w 1)+_<=_;omega);refine⟨j1,?_,?_,?_⟩
  ·show aj (cU c (dP c d g) l).w=_
   rw[j2];exact e1
  ·show cy (cU c (dP c d g) l).w=_
   rw[j3];show cy (dF d.w 1)+_=_;simp only[List.length_cons];omega
  ·show aX c (cU c (dP c d g) l)=_
   rw[j4,k3];simp
end
section
variable{c:aP}{m m':bw}{q:Nat}{B:Int}
theorem kU(h:∀ i:Int,aj (wd c m q)<=i->i<aj (wd c m q)+((aO (wd c m q)).toNat:Int)->sl c m' q i=sl c m q i)(w:wd c m' q=wd c m q):rl c m' q=rl c m q:=by
 unfold rl;rw[w];exact ur h
theorem wk(hw:kj c B (wd c m q))(hB:B<=1073741824)(s:∀ i,sl c m' q i=sl c m q i){k:Nat}(hk:(k:Int)<=aO (wd c m q))(w:wd c m' q=fq (wd c m q) (k:Int)):rl c m' q=(rl c m q).drop k:=by
 obtain⟨h1,e1,e2,e3⟩:=hw.gain (d:=(k:Int)) hB (by omega) hk;unfold rl;rw[rW _ _ (by omega),w,e1,e2,show sl c m' q=sl c m q from funext s]
 congr 1
 omega
theorem BT(hw:kj c B (wd c m q))(hB:B<=1073741824)(s:∀ i,sl c m' q i=sl c m q i){k:Nat}(hk:(k:Int)<=aO (wd c m q))(w:wd c m' q=dF (wd c m q) (-(k:Int))):rl c m' q=(rl c m q).take ((aO (wd c m q)).toNat-k):=by
 have hz:=hw.sz;obtain⟨h1,e1,e2,e3⟩:=hw.move (d:=-(k:Int)) hB (by omega) (by omega);unfold rl;rw[rX _ _ (by omega),w,e1,e2,show sl c m' q=sl c m q from funext s]
 congr 1
 omega
theorem BU(hw:kj c B (wd c m q))(hB:B<=1073741824)(s:∀ i,sl c m' q i=sl c m q i){l:List Int}(hk:aO (wd c m q)+(l.length:Int)<=(c.q:Int))(w:wd c m' q=dF (wd c m q) (l.length:Int))(hl:∀ (i:Nat) g,l[i]? = some g->sl c m q (cy (wd c m q)+(i:Int))=g):rl c m' q=rl c m q++l:=by
 obtain⟨t1,t2,t3⟩:=hw.tl (by omega);obtain⟨h1,e1,e2,e3⟩:=hw.move (d:=(l.length:Int)) hB (by omega) hk;unfold rl;rw[w,e1,e2,show sl c m' q=sl c m q from funext s,show(aO (wd c m q)+(l.length:Int)).toNat=(aO (wd c m q)).toNat+l.length by omega,mA]
 congr 1
 rw[show aj (wd c m q)+(((aO (wd c m q)).toNat:Nat):Int)=cy (wd c m q) by omega];exact rY hl
end
structure mG(c:aP)(m:bw)(q:Nat)(d:ki):Prop where
 ok:eR c d
 w:d.w=wd c m q
 l:aX c d=rl c m q
section
variable{c:aP}{m m':bw}{q:Nat}{B:Int}{d:ki}
theorem mG.still(h:mG c m q d)(hl:rl c m' q=rl c m q)(w:wd c m' q=wd c m q):mG c m' q d:=⟨h.ok,h.w.trans w.symm,h.l.trans hl.symm⟩
theorem mG.gain(h:mG c m q d)(hw:kj c B (wd c m q))(hB:B<=1073741824)(s:∀ i,sl c m' q i=sl c m q i){k:Nat}(hk:(k:Int)<=aO (wd c m q))(w:wd c m' q=fq (wd c m q) (k:Int)):mG c m' q ⟨fq d.w (k:Int),d.sl⟩:=by
 have hw':kj c B d.w:=by rw[h.w];exact hw
 obtain⟨k1,k2⟩:=JA h.ok hw' hB (by rw[h.w];exact hk);exact⟨k1,by rw[w,← h.w],by rw[k2,h.l,wk hw hB s hk w]⟩
theorem mG.back(h:mG c m q d)(hw:kj c B (wd c m q))(hB:B<=1073741824)(s:∀ i,sl c m' q i=sl c m q i){k:Nat}(hk:(k:Int)<=aO (wd c m q))(w:wd c m' q=dF (wd c m q) (-(k:Int))):mG c m' q ⟨dF d.w (-(k:Int)),d.sl⟩:=by
 have hw':kj c B d.w:=by rw[h.w];exact hw
 obtain⟨k1,k2⟩:=JB h.ok hw' hB (by rw[h.w];exact hk);exact⟨k1,by rw[w,← h.w],by rw[k2,h.l,h.w,BT hw hB s hk w]⟩
theorem mG.lay(h:mG c m q d)(hw:kj c B (wd c m q))(hB:B<=1073741824)(s:∀ i,sl c m' q i=sl c m q i){l:List Int}(hk:aO (wd c m q)+(l.length:Int)<=(c.q:Int))(w:wd c m' q=dF (wd c m q) (l.length:Int))(hl:∀ (i:Nat) g,l[i]? = some g->sl c m q (cy (wd c m q)+(i:Int))=g):mG c m' q (cU c d l):=by
 have hw':kj c B d.w:=by rw[h.w];exact hw
 obtain⟨h1,e1,e2,e3⟩:=hw.move (d:=(l.length:Int)) hB (by have:=rZ (wd c m q);omega) hk;obtain⟨k1,k2,k3,k4⟩:=Mc h.ok hw' hB l (by rw[h.w];exact hk);refine⟨k1,?_,by rw[k4,h.l,BU hw hB s hk w hl]⟩;rw[w];exact Jx (by rw[k2,e1,h.w]) (by rw[k3,e3,h.w])
end
section
variable{c:aP}{m:bw}{p:Nat}
theorem gF(hm:bT c m)(hp:p<c.n)(v:Int)(q:Nat):wd c (m.put (c.word p) v) q=if q=p then v else wd c m q:=by
 show ld _ _=_;rw[wh (hm.fl hp)]
 by_cases e:q=p
 ·rw[if_pos e,if_pos (by rw[e])]
 ·rw[if_neg e,if_neg (Dm c e)]
theorem oM(hm:bT c m)(hp:p<c.n)(v:Int)(q:Nat)(i:Int):sl c (m.put (c.word p) v) q i=sl c m q i:=by
 show ld _ _=_;rw[wh (hm.fl hp),if_neg (Ne.symm (um c p q i))]
theorem mB(hm:bT c m)(hp:p<c.n)(j v:Int)(q:Nat):wd c (m.put (c.slot p j) v) q=wd c m q:=by
 show ld _ _=_;rw[wh (hm.iB hp j),if_neg (um c q p j)]
theorem oN(hm:bT c m)(hp:p<c.n)(j v:Int)(q:Nat)(i:Int):sl c (m.put (c.slot p j) v) q i=if q=p/\c.ae i=c.ae j then v else sl c m q i:=by
 show ld _ _=_;rw[wh (hm.iB hp j)]
 by_cases e:q=p
 ·subst e
  by_cases e2:c.ae i=c.ae j
  ·rw[if_pos ((uo c q i j).2 e2),if_pos ⟨rfl,e2⟩]
  ·rw[if_neg (λh=>e2 ((uo c q i j).1 h)),if_neg (λh=>e2 h.2)]
 ·rw[if_neg (Dp c e i j),if_neg (λh=>e h.1)]
end
structure Quiet(c:aP)(p:Nat)(m m':bw):Prop where
 mem:bT c m'
 ring:∀ q,q<c.n->di c (p=q) q m m'
 w:∀ q,q<c.n->wd c m' q=wd c m q
 l:∀ q,q<c.n->rl c m' q=rl c m q
structure Rings(c:aP)(B:Int)(m:bw):Prop where
 mem:bT c m
 sl:kR c m
 w:∀ q,q<c.n->kj c B (wd c m q)
 h8:c.q=2\/c.q=4\/c.q=8
 hB:B<=1073741824
section
variable{c:aP}{m:bw}{p:Nat}{B:Int}
theorem Rings.tick(h:Rings c B m):Quiet c p m m.tick:=⟨h.mem.tick,λq _=>.none (λ_=>rfl) rfl,λq _=>rfl,λq _=>rfl⟩
theorem Rings.store(h:Rings c B m)(hp:p<c.n){j g:Int}(hg:Gn g)(h1:cy (wd c m p)<=j)(h2:j<aj (wd c m p)+(c.q:Int)):Quiet c p m (m.put (c.slot p j) g):=by
 have hw:=λq hq=>(h.w q hq).tl (by have:=h.hB;omega)
 refine⟨h.mem.put _ (NI hg),λq hq=>?_,λq hq=>mB h.mem hp j g q,λq hq=>?_⟩
 ·by_cases e:p=q
  ·subst e
   exact .store rfl (mB h.mem hp j g p) j g h1 h2 hg (λi=>by rw[oN h.mem hp];simp)
  ·exact .none (λi=>by rw[oN h.mem hp,if_neg (λh=>e h.1.symm)]) (mB h.mem hp j g q)
 ·refine kU (λi i1 i2=>?_) (mB h.mem hp j g q)
  rw[oN h.mem hp]
  by_cases e:q=p
  ·subst e
   obtain⟨t1,t2,t3⟩:=hw q hq;rw[if_neg (λh=>oL c (by omega) (by omega) h.2)]
  ·rw[if_neg (λh=>e h.1)]
theorem Rings.next(h:Rings c B m){own:Nat->Prop}{m':bw}(hm:bT c m')(hr:∀ q,q<c.n->di c (own q) q m m')(hB:B+8<=1073741824):Rings c (B+8) m' :=
 ⟨hm,λq hq i=>(hr q hq).gn (h.sl q hq) i,λq hq=>((hr q hq).word (h.w q hq) h.hB).resolve_right (by have:=h.h8;omega),h.h8,hB⟩
end
structure r6(c:aP)(B:Int)(m:bw)(p:Nat)(u:gy):Prop where
 ok:oE c u
 gg:Gn u.gg
 hs:u.hs=[u.gg]
 nH:u.st=2\/u.st=3->Seen c B m p u.w/\aO u.w<(c.q:Int)
 s3:u.st=3->sl c m p (cy u.w)=u.gg
 KG:u.st=4\/u.st=5->kj c B u.w/\aO u.w=(c.q:Int)/\∀ (i:Nat) g,u.ts[i]? = some g->g=sl c m p (cy u.w-((c.q / 2:Nat):Int)+(i:Int))
 s5:u.st=5->u.ts.length=c.q / 2
section
variable{c:aP}{B:Int}{m m':bw}{p:Nat}{own:Prop}
theorem r6.keep{u:gy}(h:r6 c B m p u)(hr:di c own p m m')(hn:¬ own)(hw:kj c B (wd c m p))(hB:B<=1073741824):r6 c (B+8) m' p u:=by
 obtain⟨k1,k2,k3⟩:=hr.else hn hw hB
 exact⟨h.ok,h.gg,h.hs,λe=>⟨(h.nH e).1.keep hr hn hw hB,(h.nH e).2⟩,λe=>by rw[k1];exact h.s3 e,λe=>⟨(h.KG e).1.mono (by omega),(h.KG e).2.1,λi g hi=>by rw[k1];exact(h.KG e).2.2 i g hi⟩,h.s5⟩
theorem Md(c:aP)(p:Nat)(w:Int)(n:Nat):c.slot p (H2 c w n)=c.slot p (cy w-((c.q / 2:Nat):Int)+(n:Int)):=by
 unfold H2;exact lV c p _
theorem BV(hR:Rings c B m){d:ki}(hp:p<c.n)(hd:mG c m p d)(g:Int):(aO (wd c m p)<(c.q:Int)->(∀ i,sl c m' p i=sl c m p i)->wd c m' p=dF (wd c m p) 1->sl c m p (cy (wd c m p))=g->mG c m' p (cK c d g).1/\(cK c d g).2=[]/\rl c m' p=rl c m p++[g])/\
  (aO (wd c m p)=(c.q:Int)->(∀ i,sl c m' p i=sl c m p i)->wd c m' p=dF (wd c m p) (-((c.q / 2:Nat):Int))->mG c m' p (cK c d g).1/\(cK c d g).2=(rl c m p).drop (c.q / 2)++[g]/\rl c m' p=(rl c m p).take (c.q / 2)):=by
 have hw:=hR.w p hp;have h8:=hR.h8;constructor
 ·intro hz hs hw' hg
  unfold cK;rw[if_pos (by rw[hd.w];exact hz)]
  have k:=hd.lay hw hR.hB hs (l:=[g]) (by simp;omega) hw' (λi g' hi=>by
   match i with
   | 0=>cases hi;simpa using hg
   | i+1=>cases hi)
  exact⟨k,rfl,by rw[← k.l,← hd.l];exact(BS hd.ok (B:=B) (by rw[hd.w];exact hw) hR.hB (by rw[hd.w];exact hz) g).2.2⟩
 ·intro hz hs hw'
  unfold cK;rw[if_neg (by rw[hd.w];omega)];have k:=hd.back hw hR.hB hs (k:=c.q / 2) (by omega) hw';have k2:=BT hw hR.hB hs (k:=c.q / 2) (by omega) hw';refine⟨k,by rw[← hd.l],?_⟩;rw[k2,hz]
  congr 1
  omega
theorem yN(hR:Rings c B m)(hp:p<c.n){u:gy}(h:r6 c B m p u)(h0:u.st≠0) :
  bT c (aB c p u m).2/\(∀ q,q<c.n->di c (p=q) q m (aB c p u m).2)/\(∀ q,q<c.n->q≠p->wd c (aB c p u m).2 q=wd c m q/\rl c (aB c p u m).2 q=rl c m q)/\(aB c p u m).1.gg=u.gg/\
  ((aB c p u m).1.st≠0->r6 c (B+8) (aB c p u m).2 p (aB c p u m).1/\Quiet c p m (aB c p u m).2)/\
  ((aB c p u m).1.st=0->∀ d,mG c m p d->mG c (aB c p u m).2 p (cK c d u.gg).1/\(cK c d u.gg).2=(aB c p u m).1.hs/\(rl c (aB c p u m).2 p++(aB c p u m).1.hs).Perm (rl c m p++[u.gg])):=by
 have hok:=(rL hp h.ok hR.mem).1;have hw:=hR.w p hp;have hB:=hR.hB;have h8:=hR.h8;obtain⟨t1,t2,t3⟩:=hw.tl (by omega);have hz:=hw.sz;have qt:∀ {m':bw},Quiet c p m m'->bT c m'/\(∀ q,q<c.n->di c (p=q) q m m')/\(∀ q,q<c.n->q≠p->wd c m' q=wd c m q/\rl c m' q=rl c m q):=λk=>⟨k.mem,k.ring,λq hq _=>⟨k.w q hq,k.l q hq⟩⟩
 have hgg:=h.gg;have Kx:=h.hs;have nH:=h.nH;have s3:=h.s3;have KG:=h.KG;have s5:=h.s5;have hts:=h.ok.ts;have QL:=h.ok.t4;have DO:=h.ok.w;obtain⟨st,gg,w,ts,hs⟩:=u;dsimp only at hgg Kx nH s3 KG s5 hts QL DO h0;subst Kx
 match st,h.ok.st with
 | 0,_=>exact absurd rfl h0
 | 1,_ =>
  have e:aB c p ⟨1,gg,w,ts,[gg]⟩ m=(⟨if (c.q:Int)<=aO (ld m (c.word p)) then 4 else 2,gg,ld m (c.word p),[],[gg]⟩,m.tick):=rfl;rw[e]at hok ⊢;obtain⟨a1,a2,a3⟩:=qt (hR.tick (p:=p));refine⟨a1,a2,a3,rfl,λ_=>⟨⟨hok,hgg,rfl,?_,?_,?_,?_⟩,hR.tick⟩,?_⟩
  ·intro he
   have hlt:¬ (c.q:Int)<=aO (wd c m p):=λhh=>by
    dsimp only at he;rw[if_pos hh]at he;omega
   exact⟨⟨hw.mono (by omega),Int.le_refl _,rfl⟩,by show aO (wd c m p)<_;omega⟩
  ·intro he
   dsimp only at he
   split at he<;>cases he
  ·intro he
   have hle:(c.q:Int)<=aO (wd c m p):=Classical.byContradiction λhh=>by
    dsimp only at he;rw[if_neg hh]at he;omega
   exact⟨hw.mono (by omega),by show aO (wd c m p)=_;omega,λi g hi=>by cases hi⟩
  ·intro he
   dsimp only at he
   split at he<;>cases he
  ·intro he
   dsimp only at he
   split at he<;>cases he
 | 2,_ =>
  obtain⟨k1,k2⟩:=nH (.inl rfl);obtain⟨u1,u2,u3⟩:=k1.ok.tl (by omega);have e:aB c p ⟨2,gg,w,ts,[gg]⟩ m=(⟨3,gg,w,ts,[gg]⟩,m.put (c.slot p (cy w)) gg):=rfl;rw[e]at hok ⊢;have kl:=k1.le;have kt:=k1.tl;have Qt:=hR.store hp hgg (j:=cy w) (by omega) (by omega);obtain⟨a1,a2,a3⟩:=qt Qt;refine⟨a1,a2,a3,rfl,λ_=>⟨⟨hok,hgg,rfl,λ_=>⟨⟨k1.ok.mono (by omega),by show _<=aj (wd c _ p);rw[Qt.w p hp];exact kl,by show _=cy (wd c _ p);rw[Qt.w p hp];exact kt⟩,k2⟩,λ_=>?_,λhe=>(by rcases he with he | he<;>cases he),λhe=>(by cases he)⟩,Qt⟩,λhe=>(by cases he)⟩;show sl c (m.put (c.slot p (cy w)) gg) p (cy w)=gg;rw[oN hR.mem hp,if_pos ⟨rfl,rfl⟩]
 | 3,_ =>
  obtain⟨k1,k2⟩:=nH (.inr rfl);have k3:=s3 rfl
  by_cases hc:ld m (c.word p)=w
  ·have e:aB c p ⟨3,gg,w,ts,[gg]⟩ m=(⟨0,gg,w,ts,[]⟩,m.put (c.word p) (dF w 1)):=by simp only[aB,if_pos hc]
   rw[e]at hok ⊢;have nD:wd c m p=w:=hc;have hw':wd c (m.put (c.word p) (dF w 1)) p=dF (wd c m p) 1:=by rw[gF hR.mem hp,if_pos rfl,nD]
   have hs':∀ q i,sl c (m.put (c.word p) (dF w 1)) q i=sl c m q i:=λq i=>oM hR.mem hp _ q i
   have ho:∀ q,q≠p->wd c (m.put (c.word p) (dF w 1)) q=wd c m q:=λq hq=>by rw[gF hR.mem hp,if_neg hq]
   refine⟨hR.mem.put _ (pY DO 1),λq hq=>?_,λq hq hne=>⟨ho q hne,kU (λi _ _=>hs' q i) (ho q hne)⟩,rfl,λhe=>absurd rfl he,λ_ d hd=>?_⟩
   ·by_cases eq:p=q
    ·subst eq
     exact .grow rfl (hs' p) 1 (by omega) (by rw[nD];omega) hw'
    ·exact .none (hs' q) (ho q (Ne.symm eq))
   ·obtain⟨j1,j2,j3⟩:=(BV hR hp hd gg).1 (by rw[nD];exact k2) (hs' p) hw' (by rw[nD];exact k3)
    refine⟨j1,j2,?_⟩;rw[j3,List.append_nil]
  ·have e:aB c p ⟨3,gg,w,ts,[gg]⟩ m=(⟨1,gg,w,ts,[gg]⟩,m.tick):=by simp only[aB,if_neg hc]
   rw[e]at hok ⊢;obtain⟨a1,a2,a3⟩:=qt (hR.tick (p:=p));exact⟨a1,a2,a3,rfl,λ_=>⟨⟨hok,hgg,rfl,λhe=>(by rcases he with he | he<;>cases he),λhe=>(by cases he),λhe=>(by rcases he with he | he<;>cases he),λhe=>(by cases he)⟩,hR.tick⟩,λhe=>(by cases he)⟩
 | 4,_ =>
  obtain⟨k1,k2,k3⟩:=KG (.inl rfl);have k4:=QL rfl;obtain⟨st',hst'⟩:∃ st',(if ts.length+1=c.q / 2 then 5 else 4)=st':=⟨_,rfl⟩;have hG:=kS (hR.sl p hp (cy w-((c.q / 2:Nat):Int)+(ts.length:Int)));have e:aB c p ⟨4,gg,w,ts,[gg]⟩ m=(⟨st',gg,w,ts++[sl c m p (cy w-((c.q / 2:Nat):Int)+(ts.length:Int))],[gg]⟩,m.tick):=by
   simp only[aB,hst',Md];rw[hG]
  rw[e]at hok ⊢;obtain⟨a1,a2,a3⟩:=qt (hR.tick (p:=p));refine⟨a1,a2,a3,rfl,λ_=>⟨⟨hok,hgg,rfl,λhe=>?_,λhe=>?_,λ_=>⟨k1.mono (by omega),k2,λi g hi=>?_⟩,λhe=>?_⟩,hR.tick⟩,λhe=>?_⟩
  ·dsimp only at he
   split at hst'<;>omega
  ·dsimp only at he
   split at hst'<;>omega
  ·show g=sl c m p _
   dsimp only at hi ⊢
   by_cases hlt:i<ts.length
   ·rw[List.getElem?_append_left hlt]at hi
    exact k3 i g hi
   ·rw[List.getElem?_append_right (by omega)]at hi
    have hi0:i-ts.length=0:=by
     rcases Nat.eq_zero_or_pos (i-ts.length) with h | h
     ·exact h
     ·rw[List.getElem?_eq_none (by simp;omega)]at hi
      cases hi
    rw[hi0]at hi;cases hi;rw[show i=ts.length by omega]
  ·dsimp only at he ⊢
   rw[List.length_append];simp only[List.length_cons,List.length_nil]
   split at hst'<;>omega
  ·dsimp only at he
   split at hst'<;>omega
 | 5,_ =>
  obtain⟨k1,k2,k3⟩:=KG (.inr rfl);have k5:=s5 rfl
  by_cases hc:ld m (c.word p)=w
  ·have e:aB c p ⟨5,gg,w,ts,[gg]⟩ m=(⟨0,gg,w,ts,ts++[gg]⟩,m.put (c.word p) (dF w (-((c.q / 2:Nat):Int)))):=by simp only[aB,if_pos hc]
   rw[e]at hok ⊢;have nD:wd c m p=w:=hc;have hw':wd c (m.put (c.word p) (dF w (-((c.q / 2:Nat):Int)))) p=dF (wd c m p) (-((c.q / 2:Nat):Int)):=by rw[gF hR.mem hp,if_pos rfl,nD]
   have hs':∀ q i,sl c (m.put (c.word p) (dF w (-((c.q / 2:Nat):Int)))) q i=sl c m q i:=λq i=>oM hR.mem hp _ q i
   have ho:∀ q,q≠p->wd c (m.put (c.word p) (dF w (-((c.q / 2:Nat):Int)))) q=wd c m q:=λq hq=>by rw[gF hR.mem hp,if_neg hq]
   refine⟨hR.mem.put _ (pY DO _),λq hq=>?_,λq hq hne=>⟨ho q hne,kU (λi _ _=>hs' q i) (ho q hne)⟩,rfl,λhe=>absurd rfl he,λ_ d hd=>?_⟩
   ·by_cases eq:p=q
    ·subst eq
     exact .drop rfl (hs' p) (by rw[nD];omega) hw'
    ·exact .none (hs' q) (ho q (Ne.symm eq))
   ·obtain⟨j1,j2,j3⟩:=(BV hR hp hd gg).2 (by rw[nD];exact k2) (hs' p) hw'
    have NM:(rl c m p).drop (c.q / 2)=ts:=by
     unfold rl;rw[rW _ _ (by rw[nD];omega)];have e1:(aO (wd c m p)).toNat-c.q / 2=ts.length:=by rw[nD,k2,k5];omega
     rw[e1];refine rY (λi g hi=>?_);rw[k3 i g hi]
     congr 2
     rw[← nD];rw[← nD]at k2;omega
    rw[NM]at j2;refine⟨j1,j2,?_⟩;dsimp only;rw[j3,← List.append_assoc,← NM,List.take_append_drop]
  ·have e:aB c p ⟨5,gg,w,ts,[gg]⟩ m=(⟨1,gg,w,ts,[gg]⟩,m.tick):=by simp only[aB,if_neg hc]
   rw[e]at hok ⊢;obtain⟨a1,a2,a3⟩:=qt (hR.tick (p:=p));exact⟨a1,a2,a3,rfl,λ_=>⟨⟨hok,hgg,rfl,λhe=>(by rcases he with he | he<;>cases he),λhe=>(by cases he),λhe=>(by rcases he with he | he<;>cases he),λhe=>(by cases he)⟩,hR.tick⟩,λhe=>(by cases he)⟩
end
structure r7(c:aP)(B:Int)(m:bw)(p:Nat)(u:hY):Prop where
 ok:ud u
 nH:u.st=2\/u.st=3->kj c B u.w/\1<=aO u.w
 s3:u.st=3->u.sn=sl c m p (aj u.w)
section
variable{c:aP}{B:Int}{m m':bw}{p:Nat}{own:Prop}
theorem r7.keep{u:hY}(h:r7 c B m p u)(hr:di c own p m m')(hn:¬ own)(hw:kj c B (wd c m p))(hB:B<=1073741824):r7 c (B+8) m' p u:=by
 obtain⟨k1,k2,k3⟩:=hr.else hn hw hB
 exact⟨h.ok,λe=>⟨(h.nH e).1.mono (by omega),(h.nH e).2⟩,λe=>by rw[k1];exact h.s3 e⟩
theorem yO(hR:Rings c B m)(hp:p<c.n){u:hY}(h:r7 c B m p u)(h0:u.st≠0) :
  bT c (aC c p u m).2/\(∀ q,q<c.n->di c (p=q) q m (aC c p u m).2)/\(∀ q,q<c.n->q≠p->wd c (aC c p u m).2 q=wd c m q/\rl c (aC c p u m).2 q=rl c m q)/\
  ((aC c p u m).1.st≠0->r7 c (B+8) (aC c p u m).2 p (aC c p u m).1/\Quiet c p m (aC c p u m).2)/\
  ((aC c p u m).1.st=0->∀ d,mG c m p d->mG c (aC c p u m).2 p (lh d)/\(aX c d).headD 0=(if (aC c p u m).1.has then (aC c p u m).1.sn else 0)/\decide (aO d.w≠0)=(aC c p u m).1.has/\(if (aC c p u m).1.has then [(aC c p u m).1.sn] else [])++rl c (aC c p u m).2 p=rl c m p):=by
 have hok:=(rN hp h.ok hR.mem).1;have hw:=hR.w p hp;have hB:=hR.hB;have h8:=hR.h8;obtain⟨t1,t2,t3⟩:=hw.tl (by omega);have hz:=hw.sz;have qt:∀ {m':bw},Quiet c p m m'->bT c m'/\(∀ q,q<c.n->di c (p=q) q m m')/\(∀ q,q<c.n->q≠p->wd c m' q=wd c m q/\rl c m' q=rl c m q):=λk=>⟨k.mem,k.ring,λq hq _=>⟨k.w q hq,k.l q hq⟩⟩
 have hhas:=h.ok.has h0;have nH:=h.nH;have s3:=h.s3;have DO:=h.ok.w;obtain⟨st,w,sn,has⟩:=u;dsimp only at hhas nH s3 DO h0;subst hhas
 match st,h.ok.st with
 | 0,_=>exact absurd rfl h0
 | 1,_ =>
  obtain⟨a1,a2,a3⟩:=qt (hR.tick (p:=p))
  by_cases hc:aO (ld m (c.word p))=0\/(c.q:Int)<aO (ld m (c.word p))
  ·have e:aC c p ⟨1,w,sn,false⟩ m=(⟨0,ld m (c.word p),sn,false⟩,m.tick):=by simp only[aC,if_pos hc]
   rw[e]at hok ⊢;have hz0:aO (wd c m p)=0:=by
    rcases hc with h | h
    ·exact h
    ·exact absurd h (by have:=hz;show ¬ _<aO (wd c m p);omega)
   refine⟨a1,a2,a3,λhe=>absurd rfl he,λ_ d hd=>?_⟩;have hdz:aO d.w=0:=by rw[hd.w];exact hz0
   have hl:aX c d=[]:=by simp[aX,hdz]
   refine⟨?_,by rw[hl];rfl,by simp[hdz],rfl⟩;unfold lh;rw[if_pos hdz];exact hd.still rfl rfl
  ·have e:aC c p ⟨1,w,sn,false⟩ m=(⟨2,ld m (c.word p),sn,false⟩,m.tick):=by simp only[aC,if_neg hc]
   rw[e]at hok ⊢;refine⟨a1,a2,a3,λ_=>⟨⟨hok,λ_=>⟨hw.mono (by omega),?_⟩,λhe=>(by cases he)⟩,hR.tick⟩,λhe=>(by cases he)⟩;rw[not_or]at hc;have:=hc.1;show 1<=aO (wd c m p);have:aO (wd c m p)≠0:=hc.1;omega
 | 2,_ =>
  obtain⟨a1,a2,a3⟩:=qt (hR.tick (p:=p));have e:aC c p ⟨2,w,sn,false⟩ m=(⟨3,w,sl c m p (aj w),false⟩,m.tick):=by
   simp only[aC];rw[kS (hR.sl p hp _)]
  rw[e]at hok ⊢;obtain⟨k1,k2⟩:=nH (.inl rfl);exact⟨a1,a2,a3,λ_=>⟨⟨hok,λ_=>⟨k1.mono (by omega),k2⟩,λ_=>rfl⟩,hR.tick⟩,λhe=>(by cases he)⟩
 | 3,_ =>
  obtain⟨k1,k2⟩:=nH (.inr rfl);have k3:=s3 rfl
  by_cases hc:ld m (c.word p)=w
  ·have e:aC c p ⟨3,w,sn,false⟩ m=(⟨0,w,sn,true⟩,m.put (c.word p) (fq w 1)):=by simp only[aC,if_pos hc]
   rw[e]at hok ⊢;have nD:wd c m p=w:=hc;have hw':wd c (m.put (c.word p) (fq w 1)) p=fq (wd c m p) ((1:Nat):Int):=by rw[gF hR.mem hp,if_pos rfl,nD];rfl
   have hs':∀ q i,sl c (m.put (c.word p) (fq w 1)) q i=sl c m q i:=λq i=>oM hR.mem hp _ q i
   have ho:∀ q,q≠p->wd c (m.put (c.word p) (fq w 1)) q=wd c m q:=λq hq=>by rw[gF hR.mem hp,if_neg hq]
   refine⟨hR.mem.put _ (yA DO 1),λq hq=>?_,λq hq hne=>⟨ho q hne,kU (λi _ _=>hs' q i) (ho q hne)⟩,λhe=>absurd rfl he,λ_ d hd=>?_⟩
   ·by_cases eq:p=q
    ·subst eq
     exact .gain (hs' p) 1 (by omega) (by rw[nD];exact k2) hw'
    ·exact .none (hs' q) (ho q (Ne.symm eq))
   ·have hdz:¬ aO d.w=0:=by rw[hd.w,nD];omega
    have hle:((1:Nat):Int)<=aO (wd c m p):=by rw[nD];omega
    have hg:=wk hw hB (hs' p) hle hw';have hh:rl c m p=sn::(rl c m p).drop 1:=by
     unfold rl;rw[nD];obtain⟨k,hk⟩:∃ k,(aO w).toNat=1+k:=⟨(aO w).toNat-1,by omega⟩;rw[hk,mA];simp[win,k3]
    refine⟨?_,?_,by simp[hdz],?_⟩
    ·unfold lh
     rw[if_neg hdz];exact hd.gain hw hB (hs' p) hle hw'
    ·rw[hd.l,hh]
     rfl
    ·rw[hg]
     exact hh.symm
  ·have e:aC c p ⟨3,w,sn,false⟩ m=(⟨1,w,sn,false⟩,m.tick):=by simp only[aC,if_neg hc]
   rw[e]at hok ⊢;obtain⟨a1,a2,a3⟩:=qt (hR.tick (p:=p));exact⟨a1,a2,a3,λ_=>⟨⟨hok,λhe=>(by rcases he with he | he<;>cases he),λhe=>(by cases he)⟩,hR.tick⟩,λhe=>(by cases he)⟩
end
end Go.Proofs.YtkmccgombmogmaaGreat
