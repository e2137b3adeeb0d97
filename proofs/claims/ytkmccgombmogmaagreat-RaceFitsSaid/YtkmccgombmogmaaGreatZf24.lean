/- Part of a proof: see the last text. -/
import Derived.Test.YtkmccgombmogmaaGreatZf23
set_option linter.unusedSimpArgs false
set_option linter.unusedVariables false
namespace Go.Proofs.YtkmccgombmogmaaGreat
open Go.Ev Go.Proofs.Tryz
open Go.RowKit
set_option maxRecDepth 8000
def bP.hands(x:bP):List Int:=match x.ly with | none=>[] | some l=>x.bt.take 1++l.ls
theorem Ku(m:Nat){c:aU}{p bl:Nat}{l:gu}(hp:p<c.n)(hl:A6 l){mm:bO}(hm:bY c mm){F:Nat->Prop}{w:World}(h:cL [ez c p bl l] F w) :
  CallsIn Fence.wide m prog 103 #[.agg #[.pointer (some ⟨bl,0,none⟩)]] w λe w'=>∃ v,aT v=true/\e=.returned v/\af ⟨w,F⟩ [bJ v l.ls,ez c p bl l] w':=by
 refine callsIn_of_wp func103 rfl trivial ?_ rfl;simp only[ntmps103,List.size_toArray,List.length_cons,List.length_nil,Nat.reduceAdd,Nat.reduceSub,Array.replicate_succ,Array.replicate_zero,List.push_toArray,List.append_toArray,List.nil_append,List.cons_append];obtain⟨W1,hW1⟩:∃ W1,w.alloc (.cells #[.pointer (some ⟨bl,0,none⟩)] 153)=W1:=⟨_,rfl⟩;have hB1:Below w.heap.size w W1:=by rw[← hW1];exact(Below.refl _ w).alloc (Nat.le_refl _) _
 have h1:W1.heap[w.heap.size]? = some (Obj.cells #[.pointer (some ⟨bl,0,none⟩)] 153 (0,0)):=by rw[← hW1];exact World.alloc_heap_new _ _
 have d0:=cell_of h1 0 _ rfl;obtain⟨F1,k1,back⟩:=cU (rest:=[]) [ez c p bl l] (bH (af.start h) hB1)
 gi_wp2
 refine⟨trivial,λh=>by simp[Fence.wide]at h,(callsIn_wide.2 (uG hp hl.w hl.b hl.ls hm k1)).mono ?_⟩;rintro e w2 ⟨v,lv,rfl,hh⟩
 gi_wp2
 exact bodyPost_ret (results_tmp rfl _ _ _) rfl ⟨_,lv,rfl,back _ _ hh⟩
theorem sG{ctx:dt}{l:List aF}{e:TypeId}{n:Nat}{v:Value}{xs:List Value}{w w':World}(h:af ctx l w)(ho:w'.ownsRow w.heap.size e 1 v n xs)(hb:Below w.heap.size w w'):af ctx (bT e 1 v n xs::l) w':=by
 obtain⟨F',m1,m2,m3⟩:=h.ex;obtain⟨v2,cd,_,e,hh⟩:=r_ m1 ho hb;cases e;exact hh.into (l:=[]) m2 m3
theorem Cq{w:World}{a0 a1:Option Addr}{c0 c1 n lo hi:Nat}{l:List Int}(h:iM 1 (.slice a0 n c0) l.length (aX l) w)(hl:n=l.length)(h1:lo<=hi)(h2:hi<=l.length)(hcv:Ev.cutV 1 (.slice a0 n c0) lo hi=.slice a1 (hi-lo) c1):iM 1 (.slice a1 (hi-lo) c1) ((l.drop lo).take (hi-lo)).length (aX ((l.drop lo).take (hi-lo))) w:=by
 have:=h.cut h1 h2;rw[hcv]at this;simp only[Nat.mul_one]at this;rw[show((l.drop lo).take (hi-lo)).length=hi-lo by simp;omega];simpa[aX,List.map_take,List.map_drop] using this
theorem Kv{w:World}{n:Nat}{e:TypeId}{sz k:Nat}{v:Value}{xs:List Value}(h:w.ownsRow n e sz v k xs):∃ a c,v=.slice a k c:=by
 rcases h.2 with ⟨rfl,rfl⟩ | ⟨g,cap,cur,rfl,_⟩
 ·exact⟨_,_,rfl⟩
 ·exact⟨_,_,rfl⟩
theorem Bc(m:Nat){b:Nat}{u0 u1:Value}{l0 l1:List Int}{T:TypeId}{fz:Nat×Nat}{w:World}(hb:w.heap[b]? = some (Obj.cells #[u0,u1] T fz))(h0:iM 1 u0 l0.length (aX l0) w)(h1:iM 1 u1 l1.length (aX l1) w)(n0:l0.length<=1000)(n1:l1.length<=1000) :
  CallsIn Fence.wide m prog 116 #[.slice (some ⟨b,0,none⟩) 2 2] w λe w'=>∃ v,e=.returned v/\w'.ownsRow w.heap.size 3 1 v (l0++l1).length (aX (l0++l1))/\Below w.heap.size w w':=by
 have:=DR m b 2 (λk=>if k=0 then u0 else u1) (λk=>if k=0 then l0 else l1) w (by omega) (λk hk=>?_) (λk hk=>?_) (Array.getElem?_eq_some_iff.1 hb).1
 ·have e:cat (λk=>if k=0 then l0 else l1) 2=l0++l1:=by simp[cat,List.range_succ]
  rw[e]at this;exact this
 ·match k,hk with
  | 0,_=>exact cell_of hb 0 _ rfl
  | 1,_=>exact cell_of hb 1 _ rfl
 ·match k,hk with
  | 0,_=>exact⟨h0,n0⟩
  | 1,_=>exact⟨h1,n1⟩
set_option maxHeartbeats 2000000 in
theorem qs(m:Nat){c:aU}{p v bp:Nat}{x:bP}(hp:p<c.n)(hv:v<c.n)(hx:fH x){mm:bO}(hm:bY c mm){F:Nat->Prop}{w:World}(h:cL [c8 c p v bp x] F w) :
  CallsIn Fence.wide m prog 99 #[.pointer (some ⟨bp,0,none⟩)] w λe w'=>∃ u,aT u=true/\e=.returned u/\af ⟨w,F⟩ [bJ u x.hands,c8 c p v bp x] w':=by
 refine callsIn_of_wp func99 rfl trivial ?_ rfl;simp only[ntmps99,List.size_toArray,List.length_cons,List.length_nil,Nat.reduceAdd,Nat.reduceSub,Array.replicate_succ,Array.replicate_zero,List.push_toArray,List.append_toArray,List.nil_append,List.cons_append]
 gi_wp2
 refine⟨trivial,λh=>by simp[Fence.wide]at h,(callsIn_wide.2 (sx hp hv hx h)).mono ?_⟩;rintro e w1 ⟨rfl,hh⟩;cases Kw:x.ly with
 | none =>
  have e0:((x.many:Nat):Int)=0:=by simp[bP.many,Kw]
  have eh:x.hands=[]:=by simp[bP.hands,Kw]
  rw[e0]
  gi_wp2
  have h2:=hh.d8 (e := 3) (sz:=1);refine bodyPost_ret (results_tmp rfl _ _ _) rfl ⟨.slice none 0 0,rfl,rfl,?_⟩;rw[eh];exact h2
 | some l =>
  obtain⟨hlb,hb0⟩:=hx.lay l Kw;have e0:¬ ((x.many:Nat):Int)=0:=by simp only[bP.many,Kw];omega
  have eh:x.hands=x.bt.take 1++l.ls:=by simp[bP.hands,Kw]
  obtain⟨bv,bl,fi,h2⟩:=hZ Kw hh;have hbl:=aA (h2.sel [1]);have hsl:=aZ (h2.sel [2]);obtain⟨a0,c0,rfl⟩:=cS hsl;obtain⟨a1,c1,hcv⟩:∃ a1 c1,Ev.cutV 1 (.slice a0 x.bt.length c0) 0 1=.slice a1 1 c1:=by
   cases a0 with
   | none=>exact⟨none,c0-0,by simp[Ev.cutV]⟩
   | some a=>exact⟨_,c0-0,by simp only[Ev.cutV,Nat.sub_zero];rfl⟩
  have hcut:∀ w,(Instr.sliceAt 35 (.slice a0 x.bt.length c0) none (some (.int .i64 1)) none).run prog w=.ok (.slice a1 1 c1) w:=by
   obtain⟨i0,hi,hz1,hz0,hz2⟩:=b_;intro w;rw[← hcv];exact wE (kd:=.i64) (.inl ⟨rfl,rfl⟩) rfl hsl underlying35 hi hz1 (Nat.zero_le _) hb0 w
  have TF:∀ w',af ⟨w,F⟩ [ez c p bl l,eQ c p v bp x (.slice a0 x.bt.length c0) (.pointer (some ⟨bl,0,none⟩)),bJ (.slice a0 x.bt.length c0) x.bt] w'->w'.cell? ⟨bp,11,none⟩=some (.slice a0 x.bt.length c0)/\w'.cell? ⟨bp,6,none⟩=some (.pointer (some ⟨bl,0,none⟩))/\af ⟨w,F⟩ [ez c p bl l,eQ c p v bp x (.slice a0 x.bt.length c0) (.pointer (some ⟨bl,0,none⟩)),bJ (.slice a0 x.bt.length c0) x.bt] w':=λw' hh=>⟨cell_of (aA (hh.sel [1])) 11 _ rfl,cell_of (aA (hh.sel [1])) 6 _ rfl,hh⟩
  have hd:=bH h2 ((Below.refl _ w1).drew)
  gi_wp2
  refine wpIn_wide.2 ?_;have NL:∀ w',(w'.cell? ⟨bp,11,none⟩=some (.slice a0 x.bt.length c0)/\w'.cell? ⟨bp,6,none⟩=some (.pointer (some ⟨bl,0,none⟩))/\af ⟨w,F⟩ [ez c p bl l,eQ c p v bp x (.slice a0 x.bt.length c0) (.pointer (some ⟨bl,0,none⟩)),bJ (.slice a0 x.bt.length c0) x.bt] w')->af ⟨w,F⟩ ([ez c p bl l]++[eQ c p v bp x (.slice a0 x.bt.length c0) (.pointer (some ⟨bl,0,none⟩)),bJ (.slice a0 x.bt.length c0) x.bt]) w':=λw' h=>h.2.2
  go_region_held3 (λw'=>w'.cell? ⟨bp,11,none⟩=some (.slice a0 x.bt.length c0)/\w'.cell? ⟨bp,6,none⟩=some (.pointer (some ⟨bl,0,none⟩))/\af ⟨w,F⟩ [ez c p bl l,eQ c p v bp x (.slice a0 x.bt.length c0) (.pointer (some ⟨bl,0,none⟩)),bJ (.slice a0 x.bt.length c0) x.bt] w') ((refine TF _ ?_;first | with_reducible exact hd | with_reducible exact hS5 | with_reducible exact R2 | with_reducible exact Rp | fail)) ((first
   | (go_at_call 103;obtain⟨F1,k1,back⟩:=cU [ez c p bl l] (NL _ (by assumption));have hcon:=callsIn_wide.1 (Ku 0 hp hlb hm k1);(with_reducible refine hcon.mono ?_);clear hcon;rintro e w3 ⟨vr,Uk,rfl,hr⟩;have hH3:=back _ _ hr;clear back k1;obtain⟨ar,cr,rfl⟩:=cS (aZ hH3);have R2:af ⟨w,F⟩ [ez c p bl l,eQ c p v bp x (.slice a0 x.bt.length c0) (.pointer (some ⟨bl,0,none⟩)),bJ (.slice a0 x.bt.length c0) x.bt] w3:=hH3.sel [1,2,3];have hB4:=(Below.refl _ w3).alloc (Nat.le_refl _) (.cells #[.slice a1 1 c1,.slice ar l.ls.length cr] 35);have R3:=bH hH3 hB4;have Rp:=bH R2 hB4;skip)
   | (go_at_call 116;have hcon:=callsIn_wide.1 (Bc 0 (World.alloc_heap_new w3 _) (Cq (lo:=0) (hi:=1) (aZ (R3.sel [3])) rfl (Nat.zero_le _) hb0 hcv) (aZ R3) (by simp;omega) (Nat.le_trans hlb.ls (by decide)));(with_reducible refine hcon.mono ?_);clear hcon;rintro e w5 ⟨vc,rfl,oc,bc⟩;have hS5:=bH Rp bc;have hH5:=sG Rp oc bc;have Ul:=cS (aZ hH5);skip)))
  gi_wp2
  have h6:af ⟨w,F⟩ _ w5:=(hH5.sel [1,2,3,0]).head (b:=lJ c p l (.pointer (some ⟨bl,0,none⟩))) (λF h=>⟨bl,rfl,h⟩);have h7:af ⟨w,F⟩ [c8 c p v bp x,bJ vc (x.bt.take 1++l.ls)] w5:=dG (l:=[bJ vc (x.bt.take 1++l.ls)]) (bv:=.slice a0 x.bt.length c0) Kw rfl (h6.sel [1,2,0,3]);rw[← eh]at h7;refine bodyPost_ret (results_tmp rfl _ _ _) rfl ⟨vc,dm hH5,rfl,h7.sel [1,0]⟩
end Go.Proofs.YtkmccgombmogmaaGreat
namespace Go.Proofs.YtkmccgombmogmaaGreat
open Go.Ev Go.Proofs.Tryz
open Go.RowKit
inductive bV where
 | put (x:gK)
 | get (x:iQ)
 | steal (v:Nat) (x:bP)
def bV.st:bV->Nat
 | .put x=>x.st
 | .get x=>x.st
 | .steal _ x=>x.st
def bV.step(c:aU)(p:Nat)(M:bV)(m:bO):bV×bO :=
 match M with
 | .put x=>(.put (aO c p x m).1,(aO c p x m).2)
 | .get x=>(.get (aM c p x m).1,(aM c p x m).2)
 | .steal v x=>(.steal v (ai c p v x m).1,(ai c p v x m).2)
def bV.hands:bV->List Int
 | .put x=>x.hs
 | .get x=>if x.has then [x.sn] else []
 | .steal _ x=>x.hands
def bV.got:bV->Int
 | .put _=>-1
 | .get x=>if x.has then x.sn else -1
 | .steal _ x=>if x.got.2 then x.got.1 else -1
def bV.over:bV->List Int
 | .put x=>if x.st=0 then x.hs else []
 | .get _=>[]
 | .steal _ x=>x.left
structure ct where
 kd:Int
 cv:Int
 cg:Int
 dE:Option bV
 dq:kC
 gn:Bool
 rs:List Int
structure aI where
 m:bO
 ow:List ct
 pts:Int
 bad:Bool
def aI.own(x:aI)(p:Nat)(o:ct):aI:=⟨x.m,x.ow.set p o,x.pts,x.bad⟩
def aI.holds(x:aI)(is:Bool):aI:=⟨x.m,x.ow,IntKind.i64.wrap (x.pts+1),x.bad || !is⟩
def ct.fA(o:ct)(d:kC):ct:=⟨o.kd,o.cv,o.cg,o.dE,d,o.gn,o.rs⟩
def lG(x:kC):kC:=if aW x.w=0 then x else ⟨fM x.w 1,x.sl⟩
def cE(x:kC):kC:=⟨if aW x.w=0 then x.w else fM x.w (cJ (aW x.w)),x.sl⟩
def dn(c:aU)(x:kC):List Int:=(bj c x).take (cJ (aW x.w)).toNat
def bE(c:aU)(x:aI)(p:Nat)(o:ct)(M:bV):aI :=
 match M with
 | .put u=>if u.st=0 then (x.own p (o.fA (cW c o.dq o.cg).1)).holds (decide ((cW c o.dq o.cg).2=u.hs)) else x
 | .get u=>if u.st=0 then (x.own p (o.fA (lG o.dq))).holds (decide ((bj c o.dq).headD 0=(if u.has then u.sn else 0))&&(decide (aW o.dq.w≠0)==u.has)) else x
 | .steal v u =>
  if o.gn=false/\(u.st=0\/0<u.many) then
   match x.ow[v]? with
   | some ov=>((x.own v (ov.fA (cE ov.dq))).own p ⟨o.kd,o.cv,o.cg,o.dE,o.dq,true,u.hands.drop 1⟩).holds (decide (dn c ov.dq=u.hands))
   | none=>x
  else if u.st=0 then
   (x.own p (o.fA (dh c o.dq (o.rs.take (tV c o.dq o.rs))))).holds (decide (o.rs.drop (tV c o.dq o.rs)=u.left))
  else x
def iD(c:aU)(m:bO)(p:Nat):List Int:=(eH (ld m (c.word p))).map (λi=>IntKind.i64.wrap (ld m (c.slot p i)))
def sameAt(c:aU)(x:aI)(q:Nat):Bool:=match x.ow[q]? with | some oq=>decide (iD c x.m q=bj c oq.dq) | none=>true
def sH(c:aU)(x:aI):aI:=⟨x.m,x.ow,x.pts,x.bad || !((List.range c.n).all (sameAt c x))⟩
structure nR where
 kd:Int
 got:Int
 over:List Int
def ct.now(o:ct)(M:Option bV):ct:=⟨o.kd,o.cv,o.cg,M,o.dq,o.gn,o.rs⟩
def mO(c:aU)(x:aI)(p:Nat)(o:ct)(M:bV):aI :=
 sH c (bE c (aI.own ⟨(M.step c p x.m).2,x.ow,x.pts,x.bad⟩ p (o.now (some (M.step c p x.m).1))) p (o.now (some (M.step c p x.m).1)) (M.step c p x.m).1)
def cK(c:aU)(x:aI)(p:Nat)(o:ct)(M:bV):aI×Option nR :=
 if (M.step c p x.m).1.st=0 then
  (match (mO c x p o M).ow[p]? with
   | some o2=>(mO c x p o M).own p (o2.now none)
   | none=>mO c x p o M,some ⟨o.kd,(M.step c p x.m).1.got,(M.step c p x.m).1.over⟩)
 else (mO c x p o M,none)
def iE(c:aU)(p:Nat):bV->Prop
 | .put x=>mb c x
 | .get x=>y8 x
 | .steal v x=>fH x/\v<c.n/\v≠p
structure OQ(c:aU)(p:Nat)(o:ct):Prop where
 dq:eU c o.dq
 rs:o.rs.length<=64
 dE:∀ M,o.dE=some M->iE c p M/\M.st≠0
 cv:∀ v u,o.dE=some (.steal v u)->o.cv=(v:Int)
structure Rq(c:aU)(x:aI):Prop where
 mem:bY c x.m
 sl:lr c x.m
 len:x.ow.length=c.n
 ow:∀ (p:Nat) o,x.ow[p]? = some o->OQ c p o
theorem HL(c:aU){p q:Nat}(h:p<q):c.off p+(6+c.q)<=c.off q:=by
 unfold aU.off;have:(p+1)*(6+c.q)<=q*(6+c.q):=Nat.mul_le_mul_right _ h;rw[Nat.succ_mul]at this;omega
theorem nS(c:aU){p q:Nat}(h:p≠q):c.off p+(6+c.q)<=c.off q\/c.off q+(6+c.q)<=c.off p:=by
 rcases Nat.lt_or_gt_of_ne h with h | h
 ·exact .inl (HL c h)
 ·exact .inr (HL c h)
theorem uO(c:aU)(p q:Nat)(i:Int):c.word p≠c.slot q i:=by
 have:=c.aC i;unfold aU.word aU.slot
 by_cases h:p=q
 ·subst h;omega
 ·rcases nS c h with h | h<;>omega
theorem DT(c:aU){p q:Nat}(h:p≠q):c.word p≠c.word q:=by
 unfold aU.word;rcases nS c h with h | h<;>omega
theorem DU(c:aU){p q:Nat}(h:p≠q)(i j:Int):c.slot p i≠c.slot q j:=by
 have:=c.aC i;have:=c.aC j;unfold aU.slot;rcases nS c h with h | h<;>omega
theorem uP(c:aU)(p:Nat)(i j:Int):c.slot p i=c.slot p j↔c.ae i=c.ae j:=by
 unfold aU.slot;omega
theorem wT{m:bO}{a:Nat}(ha:a<m.cells.length)(v:Int)(b:Nat):ld (m.put a v) b=if b=a then v else ld m b:=by
 unfold ld bO.put;simp only[List.getD_eq_getElem?_getD]
 by_cases e:b=a
 ·subst e
  rw[if_pos rfl,List.getElem?_set_self ha];rfl
 ·rw[if_neg e,List.getElem?_set_ne (Ne.symm e)]
theorem o6(c:aU){i j:Int}(h1:i<j)(h2:j<i+(c.q:Int)):c.ae i≠c.ae j:=by
 have hq:=c.qb;intro e;unfold aU.ae at e;have a1:=Int.emod_nonneg i (b:=(c.q:Int)) (by omega);have a2:=Int.emod_nonneg j (b:=(c.q:Int)) (by omega);have e2:j%(c.q:Int)=i%(c.q:Int):=by omega
 have e3:(j-i)%(c.q:Int)=0:=Int.emod_eq_emod_iff_emod_sub_eq_zero.1 e2;rw[Int.emod_eq_of_lt (by omega) (by omega)]at e3;omega
theorem aU.q6(c:aU):c.q=2\/c.q=4\/c.q=8\/c.q=16\/c.q=32\/c.q=64:=by
 have:=(hY c.h).2.1;omega
theorem uQ(c:aU)(i:Int):c.ae (i%4294967296)=c.ae i:=by
 unfold aU.ae;rw[Int.emod_emod_of_dvd];rcases c.q6 with h | h | h | h | h | h<;>rw[h]<;>decide
theorem o7(c:aU)(p:Nat)(i:Int):c.slot p (i%4294967296)=c.slot p i:=by
 unfold aU.slot;rw[uQ]
structure kD(c:aU)(B w:Int):Prop where
 u:fv w
 hd:aj w<=B
 sz:aW w<=(c.q:Int)
theorem kD.tl{c:aU}{B w:Int}(h:kD c B w)(hB:B<=2147483648):cI w=aj w+aW w/\0<=aj w/\0<=aW w:=by
 have h1:=bR h.u;have h2:=bM w;have h3:=h.hd;have h4:=h.sz;have h5:=c.qb;have h6:aW w=(cI w-aj w)%4294967296:=rfl;omega
theorem kD.mono{c:aU}{B B' w:Int}(h:kD c B w)(hB:B<=B'):kD c B' w:=⟨h.u,Int.le_trans h.hd hB,h.sz⟩
theorem Kx{x y:Int}(h1:aj x=aj y)(h2:cI x=cI y):x=y:=by
 unfold aj cI at *;omega
theorem OS{x d:Int}(h:fv x):aj (fM x d)=(aj x+d)%4294967296:=by
 have:=bM x;unfold fM na;unfold aj at *;omega
theorem LQ(x d:Int):cI (fM x d)=cI x:=by
 have:=bM x;unfold fM na;unfold cI at *;omega
section
variable{c:aU}{B w d:Int}
theorem kD.gain(h:kD c B w)(hB:B<=1073741824)(h1:0<=d)(h2:d<=aW w):kD c (B+d) (fM w d)/\aj (fM w d)=aj w+d/\aW (fM w d)=aW w-d/\cI (fM w d)=cI w:=by
 obtain⟨t1,t2,t3⟩:=h.tl (by omega);have h3:=h.hd;have h4:=h.sz;have h5:=c.qb;have e1:aj (fM w d)=aj w+d:=by rw[OS h.u];omega
 have e2:aW (fM w d)=aW w-d:=by
  show(cI (fM w d)-aj (fM w d))%4294967296=_;rw[LQ,e1];omega
 exact⟨⟨y6 h.u d,by omega,by omega⟩,e1,e2,LQ _ _⟩
theorem kD.move(h:kD c B w)(hB:B<=1073741824)(h1:0<=aW w+d)(h2:aW w+d<=(c.q:Int)):kD c B (dQ w d)/\aj (dQ w d)=aj w/\aW (dQ w d)=aW w+d/\cI (dQ w d)=cI w+d:=by
 obtain⟨t1,t2,t3⟩:=h.tl (by omega);have h3:=h.hd;have h4:=h.sz;have h5:=c.qb;have e1:aj (dQ w d)=aj w:=LM h.u;have e0:cI (dQ w d)=cI w+d:=by rw[LN h.u];omega
 have e2:aW (dQ w d)=aW w+d:=by
  show(cI (dQ w d)-aj (dQ w d))%4294967296=_;rw[e0,e1];omega
 exact⟨⟨qo h.u d,by omega,by omega⟩,e1,e2,e0⟩
end
theorem Cr{n:Int}(h:0<=n):0<=cJ n/\cJ n<=n/\(1<=n->1<=cJ n):=by
 unfold cJ;omega
abbrev wd(c:aU)(m:bO)(q:Nat):Int:=ld m (c.word q)
abbrev sl(c:aU)(m:bO)(q:Nat)(i:Int):Int:=ld m (c.slot q i)
inductive dB(c:aU)(own:Prop)(q:Nat)(m m':bO):Prop where
 | none (s:∀ i,sl c m' q i=sl c m q i) (w:wd c m' q=wd c m q)
 | gain (s:∀ i,sl c m' q i=sl c m q i) (d:Int) (h1:1<=d) (h2:d<=aW (wd c m q)) (w:wd c m' q=fM (wd c m q) d)
 | grow (o:own) (s:∀ i,sl c m' q i=sl c m q i) (d:Int) (h1:0<=d) (h2:aW (wd c m q)+d<=(c.q:Int)) (w:wd c m' q=dQ (wd c m q) d)
 | drop (o:own) (s:∀ i,sl c m' q i=sl c m q i) (h2:aW (wd c m q)=(c.q:Int)) (w:wd c m' q=dQ (wd c m q) (-((c.q / 2:Nat):Int)))
 | store (o:own) (w:wd c m' q=wd c m q) (j g:Int) (h1:cI (wd c m q)<=j) (h2:j<aj (wd c m q)+(c.q:Int)) (hg:Gn g) (s:∀ i,sl c m' q i=if c.ae i=c.ae j then g else sl c m q i)
structure Still(c:aU)(q:Nat)(m m':bO):Prop where
 w:wd c m' q=wd c m q
 s:∀ i:Int,aj (wd c m q)<=i->i<cI (wd c m q)->sl c m' q i=sl c m q i
section
variable{c:aU}{own:Prop}{q:Nat}{m m':bO}{B:Int}
theorem Ky(h8:c.q=2\/c.q=4\/c.q=8){n:Int}(h0:0<=n)(h:n<=(c.q:Int)):cJ n<=(c.q:Int)-((c.q / 2:Nat):Int):=by
 unfold cJ;omega
theorem dB.word(h:dB c own q m m')(hw:kD c B (wd c m q))(hB:B<=1073741824):kD c (B+8) (wd c m' q)\/8<c.q:=by
 have hq:=c.qb;obtain⟨t1,t2,t3⟩:=hw.tl (by omega);have hz:=hw.sz;rcases Nat.lt_or_ge 8 c.q with h8 | h8
 ·exact .inr h8
 refine .inl ?_;cases h with
 | none s w=>rw[w];exact hw.mono (by omega)
 | gain s d h1 h2 w=>rw[w];exact(hw.gain hB (by omega) h2).1.mono (by omega)
 | grow o s d h1 h2 w=>rw[w];exact(hw.move hB (by omega) h2).1.mono (by omega)
 | drop o s h2 w=>rw[w];exact(hw.move hB (by omega) (by omega)).1.mono (by omega)
 | store o w j g h1 h2 hg s=>rw[w];exact hw.mono (by omega)
theorem dB.gn(h:dB c own q m m')(hs:∀ i,Gn (sl c m q i))(i:Int):Gn (sl c m' q i):=by
 cases h with
 | none s w=>rw[s];exact hs i
 | gain s d h1 h2 w=>rw[s];exact hs i
 | grow o s d h1 h2 w=>rw[s];exact hs i
 | drop o s h2 w=>rw[s];exact hs i
 | store o w j g h1 h2 hg s =>
  rw[s]
  split
  ·exact hg
  ·exact hs i
structure Kz(c:aU)(B:Int)(m:bO)(v:Nat)(w:Int)(bt:List Int):Prop where
 ok:kD c B w
 ne:1<=aW w
 le:aj w<=aj (wd c m v)
 many:(bt.length:Int)<=cJ (aW w)
 old:aj w=aj (wd c m v)->cJ (aW w)<=aW (wd c m v)
 bt:aj w=aj (wd c m v)->∀ (i:Nat) g,bt[i]? = some g->g=sl c m v (aj w+(i:Int))
theorem Kz.keep{w:Int}{bt:List Int}(h:Kz c B m q w bt)(h8:c.q=2\/c.q=4\/c.q=8)(hr:dB c own q m m')(hw:kD c B (wd c m q))(hB:B<=1073741824):Kz c (B+8) m' q w bt:=by
 have hq:=c.qb;obtain⟨t1,t2,t3⟩:=hw.tl (by omega);obtain⟨u1,u2,u3⟩:=h.ok.tl (by omega);have hz:=hw.sz;have hle:=h.le;have hne:=h.ne;have hold:=Ky h8 (by omega) h.ok.sz;cases hr with
 | none s w=>exact⟨h.ok.mono (by omega),h.ne,by rw[w];exact h.le,h.many,by rw[w];exact h.old,by rw[w];intro e i g hi;rw[s];exact h.bt e i g hi⟩
 | gain s d h1 h2 w =>
  obtain⟨_,e1,_,_⟩:=hw.gain hB (by omega) h2;exact⟨h.ok.mono (by omega),h.ne,by rw[w,e1];omega,h.many,by rw[w,e1];omega,by rw[w,e1];omega⟩
 | grow o s d h1 h2 w =>
  obtain⟨_,e1,e2,_⟩:=hw.move hB (by omega) h2;exact⟨h.ok.mono (by omega),h.ne,by rw[w,e1];omega,h.many,by rw[w,e1,e2];intro e;have:=h.old e;omega,by rw[w,e1];intro e i g hi;rw[s];exact h.bt e i g hi⟩
 | drop o s h2 w =>
  obtain⟨_,e1,e2,_⟩:=hw.move (d:=-((c.q / 2:Nat):Int)) hB (by omega) (by omega);exact⟨h.ok.mono (by omega),h.ne,by rw[w,e1];omega,h.many,by rw[w,e1,e2];intro e;omega,by rw[w,e1];intro e i g hi;rw[s];exact h.bt e i g hi⟩
 | store o w j g h1 h2 hg s =>
  refine⟨h.ok.mono (by omega),h.ne,by rw[w];exact h.le,h.many,by rw[w];exact h.old,?_⟩;rw[w];intro e i g' hi;have hlt:=(List.getElem?_eq_some_iff.1 hi).1;have hm:=h.many;have ho:=h.old e;rw[s,if_neg (o6 c (by omega) (by omega))];exact h.bt e i g' hi
structure Seen(c:aU)(B:Int)(m:bO)(p:Nat)(w:Int):Prop where
 ok:kD c B w
 le:aj w<=aj (wd c m p)
 tl:cI w=cI (wd c m p)
theorem dB.else(h:dB c own q m m')(hn:¬ own)(hw:kD c B (wd c m q))(hB:B<=1073741824):(∀ i,sl c m' q i=sl c m q i)/\aj (wd c m q)<=aj (wd c m' q)/\cI (wd c m' q)=cI (wd c m q):=by
 cases h with
 | none s w=>exact⟨s,by rw[w];exact Int.le_refl _,by rw[w]⟩
 | gain s d h1 h2 w =>
  obtain⟨_,e1,_,e2⟩:=hw.gain hB (by omega) h2;exact⟨s,by rw[w,e1];omega,by rw[w,e2]⟩
 | grow o _ _ _ _ _=>exact absurd o hn
 | drop o _ _ _=>exact absurd o hn
 | store o _ _ _ _ _ _ _=>exact absurd o hn
theorem Seen.keep{w:Int}(h:Seen c B m q w)(hr:dB c own q m m')(hn:¬ own)(hw:kD c B (wd c m q))(hB:B<=1073741824):Seen c (B+8) m' q w:=by
 obtain⟨k1,k2,k3⟩:=hr.else hn hw hB
 exact⟨h.ok.mono (by omega),Int.le_trans h.le k2,h.tl.trans k3.symm⟩
end
def win(f:Int->Int)(h:Int)(n:Nat):List Int:=(List.range n).map (λi:Nat=>f (h+(i:Int)))
theorem Cs(f:Int->Int)(h:Int)(n:Nat):(win f h n).length=n:=by simp[win]
theorem uR{f g:Int->Int}{h:Int}{n:Nat}(e:∀ i:Int,h<=i->i<h+(n:Int)->f i=g i):win f h n=win g h n:=by
 apply List.map_congr_left;intro i hi;rw[List.mem_range]at hi;exact e _ (by omega) (by omega)
theorem o8(f:Int->Int)(h:Int)(n k:Nat):win f h (n+k)=win f h n++win f (h+(n:Int)) k:=by
 unfold win;rw[List.range_add,List.map_append,List.map_map]
 congr 1
 apply List.map_congr_left;intro i _;show f (h+((n+i:Nat):Int))=f (h+(n:Int)+(i:Int))
 congr 1
 omega
theorem sJ(f:Int->Int)(h:Int){n k:Nat}(hk:k<=n):(win f h n).drop k=win f (h+(k:Int)) (n-k):=by
 obtain⟨j,rfl⟩:∃ j,n=k+j:=⟨n-k,by omega⟩;rw[o8,show k+j-k=j by omega];exact List.drop_left' (Cs f h k)
theorem sN(f:Int->Int)(h:Int){n k:Nat}(hk:k<=n):(win f h n).take k=win f h k:=by
 obtain⟨j,rfl⟩:∃ j,n=k+j:=⟨n-k,by omega⟩;rw[o8,List.take_left' (Cs f h k)]
theorem sO{f:Int->Int}{h:Int}{l:List Int}(e:∀ (i:Nat) g,l[i]? = some g->f (h+(i:Int))=g):win f h l.length=l:=by
 apply List.ext_getElem (by simp[win]);intro i h1 h2;have:=e i l[i] (List.getElem?_eq_getElem h2);simpa[win] using this
def rl(c:aU)(m:bO)(q:Nat):List Int:=win (sl c m q) (aj (wd c m q)) (aW (wd c m q)).toNat
theorem i9(c:aU)(d:kC):bj c d=win (λi=>d.sl.getD (c.ae i) 0) (aj d.w) (aW d.w).toNat:=by
 unfold bj win bf;apply List.map_congr_left;intro i _;show d.sl.getD (c.ae ((aj d.w+(i:Int))%4294967296)) 0=_;rw[uQ]
theorem HM(x:Int):0<=aW x/\aW x<4294967296:=by
 unfold aW;omega
theorem HN{c:aU}{m:bO}{q:Nat}(hs:∀ i,Gn (sl c m q i))(hz:aW (wd c m q)<=65536):iD c m q=rl c m q:=by
 unfold iD eH rl win;rw[if_neg (by show ¬ 65536<aW (wd c m q);omega),List.map_map];apply List.map_congr_left;intro i _;show IntKind.i64.wrap (ld m (c.slot q ((aj (ld m (c.word q))+(i:Int))%4294967296)))=_;rw[o7,oY (hs _)]
section
variable{c:aU}{d:kC}{B:Int}
theorem KA(hx:eU c d)(hw:kD c B d.w)(hB:B<=1073741824){k:Nat}(hk:(k:Int)<=aW d.w):eU c ⟨fM d.w (k:Int),d.sl⟩/\bj c ⟨fM d.w (k:Int),d.sl⟩=(bj c d).drop k:=by
 obtain⟨h1,e1,e2,e3⟩:=hw.gain (d:=(k:Int)) hB (by omega) hk;refine⟨⟨h1.u,hx.sl,h1.sz⟩,?_⟩;rw[i9,i9,sJ _ _ (by omega)];show win (λi=>d.sl.getD (c.ae i) 0) (aj (fM d.w (k:Int))) (aW (fM d.w (k:Int))).toNat=_;rw[e1,e2]
 congr 1
 omega
theorem KB(hx:eU c d)(hw:kD c B d.w)(hB:B<=1073741824){k:Nat}(hk:(k:Int)<=aW d.w):eU c ⟨dQ d.w (-(k:Int)),d.sl⟩/\bj c ⟨dQ d.w (-(k:Int)),d.sl⟩=(bj c d).take ((aW d.w).toNat-k):=by
 have hz:=hw.sz;obtain⟨h1,e1,e2,e3⟩:=hw.move (d:=-(k:Int)) hB (by omega) (by omega);refine⟨⟨h1.u,hx.sl,h1.sz⟩,?_⟩;rw[i9,i9,sN _ _ (by omega)];show win (λi=>d.sl.getD (c.ae i) 0) (aj (dQ d.w (-(k:Int)))) (aW (dQ d.w (-(k:Int)))).toNat=_;rw[e1,e2]
 congr 1
 omega
theorem Ct(hx:eU c d)(hw:kD c B d.w)(hB:B<=1073741824)(hz:aW d.w<(c.q:Int))(g:Int):eU c (d7 c d g)/\kD c B (d7 c d g).w/\bj c (d7 c d g)=bj c d++[g]:=by
 obtain⟨t1,t2,t3⟩:=hw.tl (by omega);obtain⟨h1,e1,e2,e3⟩:=hw.move (d:=1) hB (by omega) (by omega);refine⟨(uL hx hz g).1,h1,?_⟩;rw[i9,i9];show win (λi=>(d.sl.set (c.ae (cI d.w)) g).getD (c.ae i) 0) (aj (dQ d.w 1)) (aW (dQ d.w 1)).toNat=_;rw[e1,e2,show(aW d.w+1).toNat=(aW d.w).toNat+1 by omega,o8];have hl:=c.aC (cI d.w);have hsl:=hx.sl
 congr 1
 ·apply uR
  intro i i1 i2;have:=o6 c (i:=i) (j:=cI d.w) (by omega) (by omega);simp only[List.getD_eq_getElem?_getD];rw[List.getElem?_set_ne (Ne.symm this)]
 ·have e5:aj d.w+(((aW d.w).toNat:Nat):Int)=cI d.w:=by omega
  rw[e5];simp only[win,List.range_succ,List.range_zero,List.nil_append,List.map_cons,List.map_nil,List.getD_eq_getElem?_getD];simp[hsl,hl]
theorem Nl(hx:eU c d)(hw:kD c B d.w)(hB:B<=1073741824)(l:List Int)(hz:aW d.w+(l.length:Int)<=(c.q:Int)):eU c (dh c d l)/\aj (dh c d l).w=aj d.w/\cI (dh c d l).w=cI d.w+(l.length:Int)/\bj c (dh c d l)=bj c d++l:=by
 induction l generalizing d with
 | nil=>exact⟨hx,rfl,by simp[dh],by simp[dh]⟩
 | cons g l ih =>
  simp only[List.length_cons]at hz;have hnn:=HM d.w;obtain⟨k1,k2,k3⟩:=Ct hx hw hB (by omega) g;obtain⟨h1,e1,e2,e3⟩:=hw.move (d:=1) hB (by omega) (by omega);obtain⟨j1,j2,j3,j4⟩:=ih k1 k2 (by show aW (dQ d.w 1)+_<=_;omega);refine⟨j1,?_,?_,?_⟩
  ·show aj (dh c (d7 c d g) l).w=_
   rw[j2];exact e1
  ·show cI (dh c (d7 c d g) l).w=_
   rw[j3];show cI (dQ d.w 1)+_=_;simp only[List.length_cons];omega
  ·show bj c (dh c (d7 c d g) l)=_
   rw[j4,k3];simp
end
section
variable{c:aU}{m m':bO}{q:Nat}{B:Int}
theorem lw(h:∀ i:Int,aj (wd c m q)<=i->i<aj (wd c m q)+((aW (wd c m q)).toNat:Int)->sl c m' q i=sl c m q i)(w:wd c m' q=wd c m q):rl c m' q=rl c m q:=by
 unfold rl;rw[w];exact uR h
theorem wU(hw:kD c B (wd c m q))(hB:B<=1073741824)(s:∀ i,sl c m' q i=sl c m q i){k:Nat}(hk:(k:Int)<=aW (wd c m q))(w:wd c m' q=fM (wd c m q) (k:Int)):rl c m' q=(rl c m q).drop k:=by
 obtain⟨h1,e1,e2,e3⟩:=hw.gain (d:=(k:Int)) hB (by omega) hk;unfold rl;rw[sJ _ _ (by omega),w,e1,e2,show sl c m' q=sl c m q from funext s]
 congr 1
 omega
theorem Cu(hw:kD c B (wd c m q))(hB:B<=1073741824)(s:∀ i,sl c m' q i=sl c m q i){k:Nat}(hk:(k:Int)<=aW (wd c m q))(w:wd c m' q=dQ (wd c m q) (-(k:Int))):rl c m' q=(rl c m q).take ((aW (wd c m q)).toNat-k):=by
 have hz:=hw.sz;obtain⟨h1,e1,e2,e3⟩:=hw.move (d:=-(k:Int)) hB (by omega) (by omega);unfold rl;rw[sN _ _ (by omega),w,e1,e2,show sl c m' q=sl c m q from funext s]
 congr 1
 omega
theorem Cv(hw:kD c B (wd c m q))(hB:B<=1073741824)(s:∀ i,sl c m' q i=sl c m q i){l:List Int}(hk:aW (wd c m q)+(l.length:Int)<=(c.q:Int))(w:wd c m' q=dQ (wd c m q) (l.length:Int))(hl:∀ (i:Nat) g,l[i]? = some g->sl c m q (cI (wd c m q)+(i:Int))=g):rl c m' q=rl c m q++l:=by
 obtain⟨t1,t2,t3⟩:=hw.tl (by omega);obtain⟨h1,e1,e2,e3⟩:=hw.move (d:=(l.length:Int)) hB (by omega) hk;unfold rl;rw[w,e1,e2,show sl c m' q=sl c m q from funext s,show(aW (wd c m q)+(l.length:Int)).toNat=(aW (wd c m q)).toNat+l.length by omega,o8]
 congr 1
 rw[show aj (wd c m q)+(((aW (wd c m q)).toNat:Nat):Int)=cI (wd c m q) by omega];exact sO hl
end
structure mV(c:aU)(m:bO)(q:Nat)(d:kC):Prop where
 ok:eU c d
 w:d.w=wd c m q
 l:bj c d=rl c m q
section
variable{c:aU}{m m':bO}{q:Nat}{B:Int}{d:kC}
theorem mV.still(h:mV c m q d)(hl:rl c m' q=rl c m q)(w:wd c m' q=wd c m q):mV c m' q d:=⟨h.ok,h.w.trans w.symm,h.l.trans hl.symm⟩
theorem mV.gain(h:mV c m q d)(hw:kD c B (wd c m q))(hB:B<=1073741824)(s:∀ i,sl c m' q i=sl c m q i){k:Nat}(hk:(k:Int)<=aW (wd c m q))(w:wd c m' q=fM (wd c m q) (k:Int)):mV c m' q ⟨fM d.w (k:Int),d.sl⟩:=by
 have hw':kD c B d.w:=by rw[h.w];exact hw
 obtain⟨k1,k2⟩:=KA h.ok hw' hB (by rw[h.w];exact hk);exact⟨k1,by rw[w,← h.w],by rw[k2,h.l,wU hw hB s hk w]⟩
theorem mV.back(h:mV c m q d)(hw:kD c B (wd c m q))(hB:B<=1073741824)(s:∀ i,sl c m' q i=sl c m q i){k:Nat}(hk:(k:Int)<=aW (wd c m q))(w:wd c m' q=dQ (wd c m q) (-(k:Int))):mV c m' q ⟨dQ d.w (-(k:Int)),d.sl⟩:=by
 have hw':kD c B d.w:=by rw[h.w];exact hw
 obtain⟨k1,k2⟩:=KB h.ok hw' hB (by rw[h.w];exact hk);exact⟨k1,by rw[w,← h.w],by rw[k2,h.l,h.w,Cu hw hB s hk w]⟩
theorem mV.lay(h:mV c m q d)(hw:kD c B (wd c m q))(hB:B<=1073741824)(s:∀ i,sl c m' q i=sl c m q i){l:List Int}(hk:aW (wd c m q)+(l.length:Int)<=(c.q:Int))(w:wd c m' q=dQ (wd c m q) (l.length:Int))(hl:∀ (i:Nat) g,l[i]? = some g->sl c m q (cI (wd c m q)+(i:Int))=g):mV c m' q (dh c d l):=by
 have hw':kD c B d.w:=by rw[h.w];exact hw
 obtain⟨h1,e1,e2,e3⟩:=hw.move (d:=(l.length:Int)) hB (by have:=HM (wd c m q);omega) hk;obtain⟨k1,k2,k3,k4⟩:=Nl h.ok hw' hB l (by rw[h.w];exact hk);refine⟨k1,?_,by rw[k4,h.l,Cv hw hB s hk w hl]⟩;rw[w];exact Kx (by rw[k2,e1,h.w]) (by rw[k3,e3,h.w])
end
section
variable{c:aU}{m:bO}{p:Nat}
theorem gQ(hm:bY c m)(hp:p<c.n)(v:Int)(q:Nat):wd c (m.put (c.word p) v) q=if q=p then v else wd c m q:=by
 show ld _ _=_;rw[wT (hm.fG hp)]
 by_cases e:q=p
 ·rw[if_pos e,if_pos (by rw[e])]
 ·rw[if_neg e,if_neg (DT c e)]
theorem o_(hm:bY c m)(hp:p<c.n)(v:Int)(q:Nat)(i:Int):sl c (m.put (c.word p) v) q i=sl c m q i:=by
 show ld _ _=_;rw[wT (hm.fG hp),if_neg (Ne.symm (uO c p q i))]
theorem qU(hm:bY c m)(hp:p<c.n)(j v:Int)(q:Nat):wd c (m.put (c.slot p j) v) q=wd c m q:=by
 show ld _ _=_;rw[wT (hm.iP hp j),if_neg (uO c q p j)]
theorem pf(hm:bY c m)(hp:p<c.n)(j v:Int)(q:Nat)(i:Int):sl c (m.put (c.slot p j) v) q i=if q=p/\c.ae i=c.ae j then v else sl c m q i:=by
 show ld _ _=_;rw[wT (hm.iP hp j)]
 by_cases e:q=p
 ·subst e
  by_cases e2:c.ae i=c.ae j
  ·rw[if_pos ((uP c q i j).2 e2),if_pos ⟨rfl,e2⟩]
  ·rw[if_neg (λh=>e2 ((uP c q i j).1 h)),if_neg (λh=>e2 h.2)]
 ·rw[if_neg (DU c e i j),if_neg (λh=>e h.1)]
end
structure Quiet(c:aU)(p:Nat)(m m':bO):Prop where
 mem:bY c m'
 ring:∀ q,q<c.n->dB c (p=q) q m m'
 w:∀ q,q<c.n->wd c m' q=wd c m q
 l:∀ q,q<c.n->rl c m' q=rl c m q
structure Rings(c:aU)(B:Int)(m:bO):Prop where
 mem:bY c m
 sl:lr c m
 w:∀ q,q<c.n->kD c B (wd c m q)
 h8:c.q=2\/c.q=4\/c.q=8
 hB:B<=1073741824
section
variable{c:aU}{m:bO}{p:Nat}{B:Int}
theorem Rings.tick(h:Rings c B m):Quiet c p m m.tick:=⟨h.mem.tick,λq _=>.none (λ_=>rfl) rfl,λq _=>rfl,λq _=>rfl⟩
theorem Rings.store(h:Rings c B m)(hp:p<c.n){j g:Int}(hg:Gn g)(h1:cI (wd c m p)<=j)(h2:j<aj (wd c m p)+(c.q:Int)):Quiet c p m (m.put (c.slot p j) g):=by
 have hw:=λq hq=>(h.w q hq).tl (by have:=h.hB;omega)
 refine⟨h.mem.put _ (OO hg),λq hq=>?_,λq hq=>qU h.mem hp j g q,λq hq=>?_⟩
 ·by_cases e:p=q
  ·subst e
   exact .store rfl (qU h.mem hp j g p) j g h1 h2 hg (λi=>by rw[pf h.mem hp];simp)
  ·exact .none (λi=>by rw[pf h.mem hp,if_neg (λh=>e h.1.symm)]) (qU h.mem hp j g q)
 ·refine lw (λi i1 i2=>?_) (qU h.mem hp j g q)
  rw[pf h.mem hp]
  by_cases e:q=p
  ·subst e
   obtain⟨t1,t2,t3⟩:=hw q hq;rw[if_neg (λh=>o6 c (by omega) (by omega) h.2)]
  ·rw[if_neg (λh=>e h.1)]
theorem Rings.next(h:Rings c B m){own:Nat->Prop}{m':bO}(hm:bY c m')(hr:∀ q,q<c.n->dB c (own q) q m m')(hB:B+8<=1073741824):Rings c (B+8) m' :=
 ⟨hm,λq hq i=>(hr q hq).gn (h.sl q hq) i,λq hq=>((hr q hq).word (h.w q hq) h.hB).resolve_right (by have:=h.h8;omega),h.h8,hB⟩
end
structure sR(c:aU)(B:Int)(m:bO)(p:Nat)(u:gK):Prop where
 ok:mb c u
 gg:Gn u.gg
 hs:u.hs=[u.gg]
 nq:u.st=2\/u.st=3->Seen c B m p u.w/\aW u.w<(c.q:Int)
 s3:u.st=3->sl c m p (cI u.w)=u.gg
 LR:u.st=4\/u.st=5->kD c B u.w/\aW u.w=(c.q:Int)/\∀ (i:Nat) g,u.ts[i]? = some g->g=sl c m p (cI u.w-((c.q / 2:Nat):Int)+(i:Int))
 s5:u.st=5->u.ts.length=c.q / 2
section
variable{c:aU}{B:Int}{m m':bO}{p:Nat}{own:Prop}
theorem sR.keep{u:gK}(h:sR c B m p u)(hr:dB c own p m m')(hn:¬ own)(hw:kD c B (wd c m p))(hB:B<=1073741824):sR c (B+8) m' p u:=by
 obtain⟨k1,k2,k3⟩:=hr.else hn hw hB
 exact⟨h.ok,h.gg,h.hs,λe=>⟨(h.nq e).1.keep hr hn hw hB,(h.nq e).2⟩,λe=>by rw[k1];exact h.s3 e,λe=>⟨(h.LR e).1.mono (by omega),(h.LR e).2.1,λi g hi=>by rw[k1];exact(h.LR e).2.2 i g hi⟩,h.s5⟩
theorem Nm(c:aU)(p:Nat)(w:Int)(n:Nat):c.slot p (I5 c w n)=c.slot p (cI w-((c.q / 2:Nat):Int)+(n:Int)):=by
 unfold I5;exact o7 c p _
theorem Cw(hR:Rings c B m){d:kC}(hp:p<c.n)(hd:mV c m p d)(g:Int):(aW (wd c m p)<(c.q:Int)->(∀ i,sl c m' p i=sl c m p i)->wd c m' p=dQ (wd c m p) 1->sl c m p (cI (wd c m p))=g->mV c m' p (cW c d g).1/\(cW c d g).2=[]/\rl c m' p=rl c m p++[g])/\
  (aW (wd c m p)=(c.q:Int)->(∀ i,sl c m' p i=sl c m p i)->wd c m' p=dQ (wd c m p) (-((c.q / 2:Nat):Int))->mV c m' p (cW c d g).1/\(cW c d g).2=(rl c m p).drop (c.q / 2)++[g]/\rl c m' p=(rl c m p).take (c.q / 2)):=by
 have hw:=hR.w p hp;have h8:=hR.h8;constructor
 ·intro hz hs hw' hg
  unfold cW;rw[if_pos (by rw[hd.w];exact hz)]
  have k:=hd.lay hw hR.hB hs (l:=[g]) (by simp;omega) hw' (λi g' hi=>by
   match i with
   | 0=>cases hi;simpa using hg
   | i+1=>cases hi)
  exact⟨k,rfl,by rw[← k.l,← hd.l];exact(Ct hd.ok (B:=B) (by rw[hd.w];exact hw) hR.hB (by rw[hd.w];exact hz) g).2.2⟩
 ·intro hz hs hw'
  unfold cW;rw[if_neg (by rw[hd.w];omega)];have k:=hd.back hw hR.hB hs (k:=c.q / 2) (by omega) hw';have k2:=Cu hw hR.hB hs (k:=c.q / 2) (by omega) hw';refine⟨k,by rw[← hd.l],?_⟩;rw[k2,hz]
  congr 1
  omega
theorem zf(hR:Rings c B m)(hp:p<c.n){u:gK}(h:sR c B m p u)(h0:u.st≠0) :
  bY c (aO c p u m).2/\(∀ q,q<c.n->dB c (p=q) q m (aO c p u m).2)/\(∀ q,q<c.n->q≠p->wd c (aO c p u m).2 q=wd c m q/\rl c (aO c p u m).2 q=rl c m q)/\(aO c p u m).1.gg=u.gg/\
  ((aO c p u m).1.st≠0->sR c (B+8) (aO c p u m).2 p (aO c p u m).1/\Quiet c p m (aO c p u m).2)/\
  ((aO c p u m).1.st=0->∀ d,mV c m p d->mV c (aO c p u m).2 p (cW c d u.gg).1/\(cW c d u.gg).2=(aO c p u m).1.hs/\(rl c (aO c p u m).2 p++(aO c p u m).1.hs).Perm (rl c m p++[u.gg])):=by
 have hok:=(sc hp h.ok hR.mem).1;have hw:=hR.w p hp;have hB:=hR.hB;have h8:=hR.h8;obtain⟨t1,t2,t3⟩:=hw.tl (by omega);have hz:=hw.sz;have qt:∀ {m':bO},Quiet c p m m'->bY c m'/\(∀ q,q<c.n->dB c (p=q) q m m')/\(∀ q,q<c.n->q≠p->wd c m' q=wd c m q/\rl c m' q=rl c m q):=λk=>⟨k.mem,k.ring,λq hq _=>⟨k.w q hq,k.l q hq⟩⟩
 have hgg:=h.gg;have I6:=h.hs;have nq:=h.nq;have s3:=h.s3;have LR:=h.LR;have s5:=h.s5;have hts:=h.ok.ts;have R4:=h.ok.t4;have Ef:=h.ok.w;obtain⟨st,gg,w,ts,hs⟩:=u;dsimp only at hgg I6 nq s3 LR s5 hts R4 Ef h0;subst I6
 match st,h.ok.st with
 | 0,_=>exact absurd rfl h0
 | 1,_ =>
  have e:aO c p ⟨1,gg,w,ts,[gg]⟩ m=(⟨if (c.q:Int)<=aW (ld m (c.word p)) then 4 else 2,gg,ld m (c.word p),[],[gg]⟩,m.tick):=rfl;rw[e]at hok ⊢;obtain⟨a1,a2,a3⟩:=qt (hR.tick (p:=p));refine⟨a1,a2,a3,rfl,λ_=>⟨⟨hok,hgg,rfl,?_,?_,?_,?_⟩,hR.tick⟩,?_⟩
  ·intro he
   have hlt:¬ (c.q:Int)<=aW (wd c m p):=λhh=>by
    dsimp only at he;rw[if_pos hh]at he;omega
   exact⟨⟨hw.mono (by omega),Int.le_refl _,rfl⟩,by show aW (wd c m p)<_;omega⟩
  ·intro he
   dsimp only at he
   split at he<;>cases he
  ·intro he
   have hle:(c.q:Int)<=aW (wd c m p):=Classical.byContradiction λhh=>by
    dsimp only at he;rw[if_neg hh]at he;omega
   exact⟨hw.mono (by omega),by show aW (wd c m p)=_;omega,λi g hi=>by cases hi⟩
  ·intro he
   dsimp only at he
   split at he<;>cases he
  ·intro he
   dsimp only at he
   split at he<;>cases he
 | 2,_ =>
  obtain⟨k1,k2⟩:=nq (.inl rfl);obtain⟨u1,u2,u3⟩:=k1.ok.tl (by omega);have e:aO c p ⟨2,gg,w,ts,[gg]⟩ m=(⟨3,gg,w,ts,[gg]⟩,m.put (c.slot p (cI w)) gg):=rfl;rw[e]at hok ⊢;have kl:=k1.le;have kt:=k1.tl;have Qt:=hR.store hp hgg (j:=cI w) (by omega) (by omega);obtain⟨a1,a2,a3⟩:=qt Qt;refine⟨a1,a2,a3,rfl,λ_=>⟨⟨hok,hgg,rfl,λ_=>⟨⟨k1.ok.mono (by omega),by show _<=aj (wd c _ p);rw[Qt.w p hp];exact kl,by show _=cI (wd c _ p);rw[Qt.w p hp];exact kt⟩,k2⟩,λ_=>?_,λhe=>(by rcases he with he | he<;>cases he),λhe=>(by cases he)⟩,Qt⟩,λhe=>(by cases he)⟩;show sl c (m.put (c.slot p (cI w)) gg) p (cI w)=gg;rw[pf hR.mem hp,if_pos ⟨rfl,rfl⟩]
 | 3,_ =>
  obtain⟨k1,k2⟩:=nq (.inr rfl);have k3:=s3 rfl
  by_cases hc:ld m (c.word p)=w
  ·have e:aO c p ⟨3,gg,w,ts,[gg]⟩ m=(⟨0,gg,w,ts,[]⟩,m.put (c.word p) (dQ w 1)):=by simp only[aO,if_pos hc]
   rw[e]at hok ⊢;have nT:wd c m p=w:=hc;have hw':wd c (m.put (c.word p) (dQ w 1)) p=dQ (wd c m p) 1:=by rw[gQ hR.mem hp,if_pos rfl,nT]
   have hs':∀ q i,sl c (m.put (c.word p) (dQ w 1)) q i=sl c m q i:=λq i=>o_ hR.mem hp _ q i
   have ho:∀ q,q≠p->wd c (m.put (c.word p) (dQ w 1)) q=wd c m q:=λq hq=>by rw[gQ hR.mem hp,if_neg hq]
   refine⟨hR.mem.put _ (qo Ef 1),λq hq=>?_,λq hq hne=>⟨ho q hne,lw (λi _ _=>hs' q i) (ho q hne)⟩,rfl,λhe=>absurd rfl he,λ_ d hd=>?_⟩
   ·by_cases eq:p=q
    ·subst eq
     exact .grow rfl (hs' p) 1 (by omega) (by rw[nT];omega) hw'
    ·exact .none (hs' q) (ho q (Ne.symm eq))
   ·obtain⟨j1,j2,j3⟩:=(Cw hR hp hd gg).1 (by rw[nT];exact k2) (hs' p) hw' (by rw[nT];exact k3)
    refine⟨j1,j2,?_⟩;rw[j3,List.append_nil]
  ·have e:aO c p ⟨3,gg,w,ts,[gg]⟩ m=(⟨1,gg,w,ts,[gg]⟩,m.tick):=by simp only[aO,if_neg hc]
   rw[e]at hok ⊢;obtain⟨a1,a2,a3⟩:=qt (hR.tick (p:=p));exact⟨a1,a2,a3,rfl,λ_=>⟨⟨hok,hgg,rfl,λhe=>(by rcases he with he | he<;>cases he),λhe=>(by cases he),λhe=>(by rcases he with he | he<;>cases he),λhe=>(by cases he)⟩,hR.tick⟩,λhe=>(by cases he)⟩
 | 4,_ =>
  obtain⟨k1,k2,k3⟩:=LR (.inl rfl);have k4:=R4 rfl;obtain⟨st',hst'⟩:∃ st',(if ts.length+1=c.q / 2 then 5 else 4)=st':=⟨_,rfl⟩;have hG:=oY (hR.sl p hp (cI w-((c.q / 2:Nat):Int)+(ts.length:Int)));have e:aO c p ⟨4,gg,w,ts,[gg]⟩ m=(⟨st',gg,w,ts++[sl c m p (cI w-((c.q / 2:Nat):Int)+(ts.length:Int))],[gg]⟩,m.tick):=by
   simp only[aO,hst',Nm];rw[hG]
  rw[e]at hok ⊢;obtain⟨a1,a2,a3⟩:=qt (hR.tick (p:=p));refine⟨a1,a2,a3,rfl,λ_=>⟨⟨hok,hgg,rfl,λhe=>?_,λhe=>?_,λ_=>⟨k1.mono (by omega),k2,λi g hi=>?_⟩,λhe=>?_⟩,hR.tick⟩,λhe=>?_⟩
  ·dsimp only at he
   split at hst'<;>omega
  ·dsimp only at he
   split at hst'<;>omega
  ·show g=sl c m p _
   dsimp only at hi ⊢
   by_cases hlt:i<ts.length
   ·rw[List.getElem?_append_left hlt]at hi
    exact k3 i g hi
   ·rw[List.getElem?_append_right (by omega)]at hi
    have hi0:i-ts.length=0:=by
     rcases Nat.eq_zero_or_pos (i-ts.length) with h | h
     ·exact h
     ·rw[List.getElem?_eq_none (by simp;omega)]at hi
      cases hi
    rw[hi0]at hi;cases hi;rw[show i=ts.length by omega]
  ·dsimp only at he ⊢
   rw[List.length_append];simp only[List.length_cons,List.length_nil]
   split at hst'<;>omega
  ·dsimp only at he
   split at hst'<;>omega
 | 5,_ =>
  obtain⟨k1,k2,k3⟩:=LR (.inr rfl);have k5:=s5 rfl
  by_cases hc:ld m (c.word p)=w
  ·have e:aO c p ⟨5,gg,w,ts,[gg]⟩ m=(⟨0,gg,w,ts,ts++[gg]⟩,m.put (c.word p) (dQ w (-((c.q / 2:Nat):Int)))):=by simp only[aO,if_pos hc]
   rw[e]at hok ⊢;have nT:wd c m p=w:=hc;have hw':wd c (m.put (c.word p) (dQ w (-((c.q / 2:Nat):Int)))) p=dQ (wd c m p) (-((c.q / 2:Nat):Int)):=by rw[gQ hR.mem hp,if_pos rfl,nT]
   have hs':∀ q i,sl c (m.put (c.word p) (dQ w (-((c.q / 2:Nat):Int)))) q i=sl c m q i:=λq i=>o_ hR.mem hp _ q i
   have ho:∀ q,q≠p->wd c (m.put (c.word p) (dQ w (-((c.q / 2:Nat):Int)))) q=wd c m q:=λq hq=>by rw[gQ hR.mem hp,if_neg hq]
   refine⟨hR.mem.put _ (qo Ef _),λq hq=>?_,λq hq hne=>⟨ho q hne,lw (λi _ _=>hs' q i) (ho q hne)⟩,rfl,λhe=>absurd rfl he,λ_ d hd=>?_⟩
   ·by_cases eq:p=q
    ·subst eq
     exact .drop rfl (hs' p) (by rw[nT];omega) hw'
    ·exact .none (hs' q) (ho q (Ne.symm eq))
   ·obtain⟨j1,j2,j3⟩:=(Cw hR hp hd gg).2 (by rw[nT];exact k2) (hs' p) hw'
    have OT:(rl c m p).drop (c.q / 2)=ts:=by
     unfold rl;rw[sJ _ _ (by rw[nT];omega)];have e1:(aW (wd c m p)).toNat-c.q / 2=ts.length:=by rw[nT,k2,k5];omega
     rw[e1];refine sO (λi g hi=>?_);rw[k3 i g hi]
     congr 2
     rw[← nT];rw[← nT]at k2;omega
    rw[OT]at j2;refine⟨j1,j2,?_⟩;dsimp only;rw[j3,← List.append_assoc,← OT,List.take_append_drop]
  ·have e:aO c p ⟨5,gg,w,ts,[gg]⟩ m=(⟨1,gg,w,ts,[gg]⟩,m.tick):=by simp only[aO,if_neg hc]
   rw[e]at hok ⊢;obtain⟨a1,a2,a3⟩:=qt (hR.tick (p:=p));exact⟨a1,a2,a3,rfl,λ_=>⟨⟨hok,hgg,rfl,λhe=>(by rcases he with he | he<;>cases he),λhe=>(by cases he),λhe=>(by rcases he with he | he<;>cases he),λhe=>(by cases he)⟩,hR.tick⟩,λhe=>(by cases he)⟩
end
structure sT(c:aU)(B:Int)(m:bO)(p:Nat)(u:iQ):Prop where
 ok:y8 u
 nq:u.st=2\/u.st=3->kD c B u.w/\1<=aW u.w
 s3:u.st=3->u.sn=sl c m p (aj u.w)
section
variable{c:aU}{B:Int}{m m':bO}{p:Nat}{own:Prop}
theorem sT.keep{u:iQ}(h:sT c B m p u)(hr:dB c own p m m')(hn:¬ own)(hw:kD c B (wd c m p))(hB:B<=1073741824):sT c (B+8) m' p u:=by
 obtain⟨k1,k2,k3⟩:=hr.else hn hw hB
 exact⟨h.ok,λe=>⟨(h.nq e).1.mono (by omega),(h.nq e).2⟩,λe=>by rw[k1];exact h.s3 e⟩
theorem zg(hR:Rings c B m)(hp:p<c.n){u:iQ}(h:sT c B m p u)(h0:u.st≠0) :
  bY c (aM c p u m).2/\(∀ q,q<c.n->dB c (p=q) q m (aM c p u m).2)/\(∀ q,q<c.n->q≠p->wd c (aM c p u m).2 q=wd c m q/\rl c (aM c p u m).2 q=rl c m q)/\
  ((aM c p u m).1.st≠0->sT c (B+8) (aM c p u m).2 p (aM c p u m).1/\Quiet c p m (aM c p u m).2)/\
  ((aM c p u m).1.st=0->∀ d,mV c m p d->mV c (aM c p u m).2 p (lG d)/\(bj c d).headD 0=(if (aM c p u m).1.has then (aM c p u m).1.sn else 0)/\decide (aW d.w≠0)=(aM c p u m).1.has/\(if (aM c p u m).1.has then [(aM c p u m).1.sn] else [])++rl c (aM c p u m).2 p=rl c m p):=by
 have hok:=(sh hp h.ok hR.mem).1;have hw:=hR.w p hp;have hB:=hR.hB;have h8:=hR.h8;obtain⟨t1,t2,t3⟩:=hw.tl (by omega);have hz:=hw.sz;have qt:∀ {m':bO},Quiet c p m m'->bY c m'/\(∀ q,q<c.n->dB c (p=q) q m m')/\(∀ q,q<c.n->q≠p->wd c m' q=wd c m q/\rl c m' q=rl c m q):=λk=>⟨k.mem,k.ring,λq hq _=>⟨k.w q hq,k.l q hq⟩⟩
 have hhas:=h.ok.has h0;have nq:=h.nq;have s3:=h.s3;have Ef:=h.ok.w;obtain⟨st,w,sn,has⟩:=u;dsimp only at hhas nq s3 Ef h0;subst hhas
 match st,h.ok.st with
 | 0,_=>exact absurd rfl h0
 | 1,_ =>
  obtain⟨a1,a2,a3⟩:=qt (hR.tick (p:=p))
  by_cases hc:aW (ld m (c.word p))=0\/(c.q:Int)<aW (ld m (c.word p))
  ·have e:aM c p ⟨1,w,sn,false⟩ m=(⟨0,ld m (c.word p),sn,false⟩,m.tick):=by simp only[aM,if_pos hc]
   rw[e]at hok ⊢;have hz0:aW (wd c m p)=0:=by
    rcases hc with h | h
    ·exact h
    ·exact absurd h (by have:=hz;show ¬ _<aW (wd c m p);omega)
   refine⟨a1,a2,a3,λhe=>absurd rfl he,λ_ d hd=>?_⟩;have hdz:aW d.w=0:=by rw[hd.w];exact hz0
   have hl:bj c d=[]:=by simp[bj,hdz]
   refine⟨?_,by rw[hl];rfl,by simp[hdz],rfl⟩;unfold lG;rw[if_pos hdz];exact hd.still rfl rfl
  ·have e:aM c p ⟨1,w,sn,false⟩ m=(⟨2,ld m (c.word p),sn,false⟩,m.tick):=by simp only[aM,if_neg hc]
   rw[e]at hok ⊢;refine⟨a1,a2,a3,λ_=>⟨⟨hok,λ_=>⟨hw.mono (by omega),?_⟩,λhe=>(by cases he)⟩,hR.tick⟩,λhe=>(by cases he)⟩;rw[not_or]at hc;have:=hc.1;show 1<=aW (wd c m p);have:aW (wd c m p)≠0:=hc.1;omega
 | 2,_ =>
  obtain⟨a1,a2,a3⟩:=qt (hR.tick (p:=p));have e:aM c p ⟨2,w,sn,false⟩ m=(⟨3,w,sl c m p (aj w),false⟩,m.tick):=by
   simp only[aM];rw[oY (hR.sl p hp _)]
  rw[e]at hok ⊢;obtain⟨k1,k2⟩:=nq (.inl rfl);exact⟨a1,a2,a3,λ_=>⟨⟨hok,λ_=>⟨k1.mono (by omega),k2⟩,λ_=>rfl⟩,hR.tick⟩,λhe=>(by cases he)⟩
 | 3,_ =>
  obtain⟨k1,k2⟩:=nq (.inr rfl);have k3:=s3 rfl
  by_cases hc:ld m (c.word p)=w
  ·have e:aM c p ⟨3,w,sn,false⟩ m=(⟨0,w,sn,true⟩,m.put (c.word p) (fM w 1)):=by simp only[aM,if_pos hc]
   rw[e]at hok ⊢;have nT:wd c m p=w:=hc;have hw':wd c (m.put (c.word p) (fM w 1)) p=fM (wd c m p) ((1:Nat):Int):=by rw[gQ hR.mem hp,if_pos rfl,nT];rfl
   have hs':∀ q i,sl c (m.put (c.word p) (fM w 1)) q i=sl c m q i:=λq i=>o_ hR.mem hp _ q i
   have ho:∀ q,q≠p->wd c (m.put (c.word p) (fM w 1)) q=wd c m q:=λq hq=>by rw[gQ hR.mem hp,if_neg hq]
   refine⟨hR.mem.put _ (y6 Ef 1),λq hq=>?_,λq hq hne=>⟨ho q hne,lw (λi _ _=>hs' q i) (ho q hne)⟩,λhe=>absurd rfl he,λ_ d hd=>?_⟩
   ·by_cases eq:p=q
    ·subst eq
     exact .gain (hs' p) 1 (by omega) (by rw[nT];exact k2) hw'
    ·exact .none (hs' q) (ho q (Ne.symm eq))
   ·have hdz:¬ aW d.w=0:=by rw[hd.w,nT];omega
    have hle:((1:Nat):Int)<=aW (wd c m p):=by rw[nT];omega
    have hg:=wU hw hB (hs' p) hle hw';have hh:rl c m p=sn::(rl c m p).drop 1:=by
     unfold rl;rw[nT];obtain⟨k,hk⟩:∃ k,(aW w).toNat=1+k:=⟨(aW w).toNat-1,by omega⟩;rw[hk,o8];simp[win,k3]
    refine⟨?_,?_,by simp[hdz],?_⟩
    ·unfold lG
     rw[if_neg hdz];exact hd.gain hw hB (hs' p) hle hw'
    ·rw[hd.l,hh]
     rfl
    ·rw[hg]
     exact hh.symm
  ·have e:aM c p ⟨3,w,sn,false⟩ m=(⟨1,w,sn,false⟩,m.tick):=by simp only[aM,if_neg hc]
   rw[e]at hok ⊢;obtain⟨a1,a2,a3⟩:=qt (hR.tick (p:=p));exact⟨a1,a2,a3,λ_=>⟨⟨hok,λhe=>(by rcases he with he | he<;>cases he),λhe=>(by cases he)⟩,hR.tick⟩,λhe=>(by cases he)⟩
end
end Go.Proofs.YtkmccgombmogmaaGreat
