/- Part of a proof: see the last text. -/
import Derived.Test.YtankbefdlbcdnaaZd19
set_option linter.unusedSimpArgs false
set_option linter.unusedVariables false
namespace Go.Proofs.Ytankbefdlbcdnaa
open Go.Ev Go.Proofs.Try
open Go.RowKit
open Go.Ev (iz iN pz)
theorem fM.set{xs:List Value}{m p:Nat}{o:Option Nat}{l:List Int}{hd tl:Int}{f:Int->Option Lk}(h:fM xs m o l hd tl f)(hp:p<m\/m+3<=p)(v:Value):fM (xs.set p v) m o l hd tl f :=
 ⟨by rw[List.getElem?_set_ne (by omega)];exact h.v,by rw[List.getElem?_set_ne (by omega)];exact h.h,by rw[List.getElem?_set_ne (by omega)];exact h.t,h.rep,h.no⟩
structure Off(xs xs':List Value)(k:Nat):Prop where
 len:xs'.length=xs.length
 at':∀ p,(p<km k\/km k+4<=p)->xs'[p]? = xs[p]?
theorem Off.set{xs:List Value}{k p:Nat}{v:Value}(h1:km k<=p)(h2:p<km k+4):Off xs (xs.set p v) k:=⟨by simp,λq hq=>by rw[List.getElem?_set_ne (by omega)]⟩
theorem Off.trans{a b c:List Value}{k:Nat}(h:Off a b k)(g:Off b c k):Off a c k:=⟨g.len.trans h.len,λp hp=>(g.at' p hp).trans (h.at' p hp)⟩
theorem Off.push{xs:List Value}{k:Nat}{l:List Int}{x:Int} : Off xs (d6 xs (km k+0) l x) k:=by
 unfold d6
 split
 ·exact(Off.set (by omega) (by omega)).trans (Off.set (by omega) (by omega))
 ·exact Off.set (by omega) (by omega)
theorem Gb{xs:List Value}{k:Nat}{l:List Int}{x:Int}{v:Value} : (d6 (xs.set (km k+0) v) (km k+0) l x)[km k+3]? = xs[km k+3]?:=by
 unfold d6
 split
 ·rw[List.getElem?_set_ne (by omega),List.getElem?_set_ne (by omega),List.getElem?_set_ne (by omega)]
 ·rw[List.getElem?_set_ne (by omega),List.getElem?_set_ne (by omega)]
theorem JO{xs:List Value}{k:Nat}{r:List Int}{f:Int->Option Lk}{x:Int} : (AJ xs (km k+0) r f x)[km k+3]? = xs[km k+3]?:=by
 unfold AJ
 split
 ·rw[List.getElem?_set_ne (by omega),List.getElem?_set_ne (by omega)]
 ·rw[List.getElem?_set_ne (by omega)]
theorem Off.rm{xs:List Value}{k:Nat}{r:List Int}{f:Int->Option Lk}{x:Int} : Off xs (AJ xs (km k+0) r f x) k:=by
 unfold AJ
 split
 ·exact(Off.set (by omega) (by omega)).trans (Off.set (by omega) (by omega))
 ·exact Off.set (by omega) (by omega)
theorem Off.cells{xs xs':List Value}{k:Nat}{nn:Int}{bw:Nat}(h:Off xs xs' k)(hk:k<4)(c:Cells xs nn bw):Cells xs' nn bw :=
 ⟨h.len.trans c.len,(h.at' _ (.inr (by unfold km;omega))).trans c.cn,(h.at' _ (.inr (by unfold km;omega))).trans c.cw,c.cb⟩
theorem Off.ln{xs xs':List Value}{k j:Nat}{y:xE}(h:Off xs xs' k)(hj:j≠k)(L:y.At xs j):y.At xs' j :=
 have q:∀ d,d<4->(km j+d<km k\/km k+4<=km j+d):=λd hd=>by unfold km;omega
 ⟨(h.at' _ (q 0 (by omega))).trans L.v,(h.at' _ (q 1 (by omega))).trans L.h,(h.at' _ (q 2 (by omega))).trans L.t,L.rep,L.no⟩
theorem Off.ct{xs xs':List Value}{k j:Nat}(h:Off xs xs' k)(hj:j≠k):xs'[km j+3]? = xs[km j+3]?:=h.at' _ (by unfold km;omega)
theorem ky.Fits.turn{i:ky}{s:Sem}(hi:i.Fits s){k:Nat}(hk:k<4){xs':List Value}(ho:Off i.xs xs' k){y:xE}{Ga:Int->Option Int}{s':Sem}(hn:s'.nn=s.nn)(hy:y.At xs' k/\y.l=s'.ln k/\xs'[km k+3]? = some (.int .i64 (s'.ct k:Int)))(hs:∀ j,j≠k->s'.ln j=s.ln j/\s'.ct j=s.ct j)
  (hw:∀ j,j<4->∀ g ∈ s'.ln j,Ga g=some (j:Int)) (hno:∀ g,(∀ j,j<4->g ∉ s'.ln j)->Ga g=none):(⟨i.bw,Ga,xs',aZ i.z k y⟩:ky).Fits s':=by
 refine⟨by rw[hn];exact ho.cells hk hi.c,λj hj=>?_,hw,hno⟩
 by_cases e:j=k
 ·subst e
  show(aZ i.z j y j).At xs' j/\(aZ i.z j y j).l=s'.ln j/\xs'[km j+3]? = _;rw[show aZ i.z j y j=y from if_pos rfl];exact hy
 ·obtain⟨h1,h2,h3⟩:=hi.z j hj
  show(aZ i.z k y j).At xs' j/\(aZ i.z k y j).l=s'.ln j/\xs'[km j+3]? = _;rw[show aZ i.z k y j=i.z j from if_neg e,(hs j e).1,(hs j e).2];exact⟨ho.ln e h1,h2,(ho.ct e).trans h3⟩
theorem dK{α:Type}{z:Nat->α}{k:Nat}{y:α} : aZ z k y k=y:=if_pos rfl
theorem gV{α:Type}{z:Nat->α}{k j:Nat}{y:α}(h:j≠k):aZ z k y j=z j:=if_neg h
section
variable{w:World}{F:Nat->Prop}{bs k:Nat}{s:Sem}{g:Int}
theorem Dg(O:s.Ok)(hk:k<s.nn)(hg:0<=g/\g<4096)(hf:∀ j,j<4->g ∉ s.ln j)(hc:0<s.ct k)(h:bu [aQ bs s] F w) :
  Calls prog 56 #[sP bs 0,iN k,iz g] w λe w'=>e=.returned (.tuple #[.bool true,.int .i64 0])/\ay ⟨w,F⟩ [aQ bs { s with ct:=aZ s.ct k (s.ct k-1) }] w':=by
 have h4:k<4:=by have:=O.n1;omega
 refine iC h4 h (λi G hi n1 back=>?_);obtain⟨h1,h2,h3⟩:=hi.z k h4;have hct:=O.ct k h4;refine nB (l:=[sA bs i.xs,qz i.bw s.nw i.fw]) (r:=[tV (i.z k)]) (ay.start n1) (λG2 m1 m2=>?_);refine(Db hi.c h4 (by omega) hg (by have:=O.nw;omega) (hi.no g hf) h3 (by omega) m1).mono (λe w' ⟨he,hh⟩=>⟨he,?_⟩);have hb:=back [] _ _ _ _ w' (m2 _ _ hh);refine dO (l:=[]) (i:=⟨i.bw,i.fw,_,aZ i.z k (i.z k)⟩) (hi.turn h4 (Off.set (by omega) (by omega)) rfl ⟨h1.set (by omega) _,h2,?_⟩ (λj hj=>⟨rfl,gV hj⟩) hi.w hi.no) hb;rw[List.getElem?_set_self (by rw[hi.c.len];unfold km;omega)];show some (iz ((s.ct k:Int)-1))=some (.int .i64 ((aZ s.ct k (s.ct k-1) k:Nat):Int));rw[dK,show((s.ct k:Nat):Int)-1=((s.ct k-1:Nat):Int) by omega]
theorem Dh(O:s.Ok)(hk:k<s.nn)(hg:0<=g/\g<4096)(hf:∀ j,j<4->g ∉ s.ln j)(hc:s.ct k=0)(h:bu [aQ bs s] F w) :
  Calls prog 56 #[sP bs 0,iN k,iz g] w λe w'=>e=.returned (.tuple #[.bool false,.int .i64 0])/\ay ⟨w,F⟩ [aQ bs { s with ln:=aZ s.ln k (s.ln k++[g]),nw:=s.nw+1 }] w':=by
 have h4:k<4:=by have:=O.n1;omega
 refine iC h4 h (λi G hi n1 back=>?_);obtain⟨h1,h2,h3⟩:=hi.z k h4;have hl:=O.len k h4;rw[hc]at h3;refine(Dd hi.c h4 (by omega) hg (by have:=O.nw;omega) (hi.no g hf) h3 h1 (by rw[h2];exact hf k h4) (by rw[h2];omega) n1).mono (λe w' ⟨v,cd,hv,he,hh⟩=>⟨he,?_⟩);obtain⟨b,e2,EJ⟩:=mC (hh.sel [2,0,1]);subst e2;have L0:fM (i.xs.set (km k+0) (.map (some b))) (km k+0) (some b) (i.z k).l (i.z k).hd (i.z k).tl (i.z k).f :=
  ⟨by rw[List.getElem?_set_self (by rw[hi.c.len];unfold km;omega)];rfl,by rw[List.getElem?_set_ne (by omega)];exact h1.h,by rw[List.getElem?_set_ne (by omega)];exact h1.t,h1.rep,by simp⟩
 obtain⟨hd',tl',L⟩:=pushed L0 hg (by rw[h2];exact hf k h4) (by rw[List.length_set,hi.c.len];unfold km;omega)
 have hb:=back [] (d6 (i.xs.set (km k+0) (.map (some b))) (km k+0) (i.z k).l g) (s.nw+1) (Ev.upd i.fw g (some (k:Int))) ⟨some b,(i.z k).l++[g],hd',tl',eF (i.z k).l (i.z k).tl (i.z k).f g⟩ w' (by
  have:=EJ.sel [1,2,0];show ay _ [_,_,bX b ((i.z k).l++[g]).length _] w';rw[List.length_append]
  exact this)
 refine dO (l:=[]) (hi.turn (y:=⟨some b,(i.z k).l++[g],hd',tl',eF (i.z k).l (i.z k).tl (i.z k).f g⟩) h4 ((Off.set (by omega) (by omega)).trans Off.push) rfl ⟨L,?_,?_⟩ (λj hj=>⟨gV hj,rfl⟩) ?_ ?_) hb
 ·show(i.z k).l++[g]=aZ s.ln k (s.ln k++[g]) k
  rw[dK,h2]
 ·rw[Gb]
  show i.xs[km k+3]? = some (.int .i64 (s.ct k:Int));rw[h3,hc]
 ·intro j hj x hx
  replace hx:x ∈ aZ s.ln k (s.ln k++[g]) j:=hx;unfold Ev.upd
  by_cases e:j=k
  ·subst e
   rw[dK]at hx
   by_cases ex:x=g
   ·rw[if_pos ex]
   ·rw[if_neg ex]
    exact hi.w j hj x ((List.mem_append.1 hx).elim id (λh=>absurd (List.mem_singleton.1 h) ex))
  ·rw[gV e]at hx
   rw[if_neg (λex:x=g=>hf j hj (ex▸hx))];exact hi.w j hj x hx
 ·intro x hx
  have hxg:x≠g:=λex=>by
   refine hx k h4 ?_;show x ∈ aZ s.ln k (s.ln k++[g]) k;rw[dK,ex];simp
  unfold Ev.upd;rw[if_neg hxg];refine hi.no x (λj hj hm=>?_);refine hx j hj ?_;show x ∈ aZ s.ln k (s.ln k++[g]) j
  by_cases e:j=k
  ·subst e
   rw[dK];exact List.mem_append_left _ hm
  ·rw[gV e]
   exact hm
theorem AN(O:s.Ok)(hk:k<s.nn)(hl:s.ln k=[])(h:bu [aQ bs s] F w) :
  Calls prog 57 #[sP bs 0,iN k] w λe w'=>e=.returned (.tuple #[.int .i64 0,.bool false,.int .i64 0])/\ay ⟨w,F⟩ [aQ bs { s with ct:=aZ s.ct k (s.ct k+1) }] w':=by
 have h4:k<4:=by have:=O.n1;omega
 refine iC h4 h (λi G hi n1 back=>?_);obtain⟨h1,h2,h3⟩:=hi.z k h4;have hct:=O.ct k h4;refine(AL hi.c h4 (by omega) (by have:=O.nw;omega) h3 (by omega) h1 (h2.trans hl) n1).mono (λe w' ⟨he,hh⟩=>⟨he,?_⟩);have hb:=back [] _ _ _ _ w' hh;refine dO (l:=[]) (i:=⟨i.bw,i.fw,_,aZ i.z k (i.z k)⟩) (hi.turn h4 (Off.set (by omega) (by omega)) rfl ⟨h1.set (by omega) _,h2,?_⟩ (λj hj=>⟨rfl,gV hj⟩) hi.w hi.no) hb;rw[List.getElem?_set_self (by rw[hi.c.len];unfold km;omega)];show some (iz ((s.ct k:Int)+1))=some (.int .i64 ((aZ s.ct k (s.ct k+1) k:Nat):Int));rw[dK];rfl
theorem Di{r:List Int}(O:s.Ok)(hk:k<s.nn)(hl:s.ln k=g::r)(h:bu [aQ bs s] F w) :
  Calls prog 57 #[sP bs 0,iN k] w λe w'=>e=.returned (.tuple #[iz g,.bool true,.int .i64 0])/\ay ⟨w,F⟩ [aQ bs { s with ln:=aZ s.ln k r }] w':=by
 have h4:k<4:=by have:=O.n1;omega
 have hgm:g ∈ s.ln k:=by rw[hl];exact List.mem_cons_self
 have hlen:=O.len k h4;rw[hl,List.length_cons]at hlen;refine iC h4 h (λi G hi n1 back=>?_);obtain⟨h1,h2,h3⟩:=hi.z k h4;have hzl:=h2.trans hl;refine(De hi.c h4 (by omega) (O.rng k h4 g hgm) (by have:=O.nw;omega) h1 hzl (by omega) (hi.w k h4 g hgm) n1).mono (λe w' ⟨he,hh⟩=>⟨he,?_⟩);obtain⟨b,hb⟩:∃ b,(i.z k).o=some b:=by
  cases ho:(i.z k).o with
  | some b=>exact⟨b,rfl⟩
  | none=>rw[h1.no ho]at hzl;cases hzl
 have h1':fM i.xs (km k+0) (some b) (g::r) (i.z k).hd (i.z k).tl (i.z k).f:=by
  have:=h1;unfold xE.At at this
  rwa [hb,hzl]at this
 obtain⟨hd',tl',L⟩:=removed h1' (by rw[hi.c.len];unfold km;omega);have hnd:g ∉ r:=(List.nodup_cons.1 h1'.rep.nd).1
 have hbk:=back [] (AJ i.xs (km k+0) r (i.z k).f g) s.nw (Ev.upd i.fw g none) ⟨some b,r,hd',tl',C0 r (i.z k).f g⟩ w' (by
  rw[hb]at hh
  exact hh)
 refine dO (l:=[]) (hi.turn (y:=⟨some b,r,hd',tl',C0 r (i.z k).f g⟩) h4 Off.rm rfl ⟨L,?_,?_⟩ (λj hj=>⟨gV hj,rfl⟩) ?_ ?_) hbk
 ·show r=aZ s.ln k r k
  rw[dK]
 ·rw[JO]
  exact h3
 ·intro j hj x hx
  replace hx:x ∈ aZ s.ln k r j:=hx;unfold Ev.upd
  by_cases e:j=k
  ·subst e
   rw[dK]at hx;rw[if_neg (λex:x=g=>hnd (ex▸hx))];exact hi.w j hj x (by rw[hl];exact List.mem_cons_of_mem _ hx)
  ·rw[gV e]at hx
   rw[if_neg (λex:x=g=>O.vj j k hj h4 e x hx (ex▸hgm))];exact hi.w j hj x hx
 ·intro x hx
  unfold Ev.upd
  split
  ·rfl
  ·rename_i hxg
   refine hi.no x (λj hj hm=>?_);refine hx j hj ?_;show x ∈ aZ s.ln k r j
   by_cases e:j=k
   ·subst e
    rw[dK];rw[hl]at hm;exact(List.mem_cons.1 hm).elim (λh=>absurd h hxg) id
   ·rw[gV e]
    exact hm
theorem Gc(O:s.Ok)(hk:k<s.nn)(h:bu [aQ bs s] F w) :
  Calls prog 15 #[sP bs 0,iN k] w λe w'=>∃ v cd,Ev.dec cd=v/\e=.returned v/\ay ⟨w,F⟩ [aQ bs s,fZ v (s.ln k)] w':=by
 have h4:k<4:=by have:=O.n1;omega
 refine iC h4 h (λi G hi n1 back=>?_);obtain⟨h1,h2,h3⟩:=hi.z k h4;refine(xF hi.c h4 (by omega) (by have:=O.nw;omega) h1 (by rw[h2];exact O.len k h4) n1).mono (λe w' ⟨v,cd,hv,he,hh⟩=>⟨v,cd,hv,he,?_⟩);have hb:=back [fZ v (i.z k).l] _ _ _ _ w' (hh.sel [1,2,3,0]);rw[h2]at hb;exact dO (l:=[fZ v (s.ln k)]) (i:=⟨i.bw,i.fw,i.xs,aZ i.z k (i.z k)⟩) (hi.turn h4 ⟨rfl,λ_ _=>rfl⟩ rfl ⟨h1,h2,h3⟩ (λj hj=>⟨rfl,rfl⟩) hi.w hi.no) hb
end
end Go.Proofs.Ytankbefdlbcdnaa
namespace Go.Proofs.Ytankbefdlbcdnaa
open Go.Ev Go.Proofs.Try
open Go.RowKit
open Go.Ev (sy iz uz wz iN uN wN pz dv fc fn ak vk vd kn pc cc cr cm cd fr)
set_option maxRecDepth 8000
attribute [local irreducible] dF
theorem Lt(W0:World)(F0:Nat->Prop):aI prog 28 [] 0 11 ⟨W0,F0⟩ [(0,(.agg #[iz 0])),(1,iz 0)] [] (λκ:ag=>(.bool false)) (λκ:ag=>[]):=(br (c:=⟨W0,F0⟩) 20 (kn [] fn [] [] [] fn fn fn W0 F0 [[]] [] []) fn fn rfl [] [] [] 0 rfl rfl [(0,.agg #[iz 0]),(1,iz 0)] (.bool false))
theorem Lu(W0:World)(F0:Nat->Prop):aI prog 28 [] 0 11 ⟨W0,F0⟩ [(0,(.agg #[iz 0])),(1,iz 1)] [] (λκ:ag=>(.bool false)) (λκ:ag=>[]):=(br (c:=⟨W0,F0⟩) 20 (kn [] fn [] [] [] fn fn fn W0 F0 [[]] [] []) fn fn rfl [] [] [] 0 rfl rfl [(0,.agg #[iz 0]),(1,iz 1)] (.bool false))
theorem Lw(W0:World)(F0:Nat->Prop):aI prog 28 [] 0 11 ⟨W0,F0⟩ [(0,(.agg #[iz 0])),(1,iz 2)] [] (λκ:ag=>(.bool false)) (λκ:ag=>[]):=(br (c:=⟨W0,F0⟩) 20 (kn [] fn [] [] [] fn fn fn W0 F0 [[]] [] []) fn fn rfl [] [] [] 0 rfl rfl [(0,.agg #[iz 0]),(1,iz 2)] (.bool false))
theorem Lx(W0:World)(F0:Nat->Prop):aI prog 28 [] 0 11 ⟨W0,F0⟩ [(0,(.agg #[iz 0])),(1,iz 3)] [] (λκ:ag=>(.bool false)) (λκ:ag=>[]):=(br (c:=⟨W0,F0⟩) 20 (kn [] fn [] [] [] fn fn fn W0 F0 [[]] [] []) fn fn rfl [] [] [] 0 rfl rfl [(0,.agg #[iz 0]),(1,iz 3)] (.bool false))
theorem Ly(W0:World)(F0:Nat->Prop):aI prog 28 [] 0 11 ⟨W0,F0⟩ [(0,(.agg #[iz 0])),(1,iz 4)] [] (λκ:ag=>(.bool false)) (λκ:ag=>[]):=(br (c:=⟨W0,F0⟩) 20 (kn [] fn [] [] [] fn fn fn W0 F0 [[]] [] []) fn fn rfl [] [] [] 0 rfl rfl [(0,.agg #[iz 0]),(1,iz 4)] (.bool false))
theorem Lz(W0:World)(F0:Nat->Prop):aI prog 28 [] 0 11 ⟨W0,F0⟩ [(0,(.agg #[iz 1])),(1,iz 0)] [] (λκ:ag=>(.bool false)) (λκ:ag=>[]):=(br (c:=⟨W0,F0⟩) 20 (kn [] fn [] [] [] fn fn fn W0 F0 [[]] [] []) fn fn rfl [] [] [] 0 rfl rfl [(0,.agg #[iz 1]),(1,iz 0)] (.bool false))
theorem LA(W0:World)(F0:Nat->Prop):aI prog 28 [] 0 11 ⟨W0,F0⟩ [(0,(.agg #[iz 1])),(1,iz 1)] [] (λκ:ag=>(.bool false)) (λκ:ag=>[]):=(br (c:=⟨W0,F0⟩) 20 (kn [] fn [] [] [] fn fn fn W0 F0 [[]] [] []) fn fn rfl [] [] [] 0 rfl rfl [(0,.agg #[iz 1]),(1,iz 1)] (.bool false))
theorem LB(W0:World)(F0:Nat->Prop):aI prog 28 [] 0 11 ⟨W0,F0⟩ [(0,(.agg #[iz 1])),(1,iz 2)] [] (λκ:ag=>(.bool true)) (λκ:ag=>[]):=(br (c:=⟨W0,F0⟩) 20 (kn [] fn [] [] [] fn fn fn W0 F0 [[]] [] []) fn fn rfl [] [] [] 0 rfl rfl [(0,.agg #[iz 1]),(1,iz 2)] (.bool true))
theorem LC(W0:World)(F0:Nat->Prop):aI prog 28 [] 0 11 ⟨W0,F0⟩ [(0,(.agg #[iz 1])),(1,iz 3)] [] (λκ:ag=>(.bool false)) (λκ:ag=>[]):=(br (c:=⟨W0,F0⟩) 20 (kn [] fn [] [] [] fn fn fn W0 F0 [[]] [] []) fn fn rfl [] [] [] 0 rfl rfl [(0,.agg #[iz 1]),(1,iz 3)] (.bool false))
theorem LD(W0:World)(F0:Nat->Prop):aI prog 28 [] 0 11 ⟨W0,F0⟩ [(0,(.agg #[iz 1])),(1,iz 4)] [] (λκ:ag=>(.bool false)) (λκ:ag=>[]):=(br (c:=⟨W0,F0⟩) 20 (kn [] fn [] [] [] fn fn fn W0 F0 [[]] [] []) fn fn rfl [] [] [] 0 rfl rfl [(0,.agg #[iz 1]),(1,iz 4)] (.bool false))
theorem LE(W0:World)(F0:Nat->Prop):aI prog 28 [] 0 11 ⟨W0,F0⟩ [(0,(.agg #[iz 2])),(1,iz 0)] [] (λκ:ag=>(.bool true)) (λκ:ag=>[]):=(br (c:=⟨W0,F0⟩) 20 (kn [] fn [] [] [] fn fn fn W0 F0 [[]] [] []) fn fn rfl [] [] [] 0 rfl rfl [(0,.agg #[iz 2]),(1,iz 0)] (.bool true))
theorem LG(W0:World)(F0:Nat->Prop):aI prog 28 [] 0 11 ⟨W0,F0⟩ [(0,(.agg #[iz 2])),(1,iz 1)] [] (λκ:ag=>(.bool true)) (λκ:ag=>[]):=(br (c:=⟨W0,F0⟩) 20 (kn [] fn [] [] [] fn fn fn W0 F0 [[]] [] []) fn fn rfl [] [] [] 0 rfl rfl [(0,.agg #[iz 2]),(1,iz 1)] (.bool true))
theorem LH(W0:World)(F0:Nat->Prop):aI prog 28 [] 0 11 ⟨W0,F0⟩ [(0,(.agg #[iz 2])),(1,iz 2)] [] (λκ:ag=>(.bool false)) (λκ:ag=>[]):=(br (c:=⟨W0,F0⟩) 20 (kn [] fn [] [] [] fn fn fn W0 F0 [[]] [] []) fn fn rfl [] [] [] 0 rfl rfl [(0,.agg #[iz 2]),(1,iz 2)] (.bool false))
theorem LI(W0:World)(F0:Nat->Prop):aI prog 28 [] 0 11 ⟨W0,F0⟩ [(0,(.agg #[iz 2])),(1,iz 3)] [] (λκ:ag=>(.bool true)) (λκ:ag=>[]):=(br (c:=⟨W0,F0⟩) 20 (kn [] fn [] [] [] fn fn fn W0 F0 [[]] [] []) fn fn rfl [] [] [] 0 rfl rfl [(0,.agg #[iz 2]),(1,iz 3)] (.bool true))
theorem LJ(W0:World)(F0:Nat->Prop):aI prog 28 [] 0 11 ⟨W0,F0⟩ [(0,(.agg #[iz 2])),(1,iz 4)] [] (λκ:ag=>(.bool true)) (λκ:ag=>[]):=(br (c:=⟨W0,F0⟩) 20 (kn [] fn [] [] [] fn fn fn W0 F0 [[]] [] []) fn fn rfl [] [] [] 0 rfl rfl [(0,.agg #[iz 2]),(1,iz 4)] (.bool true))
theorem LK(W0:World)(F0:Nat->Prop):aI prog 28 [] 0 11 ⟨W0,F0⟩ [(0,(.agg #[iz 3])),(1,iz 0)] [] (λκ:ag=>(.bool false)) (λκ:ag=>[]):=(br (c:=⟨W0,F0⟩) 20 (kn [] fn [] [] [] fn fn fn W0 F0 [[]] [] []) fn fn rfl [] [] [] 0 rfl rfl [(0,.agg #[iz 3]),(1,iz 0)] (.bool false))
theorem LL(W0:World)(F0:Nat->Prop):aI prog 28 [] 0 11 ⟨W0,F0⟩ [(0,(.agg #[iz 3])),(1,iz 1)] [] (λκ:ag=>(.bool true)) (λκ:ag=>[]):=(br (c:=⟨W0,F0⟩) 20 (kn [] fn [] [] [] fn fn fn W0 F0 [[]] [] []) fn fn rfl [] [] [] 0 rfl rfl [(0,.agg #[iz 3]),(1,iz 1)] (.bool true))
theorem LM(W0:World)(F0:Nat->Prop):aI prog 28 [] 0 11 ⟨W0,F0⟩ [(0,(.agg #[iz 3])),(1,iz 2)] [] (λκ:ag=>(.bool false)) (λκ:ag=>[]):=(br (c:=⟨W0,F0⟩) 20 (kn [] fn [] [] [] fn fn fn W0 F0 [[]] [] []) fn fn rfl [] [] [] 0 rfl rfl [(0,.agg #[iz 3]),(1,iz 2)] (.bool false))
theorem LN(W0:World)(F0:Nat->Prop):aI prog 28 [] 0 11 ⟨W0,F0⟩ [(0,(.agg #[iz 3])),(1,iz 3)] [] (λκ:ag=>(.bool false)) (λκ:ag=>[]):=(br (c:=⟨W0,F0⟩) 20 (kn [] fn [] [] [] fn fn fn W0 F0 [[]] [] []) fn fn rfl [] [] [] 0 rfl rfl [(0,.agg #[iz 3]),(1,iz 3)] (.bool false))
theorem LO(W0:World)(F0:Nat->Prop):aI prog 28 [] 0 11 ⟨W0,F0⟩ [(0,(.agg #[iz 3])),(1,iz 4)] [] (λκ:ag=>(.bool false)) (λκ:ag=>[]):=(br (c:=⟨W0,F0⟩) 20 (kn [] fn [] [] [] fn fn fn W0 F0 [[]] [] []) fn fn rfl [] [] [] 0 rfl rfl [(0,.agg #[iz 3]),(1,iz 4)] (.bool false))
theorem LP(W0:World)(F0:Nat->Prop):aI prog 28 [] 0 11 ⟨W0,F0⟩ [(0,(.agg #[iz 4])),(1,iz 0)] [] (λκ:ag=>(.bool false)) (λκ:ag=>[]):=(br (c:=⟨W0,F0⟩) 20 (kn [] fn [] [] [] fn fn fn W0 F0 [[]] [] []) fn fn rfl [] [] [] 0 rfl rfl [(0,.agg #[iz 4]),(1,iz 0)] (.bool false))
theorem LR(W0:World)(F0:Nat->Prop):aI prog 28 [] 0 11 ⟨W0,F0⟩ [(0,(.agg #[iz 4])),(1,iz 1)] [] (λκ:ag=>(.bool true)) (λκ:ag=>[]):=(br (c:=⟨W0,F0⟩) 20 (kn [] fn [] [] [] fn fn fn W0 F0 [[]] [] []) fn fn rfl [] [] [] 0 rfl rfl [(0,.agg #[iz 4]),(1,iz 1)] (.bool true))
theorem LS(W0:World)(F0:Nat->Prop):aI prog 28 [] 0 11 ⟨W0,F0⟩ [(0,(.agg #[iz 4])),(1,iz 2)] [] (λκ:ag=>(.bool true)) (λκ:ag=>[]):=(br (c:=⟨W0,F0⟩) 20 (kn [] fn [] [] [] fn fn fn W0 F0 [[]] [] []) fn fn rfl [] [] [] 0 rfl rfl [(0,.agg #[iz 4]),(1,iz 2)] (.bool true))
theorem LU(W0:World)(F0:Nat->Prop):aI prog 28 [] 0 11 ⟨W0,F0⟩ [(0,(.agg #[iz 4])),(1,iz 3)] [] (λκ:ag=>(.bool false)) (λκ:ag=>[]):=(br (c:=⟨W0,F0⟩) 20 (kn [] fn [] [] [] fn fn fn W0 F0 [[]] [] []) fn fn rfl [] [] [] 0 rfl rfl [(0,.agg #[iz 4]),(1,iz 3)] (.bool false))
theorem LV(W0:World)(F0:Nat->Prop):aI prog 28 [] 0 11 ⟨W0,F0⟩ [(0,(.agg #[iz 4])),(1,iz 4)] [] (λκ:ag=>(.bool false)) (λκ:ag=>[]):=(br (c:=⟨W0,F0⟩) 20 (kn [] fn [] [] [] fn fn fn W0 F0 [[]] [] []) fn fn rfl [] [] [] 0 rfl rfl [(0,.agg #[iz 4]),(1,iz 4)] (.bool false))
def hO(a b:Nat):Bool:=match a with
 | 1=>b==2
 | 2=>b==0||b==1||b==3||b==4
 | 3=>b==1
 | 4=>b==1||b==2
 | _=>false
theorem xG(a b:Nat)(ha:a<5)(hb:b<5){w:World}{F:Nat->Prop}(h:bu [] F w) :
  Calls prog 28 #[.agg #[.int .i64 (a:Int)],.int .i64 (b:Int)] w λe w'=>e=.returned (.bool (hO a b))/\ay ⟨w,F⟩ [] w':=by
 match a,b,ha,hb with
 | 0,0,_,_=>exact ao (Lt w F) (by kernel_rfl) h (by simp) (by simp) (λκ w1 hh=>⟨rfl,hh⟩)
 | 0,1,_,_=>exact ao (Lu w F) (by kernel_rfl) h (by simp) (by simp) (λκ w1 hh=>⟨rfl,hh⟩)
 | 0,2,_,_=>exact ao (Lw w F) (by kernel_rfl) h (by simp) (by simp) (λκ w1 hh=>⟨rfl,hh⟩)
 | 0,3,_,_=>exact ao (Lx w F) (by kernel_rfl) h (by simp) (by simp) (λκ w1 hh=>⟨rfl,hh⟩)
 | 0,4,_,_=>exact ao (Ly w F) (by kernel_rfl) h (by simp) (by simp) (λκ w1 hh=>⟨rfl,hh⟩)
 | 1,0,_,_=>exact ao (Lz w F) (by kernel_rfl) h (by simp) (by simp) (λκ w1 hh=>⟨rfl,hh⟩)
 | 1,1,_,_=>exact ao (LA w F) (by kernel_rfl) h (by simp) (by simp) (λκ w1 hh=>⟨rfl,hh⟩)
 | 1,2,_,_=>exact ao (LB w F) (by kernel_rfl) h (by simp) (by simp) (λκ w1 hh=>⟨rfl,hh⟩)
 | 1,3,_,_=>exact ao (LC w F) (by kernel_rfl) h (by simp) (by simp) (λκ w1 hh=>⟨rfl,hh⟩)
 | 1,4,_,_=>exact ao (LD w F) (by kernel_rfl) h (by simp) (by simp) (λκ w1 hh=>⟨rfl,hh⟩)
 | 2,0,_,_=>exact ao (LE w F) (by kernel_rfl) h (by simp) (by simp) (λκ w1 hh=>⟨rfl,hh⟩)
 | 2,1,_,_=>exact ao (LG w F) (by kernel_rfl) h (by simp) (by simp) (λκ w1 hh=>⟨rfl,hh⟩)
 | 2,2,_,_=>exact ao (LH w F) (by kernel_rfl) h (by simp) (by simp) (λκ w1 hh=>⟨rfl,hh⟩)
 | 2,3,_,_=>exact ao (LI w F) (by kernel_rfl) h (by simp) (by simp) (λκ w1 hh=>⟨rfl,hh⟩)
 | 2,4,_,_=>exact ao (LJ w F) (by kernel_rfl) h (by simp) (by simp) (λκ w1 hh=>⟨rfl,hh⟩)
 | 3,0,_,_=>exact ao (LK w F) (by kernel_rfl) h (by simp) (by simp) (λκ w1 hh=>⟨rfl,hh⟩)
 | 3,1,_,_=>exact ao (LL w F) (by kernel_rfl) h (by simp) (by simp) (λκ w1 hh=>⟨rfl,hh⟩)
 | 3,2,_,_=>exact ao (LM w F) (by kernel_rfl) h (by simp) (by simp) (λκ w1 hh=>⟨rfl,hh⟩)
 | 3,3,_,_=>exact ao (LN w F) (by kernel_rfl) h (by simp) (by simp) (λκ w1 hh=>⟨rfl,hh⟩)
 | 3,4,_,_=>exact ao (LO w F) (by kernel_rfl) h (by simp) (by simp) (λκ w1 hh=>⟨rfl,hh⟩)
 | 4,0,_,_=>exact ao (LP w F) (by kernel_rfl) h (by simp) (by simp) (λκ w1 hh=>⟨rfl,hh⟩)
 | 4,1,_,_=>exact ao (LR w F) (by kernel_rfl) h (by simp) (by simp) (λκ w1 hh=>⟨rfl,hh⟩)
 | 4,2,_,_=>exact ao (LS w F) (by kernel_rfl) h (by simp) (by simp) (λκ w1 hh=>⟨rfl,hh⟩)
 | 4,3,_,_=>exact ao (LU w F) (by kernel_rfl) h (by simp) (by simp) (λκ w1 hh=>⟨rfl,hh⟩)
 | 4,4,_,_=>exact ao (LV w F) (by kernel_rfl) h (by simp) (by simp) (λκ w1 hh=>⟨rfl,hh⟩)
end Go.Proofs.Ytankbefdlbcdnaa
namespace Go.Ev
open Go.RowKit
section
variable{k:Kn}{P:Program}{g g':Nat}{l:List aK}{ci:Nat}{t e:TypeId}{n sz m:Nat}{v:Value}{xs:List Value}{sP:Nat}
theorem pN{x r:Value}(hg:k.gs[g]? = some (star l))(hi:l[ci]? = some (aO e sz v n xs))(hL:oB P t 1)(hm:xs[m]? = some x)(hn:m<n*sz)(hP:k.val sP=au v m)(hV:∀ ι,(letI:aL:=k.sig;aw ι r x)):aD k P ⟨[1,t],[sy sP],none,g,none,.agg #[r],none⟩:=by
 refine aD.load k ?_;letI:aL:=k.sig;intro ι F w d x' q hx;obtain⟨Fs,ff,hS,hf,h1⟩:=a_ hg hi q;rw[bH hx,hP];obtain⟨b,off,c,_,e2,_,e3,_⟩:=kh h1 hn;rw[e2];refine⟨.agg #[x],w,hL b (off+m) [x] w rfl (λj hj=>?_),?_,Below.refl _ _⟩
 ·obtain rfl:j=0:=by omega
  rw[Nat.add_zero,e3,hm];rfl
 ·refine .agg _ _ rfl (λi a b h1 h2=>?_)
  match i with
  | 0=>simp at h1 h2;subst h1 h2;exact hV _
  | i+1=>simp at h1
end
end Go.Ev
namespace Go.Proofs.Ytankbefdlbcdnaa
open Go.Ev Go.Proofs.Try
open Go.RowKit
def mQ(gs:List (Int×Int)):List Value:=gs.flatMap (λp=>[.int .i64 p.1,.int .i64 p.2])
theorem nC{gs:List (Int×Int)}{j:Nat}{p:Int×Int}(h:gs[j]? = some p):(mQ gs)[j*2]? = some (.int .i64 p.1)/\(mQ gs)[j*2+1]? = some (.int .i64 p.2):=by
 induction gs generalizing j with
 | nil=>simp at h
 | cons q gs ih =>
  have e:mQ (q::gs)=[.int .i64 q.1,.int .i64 q.2]++mQ gs:=rfl;rw[e];cases j with
  | zero =>
   obtain rfl:q=p:=by simpa using h
   exact⟨rfl,rfl⟩
  | succ j =>
   obtain⟨h1,h2⟩:=ih (j:=j) (by simpa using h);rw[List.getElem?_append_right (by simp;omega),List.getElem?_append_right (by simp;omega)];rw[show(j+1)*2-[Value.int .i64 q.1,Value.int .i64 q.2].length=j*2 by simp;omega,show(j+1)*2+1-[Value.int .i64 q.1,Value.int .i64 q.2].length=j*2+1 by simp;omega];exact⟨h1,h2⟩
theorem tt{gs:List (Int×Int)}{j:Nat}{p:Int×Int}(h:gs[j]? = some p)(x y:Int):(mQ gs).set (j*2) (.int .i64 x)=mQ (gs.set j (x,p.2))/\(mQ gs).set (j*2+1) (.int .i64 y)=mQ (gs.set j (p.1,y)):=by
 induction gs generalizing j with
 | nil=>simp at h
 | cons q gs ih =>
  have e:∀ (q:Int×Int) gs,mQ (q::gs)=.int .i64 q.1::.int .i64 q.2::mQ gs:=λ_ _=>rfl
  cases j with
  | zero =>
   obtain rfl:q=p:=by simpa using h
   exact⟨rfl,rfl⟩
  | succ j =>
   obtain⟨h1,h2⟩:=ih (j:=j) (by simpa using h);rw[List.set_cons_succ,List.set_cons_succ,e,e,e,← h1,← h2];exact⟨by rw[show(j+1)*2=j*2+1+1 by omega];rfl,by rw[show(j+1)*2+1=j*2+1+1+1 by omega];rfl⟩
theorem eI:∃ i,prog.info? 87 = some i/\i.size=2/\i.zero=some (.agg #[.int .i64 0,.int .i64 0])/\i.bytes=16:=pJ (by kernel_rfl)
theorem tu:oB prog 85 1:=by
 intro b o cs w hl h;obtain⟨i,i1,i2,i3,i4⟩:=(pJ (by kernel_rfl):∃ i,prog.info? 85 = some i/\i.size=1/\i.zero=some (.agg #[.int .i64 0])/\i.bytes=8)
 match cs,hl with
 | [c0],_ =>
  have h0:=h 0 (by omega);simp at h0;simp[Instr.loadAt,Instr.sureAddr,loadVar,isAgg,run_underlying underlying85,sizeOf,typeInfo,i1,i2,loadCells,loadCellsFrom,dY,h0]
theorem je:∀ b o w,(Instr.fieldAt 87 (.pointer (some ⟨b,o,none⟩)) 0).run prog w=.ok (.pointer (some ⟨b,o+0,none⟩)) w:=λb o w=>by kernel_rfl
theorem zl:∀ b o w,(Instr.fieldAt 87 (.pointer (some ⟨b,o,none⟩)) 1).run prog w=.ok (.pointer (some ⟨b,o+1,none⟩)) w:=λb o w=>by kernel_rfl
theorem oI:∀ b o w,(Instr.fieldAt 85 (.pointer (some ⟨b,o,none⟩)) 0).run prog w=.ok (.pointer (some ⟨b,o+0,none⟩)) w:=λb o w=>by kernel_rfl
end Go.Proofs.Ytankbefdlbcdnaa
namespace Go.Proofs.Ytankbefdlbcdnaa
open Go.Ev Go.Proofs.Try
open Go.RowKit
open Go.Ev (sy iz uz wz iN uN wN pz dv fc fn ak vk vd kn pc cc cr cm cd fr)
set_option maxRecDepth 8000
attribute [local irreducible] dF
structure TQ where
 W0:World
 F0:Nat->Prop
 bt:Nat
 av:Value
 fh:aR av=true
 gs:List (Int×Int)
 fv:Value
 fC:aR fv=true
 fr:List Int
 j:Nat
 a:Nat
 b:Int
 nx:Nat
 x:Int
 h:gs.length<=256/\fr.length<=256/\a<5/\nx<5/\0<=b/\b<=1000000
theorem TQ.z(q:TQ):q.gs.length<=256/\q.fr.length<=256/\q.a<5/\q.nx<5/\0<=q.b/\q.b<=1000000:=q.h
abbrev eP:List g_:=[(4,[sy 0,sy 1],83)]
abbrev pO(q:TQ):aK:=aO 3 1 (q.fv) (q.fr.length) (aB q.fr)
abbrev iD(q:TQ):List aK:=[aO 87 2 (q.av) (q.gs.length) (mQ q.gs),pO q]
abbrev fD(q:TQ):List aK:=[bv q.bt [q.av,q.fv] 83,aO 87 2 (q.av) (q.gs.length) (mQ q.gs),pO q]
abbrev tv(q:TQ):aK:=aO 87 2 (q.av) (q.gs.length) ((mQ q.gs).set ((q.j)*2+0+0) (iN q.nx))
abbrev Dj(q:TQ):List aK:=[tv q,pO q]
abbrev xH(q:TQ):List (Nat×Value):=[(0,pz q.bt),(1,iN q.j),(2,iN q.nx)]
abbrev Dk(q:TQ):aK:=aO 87 2 (q.av) (q.gs.length) (((mQ q.gs).set ((q.j)*2+0+0) (iz 1)).set ((q.j)*2+1) (iz ((q.b)+1)))
theorem NC(q:TQ)(hj:q.gs[q.j]? = some ((q.a:Int),q.b))(hl:q.j<q.gs.length):aI prog 11 [] 0 19 ⟨q.W0,q.F0⟩ [(0,pz q.bt),(1,iN q.j)] (fD q) (λκ:ag=>(.tuple #[iN q.a,.bool true])) (λκ:ag=>(fD q)):=by have z:=q.z;obtain⟨i,i1,i2,i3,i4⟩:=eI;exact(br (c:=⟨q.W0,q.F0⟩) 40 (kn [q.av,q.fv,au (q.av) ((q.j)*2),au (q.av) ((q.j)*2+0),au (q.av) ((q.j)*2+0+0),iN (q.j),iN (q.gs.length),iN (q.a)] (fc q.fh (fc q.fC (fc (ae _ _) (fc (ae _ _) (fc (ae _ _) fr))))) [(.geq,sy 5,iz 0,.bool true),(.lss,sy 5,sy 6,.bool true)] [] [] (fc (λ_ _ _=>aP (by first|(simp;done)|(simp;omega))) (fc (λ_ _ _=>ax (by first|(simp;done)|(simp;omega))) fn)) fn fn q.W0 q.F0 [iD q] [⟨[10,81],[sy 0],none,0,none,sy 6,none⟩,⟨[3,81],[sy 0,sy 5],none,0,none,sy 2,none⟩,⟨[7,87,0],[sy 2],none,0,none,sy 3,none⟩,⟨[7,85,0],[sy 3],none,0,none,sy 4,none⟩,⟨[1,3],[sy 4],none,0,none,sy 7,none⟩] []) (fc (by exact de (ci:=1) rfl rfl underlying81 i2 rfl rfl) (fc (by exact bZ (ci:=1) (j:=(q.j)) rfl rfl underlying81 i1 i2 rfl rfl (by omega) rfl) (fc (by exact af (ci:=1) (fo:=0) rfl rfl (by omega) je rfl rfl) (fc (by exact af (ci:=1) (fo:=0) rfl rfl (by omega) oI rfl rfl) (fc (by exact ah (ci:=1) (m:=(q.j)*2+0+0) (x:=(iN q.a)) rfl rfl aG (nC hj).1 (by omega) rfl (λι=>(vk (by kernel_rfl) (by kernel_rfl)))) fn))))) fn rfl [(4,q.bt)] eP eP 0 rfl rfl [(0,.pointer (some ⟨4,0,none⟩)),(1,sy 5)] (.tuple #[sy 7,.bool true]))
theorem LW(q:TQ)(hx:q.x<0):aI prog 11 [] 0 19 ⟨q.W0,q.F0⟩ [(0,pz q.bt),(1,iz q.x)] (fD q) (λκ:ag=>(.tuple #[iz 0,.bool false])) (λκ:ag=>(fD q)):=(br (c:=⟨q.W0,q.F0⟩) 40 (kn [q.av,q.fv,iz (q.x)] (fc q.fh (fc q.fC fr)) [(.geq,sy 2,iz 0,.bool false)] [] [] (fc (λ_ _ _=>aP (by have z:=q.z;first|(simp;done)|(simp;omega))) fn) fn fn q.W0 q.F0 [iD q] [] []) fn fn rfl [(4,q.bt)] eP eP 0 rfl rfl [(0,.pointer (some ⟨4,0,none⟩)),(1,sy 2)] (.tuple #[iz 0,.bool false]))
theorem LX(q:TQ)(hx:0<=q.x)(hx2:(q.gs.length:Int)<=q.x):aI prog 11 [] 0 19 ⟨q.W0,q.F0⟩ [(0,pz q.bt),(1,iz q.x)] (fD q) (λκ:ag=>(.tuple #[iz 0,.bool false])) (λκ:ag=>(fD q)):=by have z:=q.z;exact(br (c:=⟨q.W0,q.F0⟩) 40 (kn [q.av,q.fv,iz (q.x),iN (q.gs.length)] (fc q.fh (fc q.fC fr)) [(.geq,sy 2,iz 0,.bool true),(.lss,sy 2,sy 3,.bool false)] [] [] (fc (λ_ _ _=>aP (by first|(simp;done)|(simp;omega))) (fc (λ_ _ _=>ax (by first|(simp;done)|(simp;omega))) fn)) fn fn q.W0 q.F0 [iD q] [⟨[10,81],[sy 0],none,0,none,sy 3,none⟩] []) (fc (by obtain⟨i,i1,i2,i3,i4⟩:=eI;exact de (ci:=1) rfl rfl underlying81 i2 rfl rfl) fn) fn rfl [(4,q.bt)] eP eP 0 rfl rfl [(0,.pointer (some ⟨4,0,none⟩)),(1,sy 2)] (.tuple #[iz 0,.bool false]))
theorem ND(q:TQ)(hj:q.gs[q.j]? = some ((q.a:Int),q.b))(hl:q.j<q.gs.length)(hm:hO q.a q.nx=true)(h0:q.nx≠0):aI prog 10 [] 0 48 ⟨q.W0,q.F0⟩ (xH q) (fD q) (λκ:ag=>(iz 0)) (λκ:ag=>[bv q.bt [q.av,q.fv] 83,tv q,pO q]):=by have z:=q.z;obtain⟨i,i1,i2,i3,i4⟩:=eI;exact(br (c:=⟨q.W0,q.F0⟩) 40 (kn [q.av,q.fv,au (q.av) ((q.j)*2),au (q.av) ((q.j)*2+0),au (q.av) ((q.j)*2+0+0),iN (q.j),iN (q.nx),iN (q.gs.length),iN (q.a)] (fc q.fh (fc q.fC (fc (ae _ _) (fc (ae _ _) (fc (ae _ _) fr))))) [(.geq,sy 5,iz 0,.bool true),(.lss,sy 5,sy 7,.bool true),(.eql,sy 6,iz 0,.bool false)] [] [] (fc (λ_ _ _=>aP (by first|(simp;done)|(simp;omega))) (fc (λ_ _ _=>ax (by first|(simp;done)|(simp;omega))) (fc (λ_ _ _=>bL (by first|(simp;done)|(simp;omega))) fn))) fn fn q.W0 q.F0 [iD q,iD q,Dj q] [⟨[10,81],[sy 0],none,0,none,sy 7,none⟩,⟨[3,81],[sy 0,sy 5],none,0,none,sy 2,none⟩,⟨[7,87,0],[sy 2],none,0,none,sy 3,none⟩,⟨[1,85],[sy 3],none,0,none,.agg #[sy 8],none⟩,⟨[3,81],[sy 0,sy 5],none,1,none,sy 2,none⟩,⟨[7,87,0],[sy 2],none,1,none,sy 3,none⟩,⟨[7,85,0],[sy 3],none,1,none,sy 4,none⟩,⟨[2,3],[sy 4,sy 6],none,1,none,undef,some 2⟩] [⟨28,[.agg #[sy 8],sy 6],0,none,.bool true,some 1⟩]) (fc (by exact de (ci:=1) rfl rfl underlying81 i2 rfl rfl) (fc (by exact bZ (ci:=1) (j:=(q.j)) rfl rfl underlying81 i1 i2 rfl rfl (by omega) rfl) (fc (by exact af (ci:=1) (fo:=0) rfl rfl (by omega) je rfl rfl) (fc (by exact pN (ci:=1) (m:=(q.j)*2+0) (x:=(iN q.a)) rfl rfl tu (nC hj).1 (by omega) rfl (λι=>(vk (by kernel_rfl) (by kernel_rfl)))) (fc (by exact bZ (ci:=1) (j:=(q.j)) rfl rfl underlying81 i1 i2 rfl rfl (by omega) rfl) (fc (by exact af (ci:=1) (fo:=0) rfl rfl (by omega) je rfl rfl) (fc (by exact af (ci:=1) (fo:=0) rfl rfl (by omega) oI rfl rfl) (fc (by exact bD (ci:=1) (m:=(q.j)*2+0+0) (x:=(iN q.nx)) rfl rfl rfl bE (by omega) rfl (cu rfl) rfl) fn)))))))) (fc (cc rfl [] [] [0,1] (λw F ho hn hF=>(xG q.a q.nx (by omega) (by omega) hn).mono (λ_ _ h=>⟨by rw[h.1,hm],h.2⟩))) fn) rfl [(4,q.bt)] eP eP 2 rfl rfl [(0,.pointer (some ⟨4,0,none⟩)),(1,sy 5),(2,sy 6)] (iz 0))
theorem NE(q:TQ)(hj:q.gs[q.j]? = some ((q.a:Int),q.b))(hl:q.j<q.gs.length)(hm:hO q.a q.nx=true)(h0:q.nx=0):aI prog 10 [] 0 48 ⟨q.W0,q.F0⟩ (xH q) (fD q) (λκ:ag=>(iz 0)) (λκ:ag=>[bv q.bt [q.av,dv κ 415] 83,tv q,aO 3 1 (dv κ 415) (q.fr.length+1) ((aB q.fr)++[iN q.j])]):=by have z:=q.z;exact(br (c:=⟨q.W0,q.F0⟩) 40 (kn [q.av,q.fv,au (q.av) ((q.j)*2),au (q.av) ((q.j)*2+0),au (q.av) ((q.j)*2+0+0),iN (q.j),iN (q.nx),iN (q.gs.length),iN (q.a)] (fc q.fh (fc q.fC (fc (ae _ _) (fc (ae _ _) (fc (ae _ _) fr))))) [(.geq,sy 5,iz 0,.bool true),(.lss,sy 5,sy 7,.bool true),(.eql,sy 6,iz 0,.bool true)] [] [] (fc (λ_ _ _=>aP (by first|(simp;done)|(simp;omega))) (fc (λ_ _ _=>ax (by first|(simp;done)|(simp;omega))) (fc (λ_ _ _=>bL (by first|(simp;done)|(simp;omega))) fn))) fn fn q.W0 q.F0 [iD q,iD q,Dj q,[tv q,ce 415 (λv=>aO 3 1 v (q.fr.length+1) ((aB q.fr)++[iN q.j]))]] [⟨[10,81],[sy 0],none,0,none,sy 7,none⟩,⟨[3,81],[sy 0,sy 5],none,0,none,sy 2,none⟩,⟨[7,87,0],[sy 2],none,0,none,sy 3,none⟩,⟨[1,85],[sy 3],none,0,none,.agg #[sy 8],none⟩,⟨[3,81],[sy 0,sy 5],none,1,none,sy 2,none⟩,⟨[7,87,0],[sy 2],none,1,none,sy 3,none⟩,⟨[7,85,0],[sy 3],none,1,none,sy 4,none⟩,⟨[2,3],[sy 4,sy 6],none,1,none,undef,some 2⟩,⟨[11,37,37],[sy 1],some (1,1,[sy 5]),2,some 415,.complex .f32 415 0,some 3⟩] [⟨28,[.agg #[sy 8],sy 6],0,none,.bool true,some 1⟩]) (fc (by obtain⟨i,i1,i2,i3,i4⟩:=eI;exact de (ci:=1) rfl rfl underlying81 i2 rfl rfl) (fc (by obtain⟨i,i1,i2,i3,i4⟩:=eI;exact bZ (ci:=1) (j:=(q.j)) rfl rfl underlying81 i1 i2 rfl rfl (by omega) rfl) (fc (by exact af (ci:=1) (fo:=0) rfl rfl (by omega) je rfl rfl) (fc (by exact pN (ci:=1) (m:=(q.j)*2+0) (x:=(iN q.a)) rfl rfl tu (nC hj).1 (by omega) rfl (λι=>(vk (by kernel_rfl) (by kernel_rfl)))) (fc (by obtain⟨i,i1,i2,i3,i4⟩:=eI;exact bZ (ci:=1) (j:=(q.j)) rfl rfl underlying81 i1 i2 rfl rfl (by omega) rfl) (fc (by exact af (ci:=1) (fo:=0) rfl rfl (by omega) je rfl rfl) (fc (by exact af (ci:=1) (fo:=0) rfl rfl (by omega) oI rfl rfl) (fc (by exact bD (ci:=1) (m:=(q.j)*2+0+0) (x:=(iN q.nx)) rfl rfl rfl bE (by omega) rfl (cu rfl) rfl) (fc (by obtain⟨i,i1,i2,i3,i4⟩:=aT;exact iA (ci:=2) (m:=1) (cs:=[iN q.j]) rfl rfl rfl underlying37 underlying37 i1 i2 (by omega) i3 (by rw[i2];rfl) (by rw[i4];omega) (by omega) rfl rfl (ak (by kernel_rfl) (by kernel_rfl))) fn))))))))) (fc (cc rfl [] [] [0,1] (λw F ho hn hF=>(xG q.a q.nx (by omega) (by omega) hn).mono (λ_ _ h=>⟨by rw[h.1,hm],h.2⟩))) fn) rfl [(4,q.bt)] eP [(4,[sy 0,.complex .f32 415 0],83)] 3 rfl rfl [(0,.pointer (some ⟨4,0,none⟩)),(1,sy 5),(2,sy 6)] (iz 0)).conv (λκ w=>⟨(λ_ h=>h),(λ_ h=>h),(λ_ h=>bN (a:=λv=>aO 3 1 v (q.fr.length+1) ((aB q.fr)++[iN q.j])) (λ_ _ _ _ _ h=>h) h),trivial⟩)
theorem NF(q:TQ)(hj:q.gs[q.j]? = some ((q.a:Int),q.b))(hl:q.j<q.gs.length)(hm:hO q.a q.nx=false):aI prog 10 [] 0 48 ⟨q.W0,q.F0⟩ (xH q) (fD q) (λκ:ag=>(iz 4)) (λκ:ag=>(fD q)):=by have z:=q.z;obtain⟨i,i1,i2,i3,i4⟩:=eI;exact(br (c:=⟨q.W0,q.F0⟩) 40 (kn [q.av,q.fv,au (q.av) ((q.j)*2),au (q.av) ((q.j)*2+0),iN (q.j),iN (q.nx),iN (q.gs.length),iN (q.a)] (fc q.fh (fc q.fC (fc (ae _ _) (fc (ae _ _) fr)))) [(.geq,sy 4,iz 0,.bool true),(.lss,sy 4,sy 6,.bool true)] [] [] (fc (λ_ _ _=>aP (by first|(simp;done)|(simp;omega))) (fc (λ_ _ _=>ax (by first|(simp;done)|(simp;omega))) fn)) fn fn q.W0 q.F0 [iD q,iD q] [⟨[10,81],[sy 0],none,0,none,sy 6,none⟩,⟨[3,81],[sy 0,sy 4],none,0,none,sy 2,none⟩,⟨[7,87,0],[sy 2],none,0,none,sy 3,none⟩,⟨[1,85],[sy 3],none,0,none,.agg #[sy 7],none⟩] [⟨28,[.agg #[sy 7],sy 5],0,none,.bool false,some 1⟩]) (fc (by exact de (ci:=1) rfl rfl underlying81 i2 rfl rfl) (fc (by exact bZ (ci:=1) (j:=(q.j)) rfl rfl underlying81 i1 i2 rfl rfl (by omega) rfl) (fc (by exact af (ci:=1) (fo:=0) rfl rfl (by omega) je rfl rfl) (fc (by exact pN (ci:=1) (m:=(q.j)*2+0) (x:=(iN q.a)) rfl rfl tu (nC hj).1 (by omega) rfl (λι=>(vk (by kernel_rfl) (by kernel_rfl)))) fn)))) (fc (cc rfl [] [] [0,1] (λw F ho hn hF=>(xG q.a q.nx (by omega) (by omega) hn).mono (λ_ _ h=>⟨by rw[h.1,hm],h.2⟩))) fn) rfl [(4,q.bt)] eP eP 1 rfl rfl [(0,.pointer (some ⟨4,0,none⟩)),(1,sy 4),(2,sy 5)] (iz 4))
theorem ttl(q:TQ)(hx:q.x<0):aI prog 10 [] 0 48 ⟨q.W0,q.F0⟩ [(0,pz q.bt),(1,iz q.x),(2,iN q.nx)] (fD q) (λκ:ag=>(iz 5)) (λκ:ag=>(fD q)):=(br (c:=⟨q.W0,q.F0⟩) 40 (kn [q.av,q.fv,iz (q.x),iN (q.nx)] (fc q.fh (fc q.fC fr)) [(.geq,sy 2,iz 0,.bool false)] [] [] (fc (λ_ _ _=>aP (by have z:=q.z;first|(simp;done)|(simp;omega))) fn) fn fn q.W0 q.F0 [iD q] [] []) fn fn rfl [(4,q.bt)] eP eP 0 rfl rfl [(0,.pointer (some ⟨4,0,none⟩)),(1,sy 2),(2,sy 3)] (iz 5))
theorem NG(q:TQ)(hx:0<=q.x)(hx2:(q.gs.length:Int)<=q.x):aI prog 10 [] 0 48 ⟨q.W0,q.F0⟩ [(0,pz q.bt),(1,iz q.x),(2,iN q.nx)] (fD q) (λκ:ag=>(iz 5)) (λκ:ag=>(fD q)):=by have z:=q.z;exact(br (c:=⟨q.W0,q.F0⟩) 40 (kn [q.av,q.fv,iz (q.x),iN (q.nx),iN (q.gs.length)] (fc q.fh (fc q.fC fr)) [(.geq,sy 2,iz 0,.bool true),(.lss,sy 2,sy 4,.bool false)] [] [] (fc (λ_ _ _=>aP (by first|(simp;done)|(simp;omega))) (fc (λ_ _ _=>ax (by first|(simp;done)|(simp;omega))) fn)) fn fn q.W0 q.F0 [iD q] [⟨[10,81],[sy 0],none,0,none,sy 4,none⟩] []) (fc (by obtain⟨i,i1,i2,i3,i4⟩:=eI;exact de (ci:=1) rfl rfl underlying81 i2 rfl rfl) fn) fn rfl [(4,q.bt)] eP eP 0 rfl rfl [(0,.pointer (some ⟨4,0,none⟩)),(1,sy 2),(2,sy 3)] (iz 5))
theorem NH(q:TQ)(hz:q.fr.length=0):aI prog 9 [] 0 52 ⟨q.W0,q.F0⟩ [(0,pz q.bt)] (fD q) (λκ:ag=>(.tuple #[(.int .i64 (-1)),iz 130])) (λκ:ag=>(fD q)):=by have z:=q.z;exact(br (c:=⟨q.W0,q.F0⟩) 40 (kn [q.av,q.fv,iN (q.fr.length),iz (((q.fr.length:Nat):Int)-1)] (fc q.fh (fc q.fC fr)) [(.sub,sy 2,iz 1,sy 3),(.lss,sy 3,iz 0,.bool true)] [] [] (fc (λ_ _ _=>jE (by exact aM (by omega) (by omega))) (fc (λ_ _ _=>ax (by first|(simp;done)|(simp;omega))) fn)) fn fn q.W0 q.F0 [iD q] [⟨[10,37],[sy 1],none,0,none,sy 2,none⟩] []) (fc (by obtain⟨i,i1,i2,i3,i4⟩:=aT;exact de (ci:=2) rfl rfl underlying37 i2 rfl rfl) fn) fn rfl [(4,q.bt)] eP eP 0 rfl rfl [(0,.pointer (some ⟨4,0,none⟩))] (.tuple #[.int .i64 (-1),iz 130]))
theorem NI(q:TQ)(hj:q.gs[q.j]? = some ((q.a:Int),q.b))(hl:q.j<q.gs.length)(hp:0<q.fr.length)(hfr:(aB q.fr)[(q.fr.length-1)*1]? = some (.int .i64 (q.j:Int))):aI prog 9 [] 0 52 ⟨q.W0,q.F0⟩ [(0,pz q.bt)] (fD q) (λκ:ag=>(.tuple #[iN q.j,iz 0])) (λκ:ag=>[bv q.bt [q.av,(Ev.cutV 1 (q.fv) 0 (q.fr.length-1))] 83,Dk q,pO q]):=by have z:=q.z;exact(br (c:=⟨q.W0,q.F0⟩) 40 (kn [q.av,q.fv,au (q.fv) ((q.fr.length-1)*1),Ev.cutV 1 (q.fv) 0 (q.fr.length-1),au (q.av) ((q.j)*2),au (q.av) ((q.j)*2+0),au (q.av) ((q.j)*2+0+0),au (q.av) ((q.j)*2+1),iN (q.fr.length),iN (q.fr.length-1),iN (q.j),iz (q.b),iz ((q.b)+1)] (fc q.fh (fc q.fC (fc (ae _ _) (fc (by first | assumption | exact iB q.fC | exact q.fh | exact q.fC) (fc (ae _ _) (fc (ae _ _) (fc (ae _ _) (fc (ae _ _) fr)))))))) [(.sub,sy 8,iz 1,sy 9),(.lss,sy 9,iz 0,.bool false),(.add,sy 11,iz 1,sy 12)] [] [] (fc (λ_ _ _=>jE (by rw[aM (by omega) (by omega)];omega)) (fc (λ_ _ _=>ax (by first|(simp;done)|(simp;omega))) (fc (λ_ _ _=>bM (by exact aM (by omega) (by omega))) fn))) fn fn q.W0 q.F0 [iD q,[aO 87 2 (q.av) (q.gs.length) ((mQ q.gs).set ((q.j)*2+0+0) (iz 1)),pO q],[Dk q,pO q]] [⟨[10,37],[sy 1],none,0,none,sy 8,none⟩,⟨[3,37],[sy 1,sy 9],none,0,none,sy 2,none⟩,⟨[1,3],[sy 2],none,0,none,sy 10,none⟩,⟨[4,37,0,1,0],[sy 1,sy 9],none,0,none,sy 3,none⟩,⟨[3,81],[sy 0,sy 10],none,0,none,sy 4,none⟩,⟨[7,87,0],[sy 4],none,0,none,sy 5,none⟩,⟨[7,85,0],[sy 5],none,0,none,sy 6,none⟩,⟨[2,3],[sy 6,iz 1],none,0,none,undef,some 1⟩,⟨[3,81],[sy 0,sy 10],none,1,none,sy 4,none⟩,⟨[7,87,1],[sy 4],none,1,none,sy 7,none⟩,⟨[1,3],[sy 7],none,1,none,sy 11,none⟩,⟨[2,3],[sy 7,sy 12],none,1,none,undef,some 2⟩] []) (fc (by obtain⟨i,i1,i2,i3,i4⟩:=aT;exact de (ci:=2) rfl rfl underlying37 i2 rfl rfl) (fc (by obtain⟨i,i1,i2,i3,i4⟩:=aT;exact bZ (ci:=2) (j:=(q.fr.length-1)) rfl rfl underlying37 i1 i2 rfl rfl (by omega) rfl) (fc (by exact ah (ci:=2) (m:=(q.fr.length-1)*1) (x:=(iN q.j)) rfl rfl aG hfr (by omega) rfl (λι=>(vk (by kernel_rfl) (by kernel_rfl)))) (fc (by obtain⟨i,i1,i2,i3,i4⟩:=aT;exact Jz (ci:=2) (hi:=(q.fr.length-1)) rfl rfl underlying37 i1 i2 rfl rfl (by omega) rfl) (fc (by obtain⟨i,i1,i2,i3,i4⟩:=eI;exact bZ (ci:=1) (j:=(q.j)) rfl rfl underlying81 i1 i2 rfl rfl (by omega) rfl) (fc (by exact af (ci:=1) (fo:=0) rfl rfl (by omega) je rfl rfl) (fc (by exact af (ci:=1) (fo:=0) rfl rfl (by omega) oI rfl rfl) (fc (by exact bD (ci:=1) (m:=(q.j)*2+0+0) (x:=(iz 1)) rfl rfl rfl bE (by omega) rfl dM rfl) (fc (by obtain⟨i,i1,i2,i3,i4⟩:=eI;exact bZ (ci:=1) (j:=(q.j)) rfl rfl underlying81 i1 i2 rfl rfl (by omega) rfl) (fc (by exact af (ci:=1) (fo:=1) rfl rfl (by omega) zl rfl rfl) (fc (by exact ah (ci:=1) (m:=(q.j)*2+1) (x:=(iz q.b)) rfl rfl aG (ja (by omega) (nC hj).2) (by omega) rfl (λι=>(vk (by kernel_rfl) (by kernel_rfl)))) (fc (by exact bD (ci:=1) (m:=(q.j)*2+1) (x:=(iz ((q.b)+1))) rfl rfl rfl bE (by omega) rfl (cu rfl) rfl) fn)))))))))))) fn rfl [(4,q.bt)] eP [(4,[sy 0,sy 3],83)] 2 rfl rfl [(0,.pointer (some ⟨4,0,none⟩))] (.tuple #[sy 10,iz 0]))
end Go.Proofs.Ytankbefdlbcdnaa
namespace Go.Proofs.Ytankbefdlbcdnaa
open Go.Ev Go.Proofs.Try
open Go.RowKit
open Go.Ev (iz iN pz)
structure Tab where
 gs:List (Nat×Nat)
 fr:List Nat
def Tab.g(t:Tab):List (Int×Int):=t.gs.map (λp:Nat×Nat=>((p.1:Int),(p.2:Int)))
def Tab.f(t:Tab):List Int:=t.fr.map (λj:Nat=>(j:Int))
structure Tab.Ok(t:Tab):Prop where
 n:t.gs.length<=256
 fn:t.fr.length<=256
 st:∀ p ∈ t.gs,p.1<5/\p.2<=100000
 fr:∀ j ∈ t.fr,j<t.gs.length
abbrev lG(bt:Nat)(av fv:Value)(gs:List (Int×Int))(fr:List Int):List aK:=[bv bt [av,fv] 83,aO 87 2 av gs.length (mQ gs),aO 3 1 fv fr.length (aB fr)]
def Gd(bt:Nat)(t:Tab):aK:=Jt (λ_:Value×Value=>True) (λp=>CF (lG bt p.1 p.2 t.g t.f))
def aE(bt:Nat)(t:Tab):aK where
 p:=λ_ F w=>(Gd bt t).p (λ_=>none) F w
 keep:=λ_ F w w' hk h=>(Gd bt t).keep (λ_=>none) F w w' hk h
 mono:=λ_ _ _ _ _ h=>h
section
variable{c:eO}{l:List aK}{w:World}{bt:Nat}{t:Tab}
theorem Dl(h:ay c (aE bt t::l) w):∃ av fv,ay c (lG bt av fv t.g t.f++l) w:=by
 have h1:ay c (Gd bt t::l) w:=h.head (λF h=>h);obtain⟨p,_,h2⟩:=ay.Ju (a:=λp:Value×Value=>CF (lG bt p.1 p.2 t.g t.f)) h1;exact⟨p.1,p.2,h2.open⟩
theorem cR{av fv:Value}{gs:List (Int×Int)}{fr:List Int}(h:ay c (lG bt av fv gs fr++l) w)(hg:gs=t.g)(hf:fr=t.f):ay c (aE bt t::l) w:=by
 subst hg hf;have h2:ay c (Gd bt t::l) w:=ay.Jv (a:=λp:Value×Value=>CF (lG bt p.1 p.2 t.g t.f)) (av,fv) trivial h.shut;exact h2.head (λF h=>h)
theorem Tab.vH{j:Nat}{p:Nat×Nat}(h:t.gs[j]? = some p):t.g[j]? = some ((p.1:Int),(p.2:Int)):=by
 unfold Tab.g;rw[List.getElem?_map,h];rfl
theorem Tab.mF:t.g.length=t.gs.length:=by simp[Tab.g]
theorem Tab.Dm:t.f.length=t.fr.length:=by simp[Tab.f]
variable{F:Nat->Prop}
abbrev tq(w:World)(F:Nat->Prop)(bt:Nat)(av fv:Value)(fh:aR av=true)(fC:aR fv=true)(t:Tab)(j a b nx:Nat)(x:Int)(O:t.Ok)(h:a<5/\nx<5/\b<=1000000):TQ :=
 ⟨w,F,bt,av,fh,t.g,fv,fC,t.f,j,a,b,nx,x,⟨by rw[Tab.mF];exact O.n,by rw[Tab.Dm];exact O.fn,h.1,h.2.1,by omega,by omega⟩⟩
theorem dP{fn:FuncId}{args:Array Value}{R:Ending->World->Prop}(h:bu [aE bt t] F w)(H:∀ av fv (fh:aR av=true) (fC:aR fv=true) (G:Nat->Prop),bu (lG bt av fv t.g t.f) G w->(∀ (m:List aK) (w':World),ay ⟨w,G⟩ m w'->ay ⟨w,F⟩ m w')->Calls prog fn args w R):Calls prog fn args w R:=by
 obtain⟨av,fv,h1⟩:=Dl (ay.start h);rw[List.append_nil]at h1;have fh:aR av=true:=bV (h1.sel [1]);have fC:aR fv=true:=bV (h1.sel [2]);obtain⟨G,n1,n2,n3⟩:=h1.ex;exact H av fv fh fC G n1 (λm w' h=>h.into (l:=[]) n2 n3)
theorem bP(O:t.Ok){j a b:Nat}(hj:t.gs[j]? = some (a,b))(h:bu [aE bt t] F w) :
  Calls prog 11 #[pz bt,iN j] w λe w'=>e=.returned (.tuple #[iN a,.bool true])/\ay ⟨w,F⟩ [aE bt t] w':=by
 have hp:=O.st _ (List.mem_of_getElem? hj);refine dP h (λav fv fh fC G n1 n2=>?_);exact ao (NC (tq w G bt av fv fh fC t j a b 0 0 O ⟨hp.1,by decide,by omega⟩) (Tab.vH hj) (by show j<t.g.length;rw[Tab.mF];exact(List.getElem?_eq_some_iff.1 hj).1)) (by kernel_rfl) n1 (by simp) (by simp) (λκ w1 hh=>⟨rfl,cR (l:=[]) (n2 _ _ hh) rfl rfl⟩)
theorem pP(O:t.Ok){x:Int}(hx:x<0\/(t.gs.length:Int)<=x)(h:bu [aE bt t] F w) :
  Calls prog 11 #[pz bt,iz x] w λe w'=>e=.returned (.tuple #[.int .i64 0,.bool false])/\ay ⟨w,F⟩ [aE bt t] w':=by
 refine dP h (λav fv fh fC G n1 n2=>?_)
 by_cases h0:x<0
 ·exact ao (LW (tq w G bt av fv fh fC t 0 0 0 0 x O (by decide)) h0) (by kernel_rfl) n1 (by simp) (by simp) (λκ w1 hh=>⟨rfl,cR (l:=[]) (n2 _ _ hh) rfl rfl⟩)
 ·exact ao (LX (tq w G bt av fv fh fC t 0 0 0 0 x O (by decide)) (by show 0<=x;omega) (by show(t.g.length:Int)<=x;rw[Tab.mF];omega)) (by kernel_rfl) n1 (by simp) (by simp) (λκ w1 hh=>⟨rfl,cR (l:=[]) (n2 _ _ hh) rfl rfl⟩)
theorem zm(O:t.Ok){x:Int}{nx:Nat}(hn:nx<5)(hx:x<0\/(t.gs.length:Int)<=x)(h:bu [aE bt t] F w) :
  Calls prog 10 #[pz bt,iz x,iN nx] w λe w'=>e=.returned (.int .i64 5)/\ay ⟨w,F⟩ [aE bt t] w':=by
 refine dP h (λav fv fh fC G n1 n2=>?_)
 by_cases h0:x<0
 ·exact ao (ttl (tq w G bt av fv fh fC t 0 0 0 nx x O ⟨by decide,hn,by decide⟩) h0) (by kernel_rfl) n1 (by simp) (by simp) (λκ w1 hh=>⟨rfl,cR (l:=[]) (n2 _ _ hh) rfl rfl⟩)
 ·exact ao (NG (tq w G bt av fv fh fC t 0 0 0 nx x O ⟨by decide,hn,by decide⟩) (by show 0<=x;omega) (by show(t.g.length:Int)<=x;rw[Tab.mF];omega)) (by kernel_rfl) n1 (by simp) (by simp) (λκ w1 hh=>⟨rfl,cR (l:=[]) (n2 _ _ hh) rfl rfl⟩)
def Tab.set(t:Tab)(j nx:Nat):Tab:=⟨t.gs.set j (nx,((t.gs[j]?).getD (0,0)).2),if nx=0 then t.fr++[j] else t.fr⟩
theorem Tab.G8{j a b nx:Nat}(hj:t.gs[j]? = some (a,b)):(t.set j nx).g=t.g.set j ((nx:Int),(b:Int)):=by
 unfold Tab.set Tab.g;rw[hj];simp[List.map_set]
theorem Ij(O:t.Ok){j a b nx:Nat}(hn:nx<5)(hj:t.gs[j]? = some (a,b))(hm:hO a nx=false)(h:bu [aE bt t] F w) :
  Calls prog 10 #[pz bt,iN j,iN nx] w λe w'=>e=.returned (.int .i64 4)/\ay ⟨w,F⟩ [aE bt t] w':=by
 have hp:=O.st _ (List.mem_of_getElem? hj);refine dP h (λav fv fh fC G n1 n2=>?_);exact ao (NF (tq w G bt av fv fh fC t j a b nx 0 O ⟨hp.1,hn,by omega⟩) (Tab.vH hj) (by show j<t.g.length;rw[Tab.mF];exact(List.getElem?_eq_some_iff.1 hj).1) hm) (by kernel_rfl) n1 (by simp) (by simp) (λκ w1 hh=>⟨rfl,cR (l:=[]) (n2 _ _ hh) rfl rfl⟩)
theorem jf(O:t.Ok){j a b nx:Nat}(hn:nx<5)(hj:t.gs[j]? = some (a,b))(hm:hO a nx=true)(h:bu [aE bt t] F w) :
  Calls prog 10 #[pz bt,iN j,iN nx] w λe w'=>e=.returned (.int .i64 0)/\ay ⟨w,F⟩ [aE bt (t.set j nx)] w':=by
 have hp:=O.st _ (List.mem_of_getElem? hj);have hl:j<t.g.length:=by rw[Tab.mF];exact(List.getElem?_eq_some_iff.1 hj).1
 have hgs:=(tt (Tab.vH hj) nx (b:Int)).1;refine dP h (λav fv fh fC G n1 n2=>?_)
 by_cases h0:nx=0
 ·refine ao (NE (tq w G bt av fv fh fC t j a b nx 0 O ⟨hp.1,hn,by omega⟩) (Tab.vH hj) hl hm h0) (by kernel_rfl) n1 (by simp) (by simp) (λκ w1 hh=>⟨rfl,?_⟩)
  have EJ:=n2 _ _ hh;have hf2:(t.set j nx).f=t.f++[(j:Int)]:=by unfold Tab.set Tab.f;simp[h0]
  refine cR (l:=[]) (av:=av) (fv:=Ev.dv κ 415) (gs:=t.g.set j ((nx:Int),(b:Int))) (fr:=t.f++[(j:Int)]) ?_ (Tab.G8 hj).symm hf2.symm;have e1:aB (t.f++[(j:Int)])=aB t.f++[.int .i64 (j:Int)]:=by simp[aB]
  unfold lG;rw[List.length_set,← hgs,e1,List.length_append];exact EJ
 ·refine ao (ND (tq w G bt av fv fh fC t j a b nx 0 O ⟨hp.1,hn,by omega⟩) (Tab.vH hj) hl hm h0) (by kernel_rfl) n1 (by simp) (by simp) (λκ w1 hh=>⟨rfl,?_⟩)
  have EJ:=n2 _ _ hh;have hf2:(t.set j nx).f=t.f:=by unfold Tab.set Tab.f;simp[h0]
  refine cR (l:=[]) (av:=av) (fv:=fv) (gs:=t.g.set j ((nx:Int),(b:Int))) (fr:=t.f) ?_ (Tab.G8 hj).symm hf2.symm;unfold lG;rw[List.length_set,← hgs];exact EJ
def Tab.make(t:Tab)(j:Nat):Tab:=⟨t.gs.set j (1,((t.gs[j]?).getD (0,0)).2+1),t.fr.take (t.fr.length-1)⟩
theorem Ge(O:t.Ok)(hz:t.fr=[])(h:bu [aE bt t] F w) :
  Calls prog 9 #[pz bt] w λe w'=>e=.returned (.tuple #[.int .i64 (-1),.int .i64 130])/\ay ⟨w,F⟩ [aE bt t] w':=by
 refine dP h (λav fv fh fC G n1 n2=>?_);exact ao (NH (tq w G bt av fv fh fC t 0 0 0 0 0 O (by decide)) (by show t.f.length=0;rw[Tab.Dm,hz];rfl)) (by kernel_rfl) n1 (by simp) (by simp) (λκ w1 hh=>⟨rfl,cR (l:=[]) (n2 _ _ hh) rfl rfl⟩)
theorem vI(O:t.Ok){j a b:Nat}(hf:t.fr[t.fr.length-1]? = some j)(hj:t.gs[j]? = some (a,b))(h:bu [aE bt t] F w) :
  Calls prog 9 #[pz bt] w λe w'=>e=.returned (.tuple #[iN j,.int .i64 0])/\ay ⟨w,F⟩ [aE bt (t.make j)] w':=by
 have hp:=O.st _ (List.mem_of_getElem? hj);have hl:j<t.g.length:=by rw[Tab.mF];exact(List.getElem?_eq_some_iff.1 hj).1
 have hfl:0<t.fr.length:=by have:=(List.getElem?_eq_some_iff.1 hf).1;omega
 have hg1:=(tt (Tab.vH hj) 1 (b:Int)).1;have hj2:(t.g.set j ((1:Int),(b:Int)))[j]? = some ((1:Int),(b:Int)):=List.getElem?_set_self hl;have hg2:=(tt hj2 0 ((b:Int)+1)).2;have hfr:(aB t.f)[(t.f.length-1)*1]? = some (.int .i64 (j:Int)):=by
  unfold aB Tab.f;rw[Nat.mul_one,List.getElem?_map,List.length_map,List.getElem?_map,hf];rfl
 refine dP h (λav fv fh fC G n1 n2=>?_);refine ao (NI (tq w G bt av fv fh fC t j a b 0 0 O ⟨hp.1,by decide,by omega⟩) (Tab.vH hj) hl (by show 0<t.f.length;rw[Tab.Dm];exact hfl) hfr) (by kernel_rfl) n1 (by simp) (by simp) (λκ w1 hh=>⟨rfl,?_⟩);have EJ:=(((n2 _ _ hh).sel [2,0,1]).H6 (hi:=t.f.length-1) (by show t.f.length-1<=t.f.length;omega)).sel [1,2,0];have e1:(t.make j).g=t.g.set j ((1:Int),((b:Int)+1)):=by
  unfold Tab.make Tab.g;rw[hj];simp[List.map_set]
 have e2:(t.make j).f=t.f.take (t.f.length-1):=by
  unfold Tab.make Tab.f;rw[List.length_map,List.map_take]
 refine cR (l:=[]) (av:=av) (fv:=Ev.cutV 1 fv 0 (t.f.length-1)) (gs:=t.g.set j ((1:Int),((b:Int)+1))) (fr:=t.f.take (t.f.length-1)) ?_ e1.symm e2.symm;have e3:aB (t.f.take (t.f.length-1))=(aB t.f).take ((t.f.length-1)*1):=by simp[aB,List.map_take]
 have e4:mQ (t.g.set j ((1:Int),((b:Int)+1)))=((mQ t.g).set (j*2+0+0) (.int .i64 1)).set (j*2+1) (.int .i64 ((b:Int)+1)):=by
  rw[show j*2+0+0=j*2 from rfl,hg1,hg2,List.set_set]
 unfold lG;rw[e3,e4,List.length_set,List.length_take,Nat.min_eq_left (by omega)];exact EJ
end
end Go.Proofs.Ytankbefdlbcdnaa
