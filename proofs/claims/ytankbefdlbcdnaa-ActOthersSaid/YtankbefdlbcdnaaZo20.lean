/- Part of a proof: see the last text. -/
import Derived.Test.YtankbefdlbcdnaaZo19
namespace Go.Proofs.Ytankbefdlbcdnaa
open Go.RowKit
open Go.Ev (iz iN pz)
set_option linter.unusedVariables false
set_option linter.unusedSimpArgs false
theorem LnIs.set {xs:List Value} {m p:Nat} {o:Option Nat} {l:List Int} {hd tl:Int} {f:Int→Option Lk} (h:LnIs xs m o l hd tl f) (hp:p < m∨m+3≤p) (v:Value) : LnIs (xs.set p v) m o l hd tl f :=
 ⟨by rw [List.getElem?_set_ne (by omega)]; exact h.v,by rw [List.getElem?_set_ne (by omega)]; exact h.h,by rw [List.getElem?_set_ne (by omega)]; exact h.t,h.rep,h.no⟩
structure Off (xs xs':List Value) (k:Nat) : Prop where
 len:xs'.length=xs.length
 at':∀ p,(p < km k∨km k+4≤p)→xs'[p]? = xs[p]?
theorem Off.set {xs:List Value} {k p:Nat} {v:Value} (h1:km k≤p) (h2:p < km k+4) : Off xs (xs.set p v) k:=⟨by simp,fun q hq=>by rw [List.getElem?_set_ne (by omega)]⟩
theorem Off.trans {a b c:List Value} {k:Nat} (h:Off a b k) (g:Off b c k) : Off a c k:=⟨g.len.trans h.len,fun p hp=>(g.at' p hp).trans (h.at' p hp)⟩
theorem Off.push {xs:List Value} {k:Nat} {l:List Int} {x:Int} : Off xs (pushX xs (km k+0) l x) k:=by
 unfold pushX
 split
 ·exact (Off.set (by omega) (by omega)).trans (Off.set (by omega) (by omega))
 ·exact Off.set (by omega) (by omega)
theorem push_ct {xs:List Value} {k:Nat} {l:List Int} {x:Int} {v:Value} : (pushX (xs.set (km k+0) v) (km k+0) l x)[km k+3]? = xs[km k+3]?:=by
 unfold pushX
 split
 ·rw [List.getElem?_set_ne (by omega),List.getElem?_set_ne (by omega),List.getElem?_set_ne (by omega)]
 ·rw [List.getElem?_set_ne (by omega),List.getElem?_set_ne (by omega)]
theorem rm_ct {xs:List Value} {k:Nat} {r:List Int} {f:Int→Option Lk} {x:Int} : (rmX xs (km k+0) r f x)[km k+3]? = xs[km k+3]?:=by
 unfold rmX
 split
 ·rw [List.getElem?_set_ne (by omega),List.getElem?_set_ne (by omega)]
 ·rw [List.getElem?_set_ne (by omega)]
theorem Off.rm {xs:List Value} {k:Nat} {r:List Int} {f:Int→Option Lk} {x:Int} : Off xs (rmX xs (km k+0) r f x) k:=by
 unfold rmX
 split
 ·exact (Off.set (by omega) (by omega)).trans (Off.set (by omega) (by omega))
 ·exact Off.set (by omega) (by omega)
theorem Off.cells {xs xs':List Value} {k:Nat} {nn:Int} {bw:Nat} (h:Off xs xs' k) (hk:k < 4) (c:Cells xs nn bw) : Cells xs' nn bw :=
 ⟨h.len.trans c.len,(h.at' _ (.inr (by unfold km; omega))).trans c.cn,(h.at' _ (.inr (by unfold km; omega))).trans c.cw,c.cb⟩
theorem Off.ln {xs xs':List Value} {k j:Nat} {y:LnS} (h:Off xs xs' k) (hj:j ≠ k) (L:y.At xs j) : y.At xs' j :=
 have q:∀ d,d < 4→(km j+d < km k∨km k+4≤km j+d):=fun d hd=>by unfold km; omega
 ⟨(h.at' _ (q 0 (by omega))).trans L.v,(h.at' _ (q 1 (by omega))).trans L.h,(h.at' _ (q 2 (by omega))).trans L.t,L.rep,L.no⟩
theorem Off.ct {xs xs':List Value} {k j:Nat} (h:Off xs xs' k) (hj:j ≠ k) : xs'[km j+3]? = xs[km j+3]?:=h.at' _ (by unfold km; omega)
theorem SemI.Fits.turn {i:SemI} {s:Sem} (hi:i.Fits s) {k:Nat} (hk:k < 4) {xs':List Value} (ho:Off i.xs xs' k) {y:LnS} {fw':Int→Option Int} {s':Sem} (hn:s'.nn=s.nn) (hy:y.At xs' k∧y.l=s'.ln k∧xs'[km k+3]? = some (.int .i64 (s'.ct k:Int))) (hs:∀ j,j ≠ k→s'.ln j=s.ln j∧s'.ct j=s.ct j)
  (hw:∀ j,j < 4→∀ g ∈ s'.ln j,fw' g=some (j:Int)) (hno:∀ g,(∀ j,j < 4→g ∉ s'.ln j)→fw' g=none) : (⟨i.bw,fw',xs',setZ i.z k y⟩ : SemI).Fits s':=by
 refine ⟨by rw [hn]; exact ho.cells hk hi.c,fun j hj=>?_,hw,hno⟩
 by_cases e:j=k
 ·subst e
  show (setZ i.z j y j).At xs' j∧(setZ i.z j y j).l=s'.ln j∧xs'[km j+3]? = _
  rw [show setZ i.z j y j=y from if_pos rfl]
  exact hy
 ·obtain ⟨h1,h2,h3⟩:=hi.z j hj
  show (setZ i.z k y j).At xs' j∧(setZ i.z k y j).l=s'.ln j∧xs'[km j+3]? = _
  rw [show setZ i.z k y j=i.z j from if_neg e,(hs j e).1,(hs j e).2]
  exact ⟨ho.ln e h1,h2,(ho.ct e).trans h3⟩
theorem setZ_same {α:Type} {z:Nat→α} {k:Nat} {y:α} : setZ z k y k=y:=if_pos rfl
theorem setZ_ne {α:Type} {z:Nat→α} {k j:Nat} {y:α} (h:j ≠ k) : setZ z k y j=z j:=if_neg h
section
variable {w:World} {F:Nat→Prop} {bs k:Nat} {s:Sem} {g:Int}
theorem sem_gain (O:s.Ok) (hk:k < s.nn) (hg:0≤g∧g < 4096) (hf:∀ j,j < 4→g ∉ s.ln j) (hc:0 < s.ct k) (h:Ev.Now [semA bs s] F w) :
  Calls Try.prog 56 #[sP bs 0,iN k,iz g] w fun e w'=>e=.returned (.tuple #[.bool true,.int .i64 0])∧Ev.Hold ⟨w,F⟩ [semA bs { s with ct:=setZ s.ct k (s.ct k - 1) }] w':=by
 have h4:k < 4:=by have:=O.n1; omega
 refine sem_call h4 h (fun i G hi n1 back=>?_)
 obtain ⟨h1,h2,h3⟩:=hi.z k h4
 have hct:=O.ct k h4
 refine call_part (l:=[sA bs i.xs,whA i.bw s.nw i.fw]) (r:=[lnP (i.z k)]) (Ev.Hold.start n1) (fun G2 m1 m2=>?_)
 refine (acq_gain hi.c h4 (by omega) hg (by have:=O.nw; omega) (hi.no g hf) h3 (by omega) m1).mono (fun e w' ⟨he,hh⟩=>⟨he,?_⟩)
 have hb:=back [] _ _ _ _ w' (m2 _ _ hh)
 refine sem_shut (l:=[]) (i:=⟨i.bw,i.fw,_,setZ i.z k (i.z k)⟩) (hi.turn h4 (Off.set (by omega) (by omega)) rfl ⟨h1.set (by omega) _,h2,?_⟩ (fun j hj=>⟨rfl,setZ_ne hj⟩) hi.w hi.no) hb
 rw [List.getElem?_set_self (by rw [hi.c.len]; unfold km; omega)]
 show some (iz ((s.ct k:Int) - 1))=some (.int .i64 ((setZ s.ct k (s.ct k - 1) k:Nat) : Int))
 rw [setZ_same,show ((s.ct k:Nat) : Int) - 1=((s.ct k - 1:Nat) : Int) by omega]
theorem sem_wait (O:s.Ok) (hk:k < s.nn) (hg:0≤g∧g < 4096) (hf:∀ j,j < 4→g ∉ s.ln j) (hc:s.ct k=0) (h:Ev.Now [semA bs s] F w) :
  Calls Try.prog 56 #[sP bs 0,iN k,iz g] w fun e w'=>e=.returned (.tuple #[.bool false,.int .i64 0])∧Ev.Hold ⟨w,F⟩ [semA bs { s with ln:=setZ s.ln k (s.ln k++[g]),nw:=s.nw+1 }] w':=by
 have h4:k < 4:=by have:=O.n1; omega
 refine sem_call h4 h (fun i G hi n1 back=>?_)
 obtain ⟨h1,h2,h3⟩:=hi.z k h4
 have hl:=O.len k h4
 rw [hc] at h3
 refine (acq_wait hi.c h4 (by omega) hg (by have:=O.nw; omega) (hi.no g hf) h3 h1 (by rw [h2]; exact hf k h4) (by rw [h2]; omega) n1).mono (fun e w' ⟨v,cd,hv,he,hh⟩=>⟨he,?_⟩)
 obtain ⟨b,e2,hh2⟩:=hold_map (hh.sel [2,0,1] (by kernel_rfl))
 subst e2
 have L0:LnIs (i.xs.set (km k+0) (.map (some b))) (km k+0) (some b) (i.z k).l (i.z k).hd (i.z k).tl (i.z k).f :=
  ⟨by rw [List.getElem?_set_self (by rw [hi.c.len]; unfold km; omega)]; rfl,by rw [List.getElem?_set_ne (by omega)]; exact h1.h,by rw [List.getElem?_set_ne (by omega)]; exact h1.t,h1.rep,by simp⟩
 obtain ⟨hd',tl',L⟩:=pushed L0 hg (by rw [h2]; exact hf k h4) (by rw [List.length_set,hi.c.len]; unfold km; omega)
 have hb:=back [] (pushX (i.xs.set (km k+0) (.map (some b))) (km k+0) (i.z k).l g) (s.nw+1) (Ev.upd i.fw g (some (k:Int))) ⟨some b,(i.z k).l++[g],hd',tl',pushF (i.z k).l (i.z k).tl (i.z k).f g⟩ w' (by
  have:=hh2.sel [1,2,0] (by kernel_rfl)
  show Ev.Hold _ [_,_,lkA b ((i.z k).l++[g]).length _] w'
  rw [List.length_append]
  exact this)
 refine sem_shut (l:=[]) (hi.turn (y:=⟨some b,(i.z k).l++[g],hd',tl',pushF (i.z k).l (i.z k).tl (i.z k).f g⟩) h4 ((Off.set (by omega) (by omega)).trans Off.push) rfl ⟨L,?_,?_⟩ (fun j hj=>⟨setZ_ne hj,rfl⟩) ?_ ?_) hb
 ·show (i.z k).l++[g]=setZ s.ln k (s.ln k++[g]) k
  rw [setZ_same,h2]
 ·rw [push_ct]
  show i.xs[km k+3]? = some (.int .i64 (s.ct k:Int))
  rw [h3,hc]
 ·intro j hj x hx
  replace hx:x ∈ setZ s.ln k (s.ln k++[g]) j:=hx
  unfold Ev.upd
  by_cases e:j=k
  ·subst e
   rw [setZ_same] at hx
   by_cases ex:x=g
   ·rw [if_pos ex]
   ·rw [if_neg ex]
    exact hi.w j hj x ((List.mem_append.1 hx).elim id (fun h=>absurd (List.mem_singleton.1 h) ex))
  ·rw [setZ_ne e] at hx
   rw [if_neg (fun ex:x=g=>hf j hj (ex ▸ hx))]
   exact hi.w j hj x hx
 ·intro x hx
  have hxg:x ≠ g:=fun ex=>by
   refine hx k h4 ?_
   show x ∈ setZ s.ln k (s.ln k++[g]) k
   rw [setZ_same,ex]
   simp
  unfold Ev.upd
  rw [if_neg hxg]
  refine hi.no x (fun j hj hm=>?_)
  refine hx j hj ?_
  show x ∈ setZ s.ln k (s.ln k++[g]) j
  by_cases e:j=k
  ·subst e
   rw [setZ_same]
   exact List.mem_append_left _ hm
  ·rw [setZ_ne e]
   exact hm
theorem sem_count (O:s.Ok) (hk:k < s.nn) (hl:s.ln k=[]) (h:Ev.Now [semA bs s] F w) :
  Calls Try.prog 57 #[sP bs 0,iN k] w fun e w'=>e=.returned (.tuple #[.int .i64 0,.bool false,.int .i64 0])∧Ev.Hold ⟨w,F⟩ [semA bs { s with ct:=setZ s.ct k (s.ct k+1) }] w':=by
 have h4:k < 4:=by have:=O.n1; omega
 refine sem_call h4 h (fun i G hi n1 back=>?_)
 obtain ⟨h1,h2,h3⟩:=hi.z k h4
 have hct:=O.ct k h4
 refine (rel_count hi.c h4 (by omega) (by have:=O.nw; omega) h3 (by omega) h1 (h2.trans hl) n1).mono (fun e w' ⟨he,hh⟩=>⟨he,?_⟩)
 have hb:=back [] _ _ _ _ w' hh
 refine sem_shut (l:=[]) (i:=⟨i.bw,i.fw,_,setZ i.z k (i.z k)⟩) (hi.turn h4 (Off.set (by omega) (by omega)) rfl ⟨h1.set (by omega) _,h2,?_⟩ (fun j hj=>⟨rfl,setZ_ne hj⟩) hi.w hi.no) hb
 rw [List.getElem?_set_self (by rw [hi.c.len]; unfold km; omega)]
 show some (iz ((s.ct k:Int)+1))=some (.int .i64 ((setZ s.ct k (s.ct k+1) k:Nat) : Int))
 rw [setZ_same]
 rfl
theorem sem_wake {r:List Int} (O:s.Ok) (hk:k < s.nn) (hl:s.ln k=g::r) (h:Ev.Now [semA bs s] F w) :
  Calls Try.prog 57 #[sP bs 0,iN k] w fun e w'=>e=.returned (.tuple #[iz g,.bool true,.int .i64 0])∧Ev.Hold ⟨w,F⟩ [semA bs { s with ln:=setZ s.ln k r }] w':=by
 have h4:k < 4:=by have:=O.n1; omega
 have hgm:g ∈ s.ln k:=by rw [hl]; exact List.mem_cons_self
 have hlen:=O.len k h4
 rw [hl,List.length_cons] at hlen
 refine sem_call h4 h (fun i G hi n1 back=>?_)
 obtain ⟨h1,h2,h3⟩:=hi.z k h4
 have hzl:=h2.trans hl
 refine (rel_wake hi.c h4 (by omega) (O.rng k h4 g hgm) (by have:=O.nw; omega) h1 hzl (by omega) (hi.w k h4 g hgm) n1).mono (fun e w' ⟨he,hh⟩=>⟨he,?_⟩)
 obtain ⟨b,hb⟩ : ∃ b,(i.z k).o=some b:=by
  cases ho:(i.z k).o with
  | some b=>exact ⟨b,rfl⟩
  | none=>rw [h1.no ho] at hzl; cases hzl
 have h1':LnIs i.xs (km k+0) (some b) (g::r) (i.z k).hd (i.z k).tl (i.z k).f:=by
  have:=h1
  unfold LnS.At at this
  rwa [hb,hzl] at this
 obtain ⟨hd',tl',L⟩:=removed h1' (by rw [hi.c.len]; unfold km; omega)
 have hnd:g ∉ r:=(List.nodup_cons.1 h1'.rep.nd).1
 have hbk:=back [] (rmX i.xs (km k+0) r (i.z k).f g) s.nw (Ev.upd i.fw g none) ⟨some b,r,hd',tl',rmF r (i.z k).f g⟩ w' (by
  rw [hb] at hh
  exact hh)
 refine sem_shut (l:=[]) (hi.turn (y:=⟨some b,r,hd',tl',rmF r (i.z k).f g⟩) h4 Off.rm rfl ⟨L,?_,?_⟩ (fun j hj=>⟨setZ_ne hj,rfl⟩) ?_ ?_) hbk
 ·show r=setZ s.ln k r k
  rw [setZ_same]
 ·rw [rm_ct]
  exact h3
 ·intro j hj x hx
  replace hx:x ∈ setZ s.ln k r j:=hx
  unfold Ev.upd
  by_cases e:j=k
  ·subst e
   rw [setZ_same] at hx
   rw [if_neg (fun ex:x=g=>hnd (ex ▸ hx))]
   exact hi.w j hj x (by rw [hl]; exact List.mem_cons_of_mem _ hx)
  ·rw [setZ_ne e] at hx
   rw [if_neg (fun ex:x=g=>O.dis j k hj h4 e x hx (ex ▸ hgm))]
   exact hi.w j hj x hx
 ·intro x hx
  unfold Ev.upd
  split
  ·rfl
  ·rename_i hxg
   refine hi.no x (fun j hj hm=>?_)
   refine hx j hj ?_
   show x ∈ setZ s.ln k r j
   by_cases e:j=k
   ·subst e
    rw [setZ_same]
    rw [hl] at hm
    exact (List.mem_cons.1 hm).elim (fun h=>absurd h hxg) id
   ·rw [setZ_ne e]
    exact hm
theorem sem_who (O:s.Ok) (hk:k < s.nn) (h:Ev.Now [semA bs s] F w) :
  Calls Try.prog 15 #[sP bs 0,iN k] w fun e w'=>∃ v cd,Ev.dec cd=v∧e=.returned v∧Ev.Hold ⟨w,F⟩ [semA bs s,isL v (s.ln k)] w':=by
 have h4:k < 4:=by have:=O.n1; omega
 refine sem_call h4 h (fun i G hi n1 back=>?_)
 obtain ⟨h1,h2,h3⟩:=hi.z k h4
 refine (waiting_ok hi.c h4 (by omega) (by have:=O.nw; omega) h1 (by rw [h2]; exact O.len k h4) n1).mono (fun e w' ⟨v,cd,hv,he,hh⟩=>⟨v,cd,hv,he,?_⟩)
 have hb:=back [isL v (i.z k).l] _ _ _ _ w' (hh.sel [1,2,3,0] (by kernel_rfl))
 rw [h2] at hb
 exact sem_shut (l:=[isL v (s.ln k)]) (i:=⟨i.bw,i.fw,i.xs,setZ i.z k (i.z k)⟩) (hi.turn h4 ⟨rfl,fun _ _=>rfl⟩ rfl ⟨h1,h2,h3⟩ (fun j hj=>⟨rfl,rfl⟩) hi.w hi.no) hb
theorem sem_not (O:s.Ok) (h0:0 < s.nn) (hg:0≤g∧g < 4096) (hf:∀ j,j < 4→g ∉ s.ln j) (h:Ev.Now [semA bs s] F w) :
  Calls Try.prog 14 #[sP bs 0,iz g] w fun e w'=>e=.returned (.tuple #[.int .i64 0,.bool false])∧Ev.Hold ⟨w,F⟩ [semA bs s] w':=by
 refine sem_call (k:=0) (by decide) h (fun i G hi n1 back=>?_)
 refine call_part (l:=[sA bs i.xs,whA i.bw s.nw i.fw]) (r:=[lnP (i.z 0)]) (Ev.Hold.start n1) (fun G2 m1 m2=>?_)
 refine (where_no hi.c (by omega) hg (by have:=O.nw; omega) (hi.no g hf) m1).mono (fun e w' ⟨he,hh⟩=>⟨he,?_⟩)
 have hb:=back [] _ _ _ _ w' (m2 _ _ hh)
 exact sem_shut (l:=[]) (i:=⟨i.bw,i.fw,i.xs,setZ i.z 0 (i.z 0)⟩) (hi.turn (by decide) ⟨rfl,fun _ _=>rfl⟩ rfl (hi.z 0 (by decide)) (fun j hj=>⟨rfl,rfl⟩) hi.w hi.no) hb
theorem sem_does (O:s.Ok) (h0:0 < s.nn) (hk:k < 4) (hg:g ∈ s.ln k) (h:Ev.Now [semA bs s] F w) :
  Calls Try.prog 14 #[sP bs 0,iz g] w fun e w'=>e=.returned (.tuple #[iN k,.bool true])∧Ev.Hold ⟨w,F⟩ [semA bs s] w':=by
 refine sem_call (k:=0) (by decide) h (fun i G hi n1 back=>?_)
 refine call_part (l:=[sA bs i.xs,whA i.bw s.nw i.fw]) (r:=[lnP (i.z 0)]) (Ev.Hold.start n1) (fun G2 m1 m2=>?_)
 refine (where_yes hi.c (by omega) (O.rng k hk g hg) (by have:=O.nw; omega) (hi.w k hk g hg) m1).mono (fun e w' ⟨he,hh⟩=>⟨he,?_⟩)
 have hb:=back [] _ _ _ _ w' (m2 _ _ hh)
 exact sem_shut (l:=[]) (i:=⟨i.bw,i.fw,i.xs,setZ i.z 0 (i.z 0)⟩) (hi.turn (by decide) ⟨rfl,fun _ _=>rfl⟩ rfl (hi.z 0 (by decide)) (fun j hj=>⟨rfl,rfl⟩) hi.w hi.no) hb
end
end Go.Proofs.Ytankbefdlbcdnaa
namespace Go.Proofs.Ytankbefdlbcdnaa
open Go.RowKit
open Go.Ev (sy iz uz wz iN uN wN pz dv fc fn ak vk vd kn pc cc cr cm cd fr)
set_option linter.unusedVariables false
set_option linter.unusedSimpArgs false
set_option maxRecDepth 8000
attribute [local irreducible] Ev.wpL
theorem tm00 (W0:World) (F0:Nat→Prop) : Ev.PieE Try.prog 28 [] 0 11 ⟨W0,F0⟩ [(0,(.agg #[(.int .i64 0)])),(1,(.int .i64 0))] [] (fun κ:Ev.Ren=>(.bool false)) (fun κ:Ev.Ren=>[]):=(trE (c:=⟨W0,F0⟩) 20 (kn [] fn [] [] [] fn fn fn W0 F0 [[]] [] []) fn fn rfl [] [] [] 0 rfl rfl [(0,.agg #[.int .i64 0]),(1,.int .i64 0)] (.bool false))
theorem tm01 (W0:World) (F0:Nat→Prop) : Ev.PieE Try.prog 28 [] 0 11 ⟨W0,F0⟩ [(0,(.agg #[(.int .i64 0)])),(1,(.int .i64 1))] [] (fun κ:Ev.Ren=>(.bool false)) (fun κ:Ev.Ren=>[]):=(trE (c:=⟨W0,F0⟩) 20 (kn [] fn [] [] [] fn fn fn W0 F0 [[]] [] []) fn fn rfl [] [] [] 0 rfl rfl [(0,.agg #[.int .i64 0]),(1,.int .i64 1)] (.bool false))
theorem tm02 (W0:World) (F0:Nat→Prop) : Ev.PieE Try.prog 28 [] 0 11 ⟨W0,F0⟩ [(0,(.agg #[(.int .i64 0)])),(1,(.int .i64 2))] [] (fun κ:Ev.Ren=>(.bool false)) (fun κ:Ev.Ren=>[]):=(trE (c:=⟨W0,F0⟩) 20 (kn [] fn [] [] [] fn fn fn W0 F0 [[]] [] []) fn fn rfl [] [] [] 0 rfl rfl [(0,.agg #[.int .i64 0]),(1,.int .i64 2)] (.bool false))
theorem tm03 (W0:World) (F0:Nat→Prop) : Ev.PieE Try.prog 28 [] 0 11 ⟨W0,F0⟩ [(0,(.agg #[(.int .i64 0)])),(1,(.int .i64 3))] [] (fun κ:Ev.Ren=>(.bool false)) (fun κ:Ev.Ren=>[]):=(trE (c:=⟨W0,F0⟩) 20 (kn [] fn [] [] [] fn fn fn W0 F0 [[]] [] []) fn fn rfl [] [] [] 0 rfl rfl [(0,.agg #[.int .i64 0]),(1,.int .i64 3)] (.bool false))
theorem tm04 (W0:World) (F0:Nat→Prop) : Ev.PieE Try.prog 28 [] 0 11 ⟨W0,F0⟩ [(0,(.agg #[(.int .i64 0)])),(1,(.int .i64 4))] [] (fun κ:Ev.Ren=>(.bool false)) (fun κ:Ev.Ren=>[]):=(trE (c:=⟨W0,F0⟩) 20 (kn [] fn [] [] [] fn fn fn W0 F0 [[]] [] []) fn fn rfl [] [] [] 0 rfl rfl [(0,.agg #[.int .i64 0]),(1,.int .i64 4)] (.bool false))
theorem tm10 (W0:World) (F0:Nat→Prop) : Ev.PieE Try.prog 28 [] 0 11 ⟨W0,F0⟩ [(0,(.agg #[(.int .i64 1)])),(1,(.int .i64 0))] [] (fun κ:Ev.Ren=>(.bool false)) (fun κ:Ev.Ren=>[]):=(trE (c:=⟨W0,F0⟩) 20 (kn [] fn [] [] [] fn fn fn W0 F0 [[]] [] []) fn fn rfl [] [] [] 0 rfl rfl [(0,.agg #[.int .i64 1]),(1,.int .i64 0)] (.bool false))
theorem tm11 (W0:World) (F0:Nat→Prop) : Ev.PieE Try.prog 28 [] 0 11 ⟨W0,F0⟩ [(0,(.agg #[(.int .i64 1)])),(1,(.int .i64 1))] [] (fun κ:Ev.Ren=>(.bool false)) (fun κ:Ev.Ren=>[]):=(trE (c:=⟨W0,F0⟩) 20 (kn [] fn [] [] [] fn fn fn W0 F0 [[]] [] []) fn fn rfl [] [] [] 0 rfl rfl [(0,.agg #[.int .i64 1]),(1,.int .i64 1)] (.bool false))
theorem tm12 (W0:World) (F0:Nat→Prop) : Ev.PieE Try.prog 28 [] 0 11 ⟨W0,F0⟩ [(0,(.agg #[(.int .i64 1)])),(1,(.int .i64 2))] [] (fun κ:Ev.Ren=>(.bool true)) (fun κ:Ev.Ren=>[]):=(trE (c:=⟨W0,F0⟩) 20 (kn [] fn [] [] [] fn fn fn W0 F0 [[]] [] []) fn fn rfl [] [] [] 0 rfl rfl [(0,.agg #[.int .i64 1]),(1,.int .i64 2)] (.bool true))
theorem tm13 (W0:World) (F0:Nat→Prop) : Ev.PieE Try.prog 28 [] 0 11 ⟨W0,F0⟩ [(0,(.agg #[(.int .i64 1)])),(1,(.int .i64 3))] [] (fun κ:Ev.Ren=>(.bool false)) (fun κ:Ev.Ren=>[]):=(trE (c:=⟨W0,F0⟩) 20 (kn [] fn [] [] [] fn fn fn W0 F0 [[]] [] []) fn fn rfl [] [] [] 0 rfl rfl [(0,.agg #[.int .i64 1]),(1,.int .i64 3)] (.bool false))
theorem tm14 (W0:World) (F0:Nat→Prop) : Ev.PieE Try.prog 28 [] 0 11 ⟨W0,F0⟩ [(0,(.agg #[(.int .i64 1)])),(1,(.int .i64 4))] [] (fun κ:Ev.Ren=>(.bool false)) (fun κ:Ev.Ren=>[]):=(trE (c:=⟨W0,F0⟩) 20 (kn [] fn [] [] [] fn fn fn W0 F0 [[]] [] []) fn fn rfl [] [] [] 0 rfl rfl [(0,.agg #[.int .i64 1]),(1,.int .i64 4)] (.bool false))
theorem tm20 (W0:World) (F0:Nat→Prop) : Ev.PieE Try.prog 28 [] 0 11 ⟨W0,F0⟩ [(0,(.agg #[(.int .i64 2)])),(1,(.int .i64 0))] [] (fun κ:Ev.Ren=>(.bool true)) (fun κ:Ev.Ren=>[]):=(trE (c:=⟨W0,F0⟩) 20 (kn [] fn [] [] [] fn fn fn W0 F0 [[]] [] []) fn fn rfl [] [] [] 0 rfl rfl [(0,.agg #[.int .i64 2]),(1,.int .i64 0)] (.bool true))
theorem tm21 (W0:World) (F0:Nat→Prop) : Ev.PieE Try.prog 28 [] 0 11 ⟨W0,F0⟩ [(0,(.agg #[(.int .i64 2)])),(1,(.int .i64 1))] [] (fun κ:Ev.Ren=>(.bool true)) (fun κ:Ev.Ren=>[]):=(trE (c:=⟨W0,F0⟩) 20 (kn [] fn [] [] [] fn fn fn W0 F0 [[]] [] []) fn fn rfl [] [] [] 0 rfl rfl [(0,.agg #[.int .i64 2]),(1,.int .i64 1)] (.bool true))
theorem tm22 (W0:World) (F0:Nat→Prop) : Ev.PieE Try.prog 28 [] 0 11 ⟨W0,F0⟩ [(0,(.agg #[(.int .i64 2)])),(1,(.int .i64 2))] [] (fun κ:Ev.Ren=>(.bool false)) (fun κ:Ev.Ren=>[]):=(trE (c:=⟨W0,F0⟩) 20 (kn [] fn [] [] [] fn fn fn W0 F0 [[]] [] []) fn fn rfl [] [] [] 0 rfl rfl [(0,.agg #[.int .i64 2]),(1,.int .i64 2)] (.bool false))
theorem tm23 (W0:World) (F0:Nat→Prop) : Ev.PieE Try.prog 28 [] 0 11 ⟨W0,F0⟩ [(0,(.agg #[(.int .i64 2)])),(1,(.int .i64 3))] [] (fun κ:Ev.Ren=>(.bool true)) (fun κ:Ev.Ren=>[]):=(trE (c:=⟨W0,F0⟩) 20 (kn [] fn [] [] [] fn fn fn W0 F0 [[]] [] []) fn fn rfl [] [] [] 0 rfl rfl [(0,.agg #[.int .i64 2]),(1,.int .i64 3)] (.bool true))
theorem tm24 (W0:World) (F0:Nat→Prop) : Ev.PieE Try.prog 28 [] 0 11 ⟨W0,F0⟩ [(0,(.agg #[(.int .i64 2)])),(1,(.int .i64 4))] [] (fun κ:Ev.Ren=>(.bool true)) (fun κ:Ev.Ren=>[]):=(trE (c:=⟨W0,F0⟩) 20 (kn [] fn [] [] [] fn fn fn W0 F0 [[]] [] []) fn fn rfl [] [] [] 0 rfl rfl [(0,.agg #[.int .i64 2]),(1,.int .i64 4)] (.bool true))
theorem tm30 (W0:World) (F0:Nat→Prop) : Ev.PieE Try.prog 28 [] 0 11 ⟨W0,F0⟩ [(0,(.agg #[(.int .i64 3)])),(1,(.int .i64 0))] [] (fun κ:Ev.Ren=>(.bool false)) (fun κ:Ev.Ren=>[]):=(trE (c:=⟨W0,F0⟩) 20 (kn [] fn [] [] [] fn fn fn W0 F0 [[]] [] []) fn fn rfl [] [] [] 0 rfl rfl [(0,.agg #[.int .i64 3]),(1,.int .i64 0)] (.bool false))
theorem tm31 (W0:World) (F0:Nat→Prop) : Ev.PieE Try.prog 28 [] 0 11 ⟨W0,F0⟩ [(0,(.agg #[(.int .i64 3)])),(1,(.int .i64 1))] [] (fun κ:Ev.Ren=>(.bool true)) (fun κ:Ev.Ren=>[]):=(trE (c:=⟨W0,F0⟩) 20 (kn [] fn [] [] [] fn fn fn W0 F0 [[]] [] []) fn fn rfl [] [] [] 0 rfl rfl [(0,.agg #[.int .i64 3]),(1,.int .i64 1)] (.bool true))
theorem tm32 (W0:World) (F0:Nat→Prop) : Ev.PieE Try.prog 28 [] 0 11 ⟨W0,F0⟩ [(0,(.agg #[(.int .i64 3)])),(1,(.int .i64 2))] [] (fun κ:Ev.Ren=>(.bool false)) (fun κ:Ev.Ren=>[]):=(trE (c:=⟨W0,F0⟩) 20 (kn [] fn [] [] [] fn fn fn W0 F0 [[]] [] []) fn fn rfl [] [] [] 0 rfl rfl [(0,.agg #[.int .i64 3]),(1,.int .i64 2)] (.bool false))
theorem tm33 (W0:World) (F0:Nat→Prop) : Ev.PieE Try.prog 28 [] 0 11 ⟨W0,F0⟩ [(0,(.agg #[(.int .i64 3)])),(1,(.int .i64 3))] [] (fun κ:Ev.Ren=>(.bool false)) (fun κ:Ev.Ren=>[]):=(trE (c:=⟨W0,F0⟩) 20 (kn [] fn [] [] [] fn fn fn W0 F0 [[]] [] []) fn fn rfl [] [] [] 0 rfl rfl [(0,.agg #[.int .i64 3]),(1,.int .i64 3)] (.bool false))
theorem tm34 (W0:World) (F0:Nat→Prop) : Ev.PieE Try.prog 28 [] 0 11 ⟨W0,F0⟩ [(0,(.agg #[(.int .i64 3)])),(1,(.int .i64 4))] [] (fun κ:Ev.Ren=>(.bool false)) (fun κ:Ev.Ren=>[]):=(trE (c:=⟨W0,F0⟩) 20 (kn [] fn [] [] [] fn fn fn W0 F0 [[]] [] []) fn fn rfl [] [] [] 0 rfl rfl [(0,.agg #[.int .i64 3]),(1,.int .i64 4)] (.bool false))
theorem tm40 (W0:World) (F0:Nat→Prop) : Ev.PieE Try.prog 28 [] 0 11 ⟨W0,F0⟩ [(0,(.agg #[(.int .i64 4)])),(1,(.int .i64 0))] [] (fun κ:Ev.Ren=>(.bool false)) (fun κ:Ev.Ren=>[]):=(trE (c:=⟨W0,F0⟩) 20 (kn [] fn [] [] [] fn fn fn W0 F0 [[]] [] []) fn fn rfl [] [] [] 0 rfl rfl [(0,.agg #[.int .i64 4]),(1,.int .i64 0)] (.bool false))
theorem tm41 (W0:World) (F0:Nat→Prop) : Ev.PieE Try.prog 28 [] 0 11 ⟨W0,F0⟩ [(0,(.agg #[(.int .i64 4)])),(1,(.int .i64 1))] [] (fun κ:Ev.Ren=>(.bool true)) (fun κ:Ev.Ren=>[]):=(trE (c:=⟨W0,F0⟩) 20 (kn [] fn [] [] [] fn fn fn W0 F0 [[]] [] []) fn fn rfl [] [] [] 0 rfl rfl [(0,.agg #[.int .i64 4]),(1,.int .i64 1)] (.bool true))
theorem tm42 (W0:World) (F0:Nat→Prop) : Ev.PieE Try.prog 28 [] 0 11 ⟨W0,F0⟩ [(0,(.agg #[(.int .i64 4)])),(1,(.int .i64 2))] [] (fun κ:Ev.Ren=>(.bool true)) (fun κ:Ev.Ren=>[]):=(trE (c:=⟨W0,F0⟩) 20 (kn [] fn [] [] [] fn fn fn W0 F0 [[]] [] []) fn fn rfl [] [] [] 0 rfl rfl [(0,.agg #[.int .i64 4]),(1,.int .i64 2)] (.bool true))
theorem tm43 (W0:World) (F0:Nat→Prop) : Ev.PieE Try.prog 28 [] 0 11 ⟨W0,F0⟩ [(0,(.agg #[(.int .i64 4)])),(1,(.int .i64 3))] [] (fun κ:Ev.Ren=>(.bool false)) (fun κ:Ev.Ren=>[]):=(trE (c:=⟨W0,F0⟩) 20 (kn [] fn [] [] [] fn fn fn W0 F0 [[]] [] []) fn fn rfl [] [] [] 0 rfl rfl [(0,.agg #[.int .i64 4]),(1,.int .i64 3)] (.bool false))
theorem tm44 (W0:World) (F0:Nat→Prop) : Ev.PieE Try.prog 28 [] 0 11 ⟨W0,F0⟩ [(0,(.agg #[(.int .i64 4)])),(1,(.int .i64 4))] [] (fun κ:Ev.Ren=>(.bool false)) (fun κ:Ev.Ren=>[]):=(trE (c:=⟨W0,F0⟩) 20 (kn [] fn [] [] [] fn fn fn W0 F0 [[]] [] []) fn fn rfl [] [] [] 0 rfl rfl [(0,.agg #[.int .i64 4]),(1,.int .i64 4)] (.bool false))
def mayB (a b:Nat) : Bool:=match a with
 | 1=>b == 2
 | 2=>b == 0 || b == 1 || b == 3 || b == 4
 | 3=>b == 1
 | 4=>b == 1 || b == 2
 | _=>false
theorem may_ok (a b:Nat) (ha:a < 5) (hb:b < 5) {w:World} {F:Nat→Prop} (h:Ev.Now [] F w) :
  Calls Try.prog 28 #[.agg #[.int .i64 (a:Int)],.int .i64 (b:Int)] w fun e w'=>e=.returned (.bool (mayB a b))∧Ev.Hold ⟨w,F⟩ [] w':=by
 match a,b,ha,hb with
 | 0,0,_,_=>exact startP (tm00 w F) (by kernel_rfl) h (by simp) (by simp) (fun κ w1 hh=>⟨rfl,hh⟩)
 | 0,1,_,_=>exact startP (tm01 w F) (by kernel_rfl) h (by simp) (by simp) (fun κ w1 hh=>⟨rfl,hh⟩)
 | 0,2,_,_=>exact startP (tm02 w F) (by kernel_rfl) h (by simp) (by simp) (fun κ w1 hh=>⟨rfl,hh⟩)
 | 0,3,_,_=>exact startP (tm03 w F) (by kernel_rfl) h (by simp) (by simp) (fun κ w1 hh=>⟨rfl,hh⟩)
 | 0,4,_,_=>exact startP (tm04 w F) (by kernel_rfl) h (by simp) (by simp) (fun κ w1 hh=>⟨rfl,hh⟩)
 | 1,0,_,_=>exact startP (tm10 w F) (by kernel_rfl) h (by simp) (by simp) (fun κ w1 hh=>⟨rfl,hh⟩)
 | 1,1,_,_=>exact startP (tm11 w F) (by kernel_rfl) h (by simp) (by simp) (fun κ w1 hh=>⟨rfl,hh⟩)
 | 1,2,_,_=>exact startP (tm12 w F) (by kernel_rfl) h (by simp) (by simp) (fun κ w1 hh=>⟨rfl,hh⟩)
 | 1,3,_,_=>exact startP (tm13 w F) (by kernel_rfl) h (by simp) (by simp) (fun κ w1 hh=>⟨rfl,hh⟩)
 | 1,4,_,_=>exact startP (tm14 w F) (by kernel_rfl) h (by simp) (by simp) (fun κ w1 hh=>⟨rfl,hh⟩)
 | 2,0,_,_=>exact startP (tm20 w F) (by kernel_rfl) h (by simp) (by simp) (fun κ w1 hh=>⟨rfl,hh⟩)
 | 2,1,_,_=>exact startP (tm21 w F) (by kernel_rfl) h (by simp) (by simp) (fun κ w1 hh=>⟨rfl,hh⟩)
 | 2,2,_,_=>exact startP (tm22 w F) (by kernel_rfl) h (by simp) (by simp) (fun κ w1 hh=>⟨rfl,hh⟩)
 | 2,3,_,_=>exact startP (tm23 w F) (by kernel_rfl) h (by simp) (by simp) (fun κ w1 hh=>⟨rfl,hh⟩)
 | 2,4,_,_=>exact startP (tm24 w F) (by kernel_rfl) h (by simp) (by simp) (fun κ w1 hh=>⟨rfl,hh⟩)
 | 3,0,_,_=>exact startP (tm30 w F) (by kernel_rfl) h (by simp) (by simp) (fun κ w1 hh=>⟨rfl,hh⟩)
 | 3,1,_,_=>exact startP (tm31 w F) (by kernel_rfl) h (by simp) (by simp) (fun κ w1 hh=>⟨rfl,hh⟩)
 | 3,2,_,_=>exact startP (tm32 w F) (by kernel_rfl) h (by simp) (by simp) (fun κ w1 hh=>⟨rfl,hh⟩)
 | 3,3,_,_=>exact startP (tm33 w F) (by kernel_rfl) h (by simp) (by simp) (fun κ w1 hh=>⟨rfl,hh⟩)
 | 3,4,_,_=>exact startP (tm34 w F) (by kernel_rfl) h (by simp) (by simp) (fun κ w1 hh=>⟨rfl,hh⟩)
 | 4,0,_,_=>exact startP (tm40 w F) (by kernel_rfl) h (by simp) (by simp) (fun κ w1 hh=>⟨rfl,hh⟩)
 | 4,1,_,_=>exact startP (tm41 w F) (by kernel_rfl) h (by simp) (by simp) (fun κ w1 hh=>⟨rfl,hh⟩)
 | 4,2,_,_=>exact startP (tm42 w F) (by kernel_rfl) h (by simp) (by simp) (fun κ w1 hh=>⟨rfl,hh⟩)
 | 4,3,_,_=>exact startP (tm43 w F) (by kernel_rfl) h (by simp) (by simp) (fun κ w1 hh=>⟨rfl,hh⟩)
 | 4,4,_,_=>exact startP (tm44 w F) (by kernel_rfl) h (by simp) (by simp) (fun κ w1 hh=>⟨rfl,hh⟩)
end Go.Proofs.Ytankbefdlbcdnaa
namespace Go.Ev
open Go.RowKit
set_option linter.unusedVariables false
set_option linter.unusedSimpArgs false
section
variable {k:Kn} {P:Program} {g g':Nat} {l:List Asr} {ci:Nat} {t e:TypeId} {n sz m:Nat} {v:Value} {xs:List Value} {sP:Nat}
theorem sl_load1 {x r:Value} (hg:k.gs[g]? = some (star l)) (hi:l[ci]? = some (slA e sz v n xs)) (hL:LoadAgg P t 1) (hm:xs[m]? = some x) (hn:m < n * sz) (hP:k.val sP=ptrR v m) (hV:∀ ι,(letI:Sig:=k.sig; VRel ι r x)) : GTrue k P ⟨[1,t],[sy sP],none,g,none,.agg #[r],none⟩:=by
 refine GTrue.load k ?_
 letI:Sig:=k.sig
 intro ι F w d x' q hx
 obtain ⟨Fs,ff,hS,hf,h1⟩:=star_ask hg hi q
 rw [vsymR hx,hP]
 obtain ⟨b,off,c,_,e2,_,e3,_⟩:=slv_ptr h1 hn
 rw [e2]
 refine ⟨.agg #[x],w,hL b (off+m) [x] w rfl (fun j hj=>?_),?_,Below.refl _ _⟩
 ·obtain rfl:j=0:=by omega
  rw [Nat.add_zero,e3,hm]
  rfl
 ·refine .agg _ _ rfl (fun i a b h1 h2=>?_)
  match i with
  | 0=>simp at h1 h2; subst h1 h2; exact hV _
  | i+1=>simp at h1
end
end Go.Ev
namespace Go.Proofs.Ytankbefdlbcdnaa
open Go.RowKit
set_option linter.unusedVariables false
set_option linter.unusedSimpArgs false
def gor (gs:List (Int×Int)) : List Value:=gs.flatMap (fun p=>[.int .i64 p.1,.int .i64 p.2])
theorem gor_at {gs:List (Int×Int)} {j:Nat} {p:Int×Int} (h:gs[j]? = some p) : (gor gs)[j * 2]? = some (.int .i64 p.1)∧(gor gs)[j * 2+1]? = some (.int .i64 p.2):=by
 induction gs generalizing j with
 | nil=>simp at h
 | cons q gs ih =>
  have e:gor (q::gs)=[.int .i64 q.1,.int .i64 q.2]++gor gs:=rfl
  rw [e]
  cases j with
  | zero =>
   obtain rfl:q=p:=by simpa using h
   exact ⟨rfl,rfl⟩
  | succ j =>
   obtain ⟨h1,h2⟩:=ih (j:=j) (by simpa using h)
   rw [List.getElem?_append_right (by simp; omega),List.getElem?_append_right (by simp; omega)]
   rw [show (j+1) * 2 - [Value.int .i64 q.1,Value.int .i64 q.2].length=j * 2 by simp; omega,show (j+1) * 2+1 - [Value.int .i64 q.1,Value.int .i64 q.2].length=j * 2+1 by simp; omega]
   exact ⟨h1,h2⟩
theorem gor_set {gs:List (Int×Int)} {j:Nat} {p:Int×Int} (h:gs[j]? = some p) (x y:Int) : (gor gs).set (j * 2) (.int .i64 x)=gor (gs.set j (x,p.2))∧(gor gs).set (j * 2+1) (.int .i64 y)=gor (gs.set j (p.1,y)):=by
 induction gs generalizing j with
 | nil=>simp at h
 | cons q gs ih =>
  have e:∀ (q:Int×Int) gs,gor (q::gs)=.int .i64 q.1::.int .i64 q.2::gor gs:=fun _ _=>rfl
  cases j with
  | zero =>
   obtain rfl:q=p:=by simpa using h
   exact ⟨rfl,rfl⟩
  | succ j =>
   obtain ⟨h1,h2⟩:=ih (j:=j) (by simpa using h)
   rw [List.set_cons_succ,List.set_cons_succ,e,e,e,← h1,← h2]
   exact ⟨by rw [show (j+1) * 2=j * 2+1+1 by omega]; rfl,by rw [show (j+1) * 2+1=j * 2+1+1+1 by omega]; rfl⟩
theorem infGor:∃ i,Try.prog.info? 87 = some i∧i.size=2∧i.zero=some (.agg #[.int .i64 0,.int .i64 0])∧i.bytes=16:=info_z (by kernel_rfl)
theorem loadSta:Ev.LoadAgg Try.prog 85 1:=by
 intro b o cs w hl h
 obtain ⟨i,i1,i2,i3,i4⟩:=(info_z (by kernel_rfl) : ∃ i,Try.prog.info? 85 = some i∧i.size=1∧i.zero=some (.agg #[.int .i64 0])∧i.bytes=8)
 match cs,hl with
 | [c0],_ =>
  have h0:=h 0 (by omega)
  simp at h0
  simp [Instr.loadAt,Instr.sureAddr,loadVar,isAgg,run_underlying Try.underlying85,sizeOf,typeInfo,i1,i2,loadCells,loadCellsFrom,Ev.addMk,h0]
theorem fldGor0:∀ b o w,(Instr.fieldAt 87 (.pointer (some ⟨b,o,none⟩)) 0).run Try.prog w=.ok (.pointer (some ⟨b,o+0,none⟩)) w:=fun b o w=>by kernel_rfl
theorem fldGor1:∀ b o w,(Instr.fieldAt 87 (.pointer (some ⟨b,o,none⟩)) 1).run Try.prog w=.ok (.pointer (some ⟨b,o+1,none⟩)) w:=fun b o w=>by kernel_rfl
theorem fldSta0:∀ b o w,(Instr.fieldAt 85 (.pointer (some ⟨b,o,none⟩)) 0).run Try.prog w=.ok (.pointer (some ⟨b,o+0,none⟩)) w:=fun b o w=>by kernel_rfl
end Go.Proofs.Ytankbefdlbcdnaa
namespace Go.Proofs.Ytankbefdlbcdnaa
open Go.RowKit
open Go.Ev (sy iz uz wz iN uN wN pz dv fc fn ak vk vd kn pc cc cr cm cd fr)
set_option linter.unusedVariables false
set_option linter.unusedSimpArgs false
set_option maxRecDepth 8000
attribute [local irreducible] Ev.wpL
structure TQ where
 W0:World
 F0:Nat→Prop
 bt:Nat
 av:Value
 lav:Ev.leafV av=true
 gs:List (Int×Int)
 fv:Value
 lfv:Ev.leafV fv=true
 fr:List Int
 j:Nat
 a:Nat
 b:Int
 nx:Nat
 x:Int
 h:gs.length≤256∧fr.length≤256∧a < 5∧nx < 5∧0≤b∧b≤1000000
theorem TQ.z (q:TQ) : q.gs.length≤256∧q.fr.length≤256∧q.a < 5∧q.nx < 5∧0≤q.b∧q.b≤1000000:=q.h
abbrev tm2a0:List Ev.Blk:=[(4,[sy 0,sy 1],83)]
abbrev tm2a3 (q:TQ) : Ev.Asr:=Ev.slA 3 1 (q.fv) (q.fr.length) (ints q.fr)
abbrev tm2a4 (q:TQ) : List Ev.Asr:=[Ev.slA 87 2 (q.av) (q.gs.length) (gor q.gs),(tm2a3 q)]
abbrev tm2a7 (q:TQ) : List Ev.Asr:=[Ev.blkA q.bt [(q.av),(q.fv)] 83,Ev.slA 87 2 (q.av) (q.gs.length) (gor q.gs),(tm2a3 q)]
abbrev tm2a11 (q:TQ) : Ev.Asr:=Ev.slA 87 2 (q.av) (q.gs.length) ((gor q.gs).set ((q.j) * 2+0+0) (iN (q.nx)))
abbrev tm2a12 (q:TQ) : List Ev.Asr:=[(tm2a11 q),(tm2a3 q)]
abbrev tm2a13 (q:TQ) : List (Nat×Value):=[(0,(pz q.bt)),(1,(iN (q.j))),(2,(iN (q.nx)))]
abbrev tm2a25 (q:TQ) : Ev.Asr:=Ev.slA 87 2 (q.av) (q.gs.length) (((gor q.gs).set ((q.j) * 2+0+0) (.int .i64 1)).set ((q.j) * 2+1) (iz ((q.b)+1)))
theorem ttS (q:TQ) (hj:q.gs[q.j]? = some ((q.a:Int),q.b)) (hl:q.j < q.gs.length) : Ev.PieE Try.prog 11 [] 0 19 ⟨q.W0,q.F0⟩ [(0,(pz q.bt)),(1,(iN (q.j)))] (tm2a7 q) (fun κ:Ev.Ren=>(.tuple #[(iN (q.a)),(.bool true)])) (fun κ:Ev.Ren=>(tm2a7 q)):=(trE (c:=⟨q.W0,q.F0⟩) 40 (kn [q.av,q.fv,Ev.ptrR (q.av) ((q.j) * 2),Ev.ptrR (q.av) ((q.j) * 2+0),Ev.ptrR (q.av) ((q.j) * 2+0+0),iN (q.j),iN (q.gs.length),iN (q.a)] (fc q.lav (fc q.lfv (fc (Ev.ptrR_leaf _ _) (fc (Ev.ptrR_leaf _ _) (fc (Ev.ptrR_leaf _ _) fr))))) [(.geq,sy 5,.int .i64 0,.bool true),(.lss,sy 5,sy 6,.bool true)] [] [] (fc (fun _ _ _=>Ev.bt_geq (by have z:=q.z; first | (simp; done) | (simp; omega))) (fc (fun _ _ _=>Ev.bt_lss (by have z:=q.z; first | (simp; done) | (simp; omega))) fn)) fn fn q.W0 q.F0 [(tm2a4 q)] [⟨[10,81],[sy 0],none,0,none,sy 6,none⟩,⟨[3,81],[sy 0,sy 5],none,0,none,sy 2,none⟩,⟨[7,87,0],[sy 2],none,0,none,sy 3,none⟩,⟨[7,85,0],[sy 3],none,0,none,sy 4,none⟩,⟨[1,3],[sy 4],none,0,none,sy 7,none⟩] []) (fc (by obtain ⟨i,i1,i2,i3,i4⟩:=infGor; exact Ev.sl_len (ci:=1) rfl rfl Try.underlying81 i2 rfl rfl) (fc (by obtain ⟨i,i1,i2,i3,i4⟩:=infGor; have z:=q.z; exact Ev.sl_index (ci:=1) (j:=(q.j)) rfl rfl Try.underlying81 i1 i2 rfl rfl (by omega) rfl) (fc (by have z:=q.z; exact Ev.sl_field (ci:=1) (fo:=0) rfl rfl (by omega) fldGor0 rfl rfl) (fc (by have z:=q.z; exact Ev.sl_field (ci:=1) (fo:=0) rfl rfl (by omega) fldSta0 rfl rfl) (fc (by have z:=q.z; exact Ev.sl_load (ci:=1) (m:=(q.j) * 2+0+0) (x:=(iN (q.a))) rfl rfl loadInt (gor_at hj).1 (by omega) rfl (fun ι=>(vk (by kernel_rfl) (by kernel_rfl)))) fn))))) fn rfl [(4,q.bt)] tm2a0 tm2a0 0 rfl rfl [(0,.pointer (some ⟨4,0,none⟩)),(1,sy 5)] (.tuple #[sy 7,.bool true]))
theorem ttSl (q:TQ) (hx:q.x < 0) : Ev.PieE Try.prog 11 [] 0 19 ⟨q.W0,q.F0⟩ [(0,(pz q.bt)),(1,(iz (q.x)))] (tm2a7 q) (fun κ:Ev.Ren=>(.tuple #[(.int .i64 0),(.bool false)])) (fun κ:Ev.Ren=>(tm2a7 q)):=(trE (c:=⟨q.W0,q.F0⟩) 40 (kn [q.av,q.fv,iz (q.x)] (fc q.lav (fc q.lfv fr)) [(.geq,sy 2,.int .i64 0,.bool false)] [] [] (fc (fun _ _ _=>Ev.bt_geq (by have z:=q.z; first | (simp; done) | (simp; omega))) fn) fn fn q.W0 q.F0 [(tm2a4 q)] [] []) fn fn rfl [(4,q.bt)] tm2a0 tm2a0 0 rfl rfl [(0,.pointer (some ⟨4,0,none⟩)),(1,sy 2)] (.tuple #[.int .i64 0,.bool false]))
theorem ttSh (q:TQ) (hx:0≤q.x) (hx2:(q.gs.length:Int)≤q.x) : Ev.PieE Try.prog 11 [] 0 19 ⟨q.W0,q.F0⟩ [(0,(pz q.bt)),(1,(iz (q.x)))] (tm2a7 q) (fun κ:Ev.Ren=>(.tuple #[(.int .i64 0),(.bool false)])) (fun κ:Ev.Ren=>(tm2a7 q)):=(trE (c:=⟨q.W0,q.F0⟩) 40 (kn [q.av,q.fv,iz (q.x),iN (q.gs.length)] (fc q.lav (fc q.lfv fr)) [(.geq,sy 2,.int .i64 0,.bool true),(.lss,sy 2,sy 3,.bool false)] [] [] (fc (fun _ _ _=>Ev.bt_geq (by have z:=q.z; first | (simp; done) | (simp; omega))) (fc (fun _ _ _=>Ev.bt_lss (by have z:=q.z; first | (simp; done) | (simp; omega))) fn)) fn fn q.W0 q.F0 [(tm2a4 q)] [⟨[10,81],[sy 0],none,0,none,sy 3,none⟩] []) (fc (by obtain ⟨i,i1,i2,i3,i4⟩:=infGor; exact Ev.sl_len (ci:=1) rfl rfl Try.underlying81 i2 rfl rfl) fn) fn rfl [(4,q.bt)] tm2a0 tm2a0 0 rfl rfl [(0,.pointer (some ⟨4,0,none⟩)),(1,sy 2)] (.tuple #[.int .i64 0,.bool false]))
theorem ttA (q:TQ) (hj:q.gs[q.j]? = some ((q.a:Int),q.b)) (hl:q.j < q.gs.length) (hm:mayB q.a q.nx=true) (h0:q.nx ≠ 0) : Ev.PieE Try.prog 10 [] 0 48 ⟨q.W0,q.F0⟩ (tm2a13 q) (tm2a7 q) (fun κ:Ev.Ren=>(.int .i64 0)) (fun κ:Ev.Ren=>[Ev.blkA q.bt [(q.av),(q.fv)] 83,(tm2a11 q),(tm2a3 q)]):=(trE (c:=⟨q.W0,q.F0⟩) 40 (kn [q.av,q.fv,Ev.ptrR (q.av) ((q.j) * 2),Ev.ptrR (q.av) ((q.j) * 2+0),Ev.ptrR (q.av) ((q.j) * 2+0+0),iN (q.j),iN (q.nx),iN (q.gs.length),iN (q.a)] (fc q.lav (fc q.lfv (fc (Ev.ptrR_leaf _ _) (fc (Ev.ptrR_leaf _ _) (fc (Ev.ptrR_leaf _ _) fr))))) [(.geq,sy 5,.int .i64 0,.bool true),(.lss,sy 5,sy 7,.bool true),(.eql,sy 6,.int .i64 0,.bool false)] [] [] (fc (fun _ _ _=>Ev.bt_geq (by have z:=q.z; first | (simp; done) | (simp; omega))) (fc (fun _ _ _=>Ev.bt_lss (by have z:=q.z; first | (simp; done) | (simp; omega))) (fc (fun _ _ _=>Ev.bt_eql (by have z:=q.z; first | (simp; done) | (simp; omega))) fn))) fn fn q.W0 q.F0 [(tm2a4 q),(tm2a4 q),(tm2a12 q)] [⟨[10,81],[sy 0],none,0,none,sy 7,none⟩,⟨[3,81],[sy 0,sy 5],none,0,none,sy 2,none⟩,⟨[7,87,0],[sy 2],none,0,none,sy 3,none⟩,⟨[1,85],[sy 3],none,0,none,.agg #[sy 8],none⟩,⟨[3,81],[sy 0,sy 5],none,1,none,sy 2,none⟩,⟨[7,87,0],[sy 2],none,1,none,sy 3,none⟩,⟨[7,85,0],[sy 3],none,1,none,sy 4,none⟩,⟨[2,3],[sy 4,sy 6],none,1,none,undef,some 2⟩] [⟨28,[.agg #[sy 8],sy 6],0,none,.bool true,some 1⟩]) (fc (by obtain ⟨i,i1,i2,i3,i4⟩:=infGor; exact Ev.sl_len (ci:=1) rfl rfl Try.underlying81 i2 rfl rfl) (fc (by obtain ⟨i,i1,i2,i3,i4⟩:=infGor; have z:=q.z; exact Ev.sl_index (ci:=1) (j:=(q.j)) rfl rfl Try.underlying81 i1 i2 rfl rfl (by omega) rfl) (fc (by have z:=q.z; exact Ev.sl_field (ci:=1) (fo:=0) rfl rfl (by omega) fldGor0 rfl rfl) (fc (by have z:=q.z; exact Ev.sl_load1 (ci:=1) (m:=(q.j) * 2+0) (x:=(iN (q.a))) rfl rfl loadSta (gor_at hj).1 (by omega) rfl (fun ι=>(vk (by kernel_rfl) (by kernel_rfl)))) (fc (by obtain ⟨i,i1,i2,i3,i4⟩:=infGor; have z:=q.z; exact Ev.sl_index (ci:=1) (j:=(q.j)) rfl rfl Try.underlying81 i1 i2 rfl rfl (by omega) rfl) (fc (by have z:=q.z; exact Ev.sl_field (ci:=1) (fo:=0) rfl rfl (by omega) fldGor0 rfl rfl) (fc (by have z:=q.z; exact Ev.sl_field (ci:=1) (fo:=0) rfl rfl (by omega) fldSta0 rfl rfl) (fc (by have z:=q.z; exact Ev.sl_store (ci:=1) (m:=(q.j) * 2+0+0) (x:=(iN (q.nx))) rfl rfl rfl storeInt (by omega) rfl (Ev.isSym rfl) rfl) fn)))))))) (fc (cc rfl [] [] [0,1] (fun w F ho hn hF=>(may_ok q.a q.nx (by have z:=q.z; omega) (by have z:=q.z; omega) hn).mono (fun _ _ h=>⟨by rw [h.1,hm],h.2⟩))) fn) rfl [(4,q.bt)] tm2a0 tm2a0 2 rfl rfl [(0,.pointer (some ⟨4,0,none⟩)),(1,sy 5),(2,sy 6)] (.int .i64 0))
theorem ttF (q:TQ) (hj:q.gs[q.j]? = some ((q.a:Int),q.b)) (hl:q.j < q.gs.length) (hm:mayB q.a q.nx=true) (h0:q.nx=0) : Ev.PieE Try.prog 10 [] 0 48 ⟨q.W0,q.F0⟩ (tm2a13 q) (tm2a7 q) (fun κ:Ev.Ren=>(.int .i64 0)) (fun κ:Ev.Ren=>[Ev.blkA q.bt [(q.av),(dv κ 415)] 83,(tm2a11 q),Ev.slA 3 1 (dv κ 415) (q.fr.length+1) ((ints q.fr)++[(iN (q.j))])]):=(trE (c:=⟨q.W0,q.F0⟩) 40 (kn [q.av,q.fv,Ev.ptrR (q.av) ((q.j) * 2),Ev.ptrR (q.av) ((q.j) * 2+0),Ev.ptrR (q.av) ((q.j) * 2+0+0),iN (q.j),iN (q.nx),iN (q.gs.length),iN (q.a)] (fc q.lav (fc q.lfv (fc (Ev.ptrR_leaf _ _) (fc (Ev.ptrR_leaf _ _) (fc (Ev.ptrR_leaf _ _) fr))))) [(.geq,sy 5,.int .i64 0,.bool true),(.lss,sy 5,sy 7,.bool true),(.eql,sy 6,.int .i64 0,.bool true)] [] [] (fc (fun _ _ _=>Ev.bt_geq (by have z:=q.z; first | (simp; done) | (simp; omega))) (fc (fun _ _ _=>Ev.bt_lss (by have z:=q.z; first | (simp; done) | (simp; omega))) (fc (fun _ _ _=>Ev.bt_eql (by have z:=q.z; first | (simp; done) | (simp; omega))) fn))) fn fn q.W0 q.F0 [(tm2a4 q),(tm2a4 q),(tm2a12 q),[(tm2a11 q),Ev.atD 415 (fun v=>Ev.slA 3 1 v (q.fr.length+1) ((ints q.fr)++[(iN (q.j))]))]] [⟨[10,81],[sy 0],none,0,none,sy 7,none⟩,⟨[3,81],[sy 0,sy 5],none,0,none,sy 2,none⟩,⟨[7,87,0],[sy 2],none,0,none,sy 3,none⟩,⟨[1,85],[sy 3],none,0,none,.agg #[sy 8],none⟩,⟨[3,81],[sy 0,sy 5],none,1,none,sy 2,none⟩,⟨[7,87,0],[sy 2],none,1,none,sy 3,none⟩,⟨[7,85,0],[sy 3],none,1,none,sy 4,none⟩,⟨[2,3],[sy 4,sy 6],none,1,none,undef,some 2⟩,⟨[11,37,37],[sy 1],some (1,1,[sy 5]),2,some 415,.complex .f32 415 0,some 3⟩] [⟨28,[.agg #[sy 8],sy 6],0,none,.bool true,some 1⟩]) (fc (by obtain ⟨i,i1,i2,i3,i4⟩:=infGor; exact Ev.sl_len (ci:=1) rfl rfl Try.underlying81 i2 rfl rfl) (fc (by obtain ⟨i,i1,i2,i3,i4⟩:=infGor; have z:=q.z; exact Ev.sl_index (ci:=1) (j:=(q.j)) rfl rfl Try.underlying81 i1 i2 rfl rfl (by omega) rfl) (fc (by have z:=q.z; exact Ev.sl_field (ci:=1) (fo:=0) rfl rfl (by omega) fldGor0 rfl rfl) (fc (by have z:=q.z; exact Ev.sl_load1 (ci:=1) (m:=(q.j) * 2+0) (x:=(iN (q.a))) rfl rfl loadSta (gor_at hj).1 (by omega) rfl (fun ι=>(vk (by kernel_rfl) (by kernel_rfl)))) (fc (by obtain ⟨i,i1,i2,i3,i4⟩:=infGor; have z:=q.z; exact Ev.sl_index (ci:=1) (j:=(q.j)) rfl rfl Try.underlying81 i1 i2 rfl rfl (by omega) rfl) (fc (by have z:=q.z; exact Ev.sl_field (ci:=1) (fo:=0) rfl rfl (by omega) fldGor0 rfl rfl) (fc (by have z:=q.z; exact Ev.sl_field (ci:=1) (fo:=0) rfl rfl (by omega) fldSta0 rfl rfl) (fc (by have z:=q.z; exact Ev.sl_store (ci:=1) (m:=(q.j) * 2+0+0) (x:=(iN (q.nx))) rfl rfl rfl storeInt (by omega) rfl (Ev.isSym rfl) rfl) (fc (by obtain ⟨i,i1,i2,i3,i4⟩:=infInt; have z:=q.z; exact Ev.sl_append (ci:=2) (m:=1) (cs:=[(iN (q.j))]) rfl rfl rfl Try.underlying37 Try.underlying37 i1 i2 (by omega) i3 (by rw [i2]; rfl) (by rw [i4]; omega) (by omega) rfl rfl (ak (by kernel_rfl) (by kernel_rfl))) fn))))))))) (fc (cc rfl [] [] [0,1] (fun w F ho hn hF=>(may_ok q.a q.nx (by have z:=q.z; omega) (by have z:=q.z; omega) hn).mono (fun _ _ h=>⟨by rw [h.1,hm],h.2⟩))) fn) rfl [(4,q.bt)] tm2a0 [(4,[sy 0,.complex .f32 415 0],83)] 3 rfl rfl [(0,.pointer (some ⟨4,0,none⟩)),(1,sy 5),(2,sy 6)] (.int .i64 0)).conv (fun κ w=>⟨(fun _ h=>h),(fun _ h=>h),(fun _ h=>Ev.undy (a:=fun v=>Ev.slA 3 1 v (q.fr.length+1) ((ints q.fr)++[(iN (q.j))])) (fun _ _ _ _ _ h=>h) h),trivial⟩)
theorem ttN (q:TQ) (hj:q.gs[q.j]? = some ((q.a:Int),q.b)) (hl:q.j < q.gs.length) (hm:mayB q.a q.nx=false) : Ev.PieE Try.prog 10 [] 0 48 ⟨q.W0,q.F0⟩ (tm2a13 q) (tm2a7 q) (fun κ:Ev.Ren=>(.int .i64 4)) (fun κ:Ev.Ren=>(tm2a7 q)):=(trE (c:=⟨q.W0,q.F0⟩) 40 (kn [q.av,q.fv,Ev.ptrR (q.av) ((q.j) * 2),Ev.ptrR (q.av) ((q.j) * 2+0),iN (q.j),iN (q.nx),iN (q.gs.length),iN (q.a)] (fc q.lav (fc q.lfv (fc (Ev.ptrR_leaf _ _) (fc (Ev.ptrR_leaf _ _) fr)))) [(.geq,sy 4,.int .i64 0,.bool true),(.lss,sy 4,sy 6,.bool true)] [] [] (fc (fun _ _ _=>Ev.bt_geq (by have z:=q.z; first | (simp; done) | (simp; omega))) (fc (fun _ _ _=>Ev.bt_lss (by have z:=q.z; first | (simp; done) | (simp; omega))) fn)) fn fn q.W0 q.F0 [(tm2a4 q),(tm2a4 q)] [⟨[10,81],[sy 0],none,0,none,sy 6,none⟩,⟨[3,81],[sy 0,sy 4],none,0,none,sy 2,none⟩,⟨[7,87,0],[sy 2],none,0,none,sy 3,none⟩,⟨[1,85],[sy 3],none,0,none,.agg #[sy 7],none⟩] [⟨28,[.agg #[sy 7],sy 5],0,none,.bool false,some 1⟩]) (fc (by obtain ⟨i,i1,i2,i3,i4⟩:=infGor; exact Ev.sl_len (ci:=1) rfl rfl Try.underlying81 i2 rfl rfl) (fc (by obtain ⟨i,i1,i2,i3,i4⟩:=infGor; have z:=q.z; exact Ev.sl_index (ci:=1) (j:=(q.j)) rfl rfl Try.underlying81 i1 i2 rfl rfl (by omega) rfl) (fc (by have z:=q.z; exact Ev.sl_field (ci:=1) (fo:=0) rfl rfl (by omega) fldGor0 rfl rfl) (fc (by have z:=q.z; exact Ev.sl_load1 (ci:=1) (m:=(q.j) * 2+0) (x:=(iN (q.a))) rfl rfl loadSta (gor_at hj).1 (by omega) rfl (fun ι=>(vk (by kernel_rfl) (by kernel_rfl)))) fn)))) (fc (cc rfl [] [] [0,1] (fun w F ho hn hF=>(may_ok q.a q.nx (by have z:=q.z; omega) (by have z:=q.z; omega) hn).mono (fun _ _ h=>⟨by rw [h.1,hm],h.2⟩))) fn) rfl [(4,q.bt)] tm2a0 tm2a0 1 rfl rfl [(0,.pointer (some ⟨4,0,none⟩)),(1,sy 4),(2,sy 5)] (.int .i64 4))
theorem ttl (q:TQ) (hx:q.x < 0) : Ev.PieE Try.prog 10 [] 0 48 ⟨q.W0,q.F0⟩ [(0,(pz q.bt)),(1,(iz (q.x))),(2,(iN (q.nx)))] (tm2a7 q) (fun κ:Ev.Ren=>(.int .i64 5)) (fun κ:Ev.Ren=>(tm2a7 q)):=(trE (c:=⟨q.W0,q.F0⟩) 40 (kn [q.av,q.fv,iz (q.x),iN (q.nx)] (fc q.lav (fc q.lfv fr)) [(.geq,sy 2,.int .i64 0,.bool false)] [] [] (fc (fun _ _ _=>Ev.bt_geq (by have z:=q.z; first | (simp; done) | (simp; omega))) fn) fn fn q.W0 q.F0 [(tm2a4 q)] [] []) fn fn rfl [(4,q.bt)] tm2a0 tm2a0 0 rfl rfl [(0,.pointer (some ⟨4,0,none⟩)),(1,sy 2),(2,sy 3)] (.int .i64 5))
theorem tth (q:TQ) (hx:0≤q.x) (hx2:(q.gs.length:Int)≤q.x) : Ev.PieE Try.prog 10 [] 0 48 ⟨q.W0,q.F0⟩ [(0,(pz q.bt)),(1,(iz (q.x))),(2,(iN (q.nx)))] (tm2a7 q) (fun κ:Ev.Ren=>(.int .i64 5)) (fun κ:Ev.Ren=>(tm2a7 q)):=(trE (c:=⟨q.W0,q.F0⟩) 40 (kn [q.av,q.fv,iz (q.x),iN (q.nx),iN (q.gs.length)] (fc q.lav (fc q.lfv fr)) [(.geq,sy 2,.int .i64 0,.bool true),(.lss,sy 2,sy 4,.bool false)] [] [] (fc (fun _ _ _=>Ev.bt_geq (by have z:=q.z; first | (simp; done) | (simp; omega))) (fc (fun _ _ _=>Ev.bt_lss (by have z:=q.z; first | (simp; done) | (simp; omega))) fn)) fn fn q.W0 q.F0 [(tm2a4 q)] [⟨[10,81],[sy 0],none,0,none,sy 4,none⟩] []) (fc (by obtain ⟨i,i1,i2,i3,i4⟩:=infGor; exact Ev.sl_len (ci:=1) rfl rfl Try.underlying81 i2 rfl rfl) fn) fn rfl [(4,q.bt)] tm2a0 tm2a0 0 rfl rfl [(0,.pointer (some ⟨4,0,none⟩)),(1,sy 2),(2,sy 3)] (.int .i64 5))
theorem ttZ (q:TQ) (hz:q.fr.length=0) : Ev.PieE Try.prog 9 [] 0 52 ⟨q.W0,q.F0⟩ [(0,(pz q.bt))] (tm2a7 q) (fun κ:Ev.Ren=>(.tuple #[(.int .i64 (-1)),(.int .i64 130)])) (fun κ:Ev.Ren=>(tm2a7 q)):=(trE (c:=⟨q.W0,q.F0⟩) 40 (kn [q.av,q.fv,iN (q.fr.length),iz (((q.fr.length:Nat) : Int) - 1)] (fc q.lav (fc q.lfv fr)) [(.sub,sy 2,.int .i64 1,sy 3),(.lss,sy 3,.int .i64 0,.bool true)] [] [] (fc (fun _ _ _=>Ev.bt_sub (by have z:=q.z; exact wrap_ok (by omega) (by omega))) (fc (fun _ _ _=>Ev.bt_lss (by have z:=q.z; first | (simp; done) | (simp; omega))) fn)) fn fn q.W0 q.F0 [(tm2a4 q)] [⟨[10,37],[sy 1],none,0,none,sy 2,none⟩] []) (fc (by obtain ⟨i,i1,i2,i3,i4⟩:=infInt; exact Ev.sl_len (ci:=2) rfl rfl Try.underlying37 i2 rfl rfl) fn) fn rfl [(4,q.bt)] tm2a0 tm2a0 0 rfl rfl [(0,.pointer (some ⟨4,0,none⟩))] (.tuple #[.int .i64 (-1),.int .i64 130]))
theorem ttM (q:TQ) (hj:q.gs[q.j]? = some ((q.a:Int),q.b)) (hl:q.j < q.gs.length) (hp:0 < q.fr.length) (hfr:(ints q.fr)[(q.fr.length - 1) * 1]? = some (.int .i64 (q.j:Int))) : Ev.PieE Try.prog 9 [] 0 52 ⟨q.W0,q.F0⟩ [(0,(pz q.bt))] (tm2a7 q) (fun κ:Ev.Ren=>(.tuple #[(iN (q.j)),(.int .i64 0)])) (fun κ:Ev.Ren=>[Ev.blkA q.bt [(q.av),(Ev.cutV 1 (q.fv) 0 (q.fr.length - 1))] 83,(tm2a25 q),(tm2a3 q)]):=(trE (c:=⟨q.W0,q.F0⟩) 40 (kn [q.av,q.fv,Ev.ptrR (q.fv) ((q.fr.length - 1) * 1),Ev.cutV 1 (q.fv) 0 (q.fr.length - 1),Ev.ptrR (q.av) ((q.j) * 2),Ev.ptrR (q.av) ((q.j) * 2+0),Ev.ptrR (q.av) ((q.j) * 2+0+0),Ev.ptrR (q.av) ((q.j) * 2+1),iN (q.fr.length),iN (q.fr.length - 1),iN (q.j),iz (q.b),iz ((q.b)+1)] (fc q.lav (fc q.lfv (fc (Ev.ptrR_leaf _ _) (fc (by first | assumption | exact Ev.cutV_leaf q.lfv | exact q.lav | exact q.lfv) (fc (Ev.ptrR_leaf _ _) (fc (Ev.ptrR_leaf _ _) (fc (Ev.ptrR_leaf _ _) (fc (Ev.ptrR_leaf _ _) fr)))))))) [(.sub,sy 8,.int .i64 1,sy 9),(.lss,sy 9,.int .i64 0,.bool false),(.add,sy 11,.int .i64 1,sy 12)] [] [] (fc (fun _ _ _=>Ev.bt_sub (by have z:=q.z; rw [wrap_ok (by omega) (by omega)]; omega)) (fc (fun _ _ _=>Ev.bt_lss (by have z:=q.z; first | (simp; done) | (simp; omega))) (fc (fun _ _ _=>Ev.bt_add (by have z:=q.z; exact wrap_ok (by omega) (by omega))) fn))) fn fn q.W0 q.F0 [(tm2a4 q),[Ev.slA 87 2 (q.av) (q.gs.length) ((gor q.gs).set ((q.j) * 2+0+0) (.int .i64 1)),(tm2a3 q)],[(tm2a25 q),(tm2a3 q)]] [⟨[10,37],[sy 1],none,0,none,sy 8,none⟩,⟨[3,37],[sy 1,sy 9],none,0,none,sy 2,none⟩,⟨[1,3],[sy 2],none,0,none,sy 10,none⟩,⟨[4,37,0,1,0],[sy 1,sy 9],none,0,none,sy 3,none⟩,⟨[3,81],[sy 0,sy 10],none,0,none,sy 4,none⟩,⟨[7,87,0],[sy 4],none,0,none,sy 5,none⟩,⟨[7,85,0],[sy 5],none,0,none,sy 6,none⟩,⟨[2,3],[sy 6,.int .i64 1],none,0,none,undef,some 1⟩,⟨[3,81],[sy 0,sy 10],none,1,none,sy 4,none⟩,⟨[7,87,1],[sy 4],none,1,none,sy 7,none⟩,⟨[1,3],[sy 7],none,1,none,sy 11,none⟩,⟨[2,3],[sy 7,sy 12],none,1,none,undef,some 2⟩] []) (fc (by obtain ⟨i,i1,i2,i3,i4⟩:=infInt; exact Ev.sl_len (ci:=2) rfl rfl Try.underlying37 i2 rfl rfl) (fc (by obtain ⟨i,i1,i2,i3,i4⟩:=infInt; have z:=q.z; exact Ev.sl_index (ci:=2) (j:=(q.fr.length - 1)) rfl rfl Try.underlying37 i1 i2 rfl rfl (by omega) rfl) (fc (by have z:=q.z; exact Ev.sl_load (ci:=2) (m:=(q.fr.length - 1) * 1) (x:=(iN (q.j))) rfl rfl loadInt hfr (by omega) rfl (fun ι=>(vk (by kernel_rfl) (by kernel_rfl)))) (fc (by obtain ⟨i,i1,i2,i3,i4⟩:=infInt; have z:=q.z; exact Ev.sl_hi (ci:=2) (hi:=(q.fr.length - 1)) rfl rfl Try.underlying37 i1 i2 rfl rfl (by omega) rfl) (fc (by obtain ⟨i,i1,i2,i3,i4⟩:=infGor; have z:=q.z; exact Ev.sl_index (ci:=1) (j:=(q.j)) rfl rfl Try.underlying81 i1 i2 rfl rfl (by omega) rfl) (fc (by have z:=q.z; exact Ev.sl_field (ci:=1) (fo:=0) rfl rfl (by omega) fldGor0 rfl rfl) (fc (by have z:=q.z; exact Ev.sl_field (ci:=1) (fo:=0) rfl rfl (by omega) fldSta0 rfl rfl) (fc (by have z:=q.z; exact Ev.sl_store (ci:=1) (m:=(q.j) * 2+0+0) (x:=(.int .i64 1)) rfl rfl rfl storeInt (by omega) rfl Ev.isInt rfl) (fc (by obtain ⟨i,i1,i2,i3,i4⟩:=infGor; have z:=q.z; exact Ev.sl_index (ci:=1) (j:=(q.j)) rfl rfl Try.underlying81 i1 i2 rfl rfl (by omega) rfl) (fc (by have z:=q.z; exact Ev.sl_field (ci:=1) (fo:=1) rfl rfl (by omega) fldGor1 rfl rfl) (fc (by have z:=q.z; exact Ev.sl_load (ci:=1) (m:=(q.j) * 2+1) (x:=(iz (q.b))) rfl rfl loadInt (get_ne (by omega) (gor_at hj).2) (by omega) rfl (fun ι=>(vk (by kernel_rfl) (by kernel_rfl)))) (fc (by have z:=q.z; exact Ev.sl_store (ci:=1) (m:=(q.j) * 2+1) (x:=(iz ((q.b)+1))) rfl rfl rfl storeInt (by omega) rfl (Ev.isSym rfl) rfl) fn)))))))))))) fn rfl [(4,q.bt)] tm2a0 [(4,[sy 0,sy 3],83)] 2 rfl rfl [(0,.pointer (some ⟨4,0,none⟩))] (.tuple #[sy 10,.int .i64 0]))
end Go.Proofs.Ytankbefdlbcdnaa
