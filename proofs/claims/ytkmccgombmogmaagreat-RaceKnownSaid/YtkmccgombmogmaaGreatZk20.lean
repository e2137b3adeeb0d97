/- Part of a proof: see the last text. -/
import Derived.Test.YtkmccgombmogmaaGreatZk19
namespace Go.Proofs.YtkmccgombmogmaaGreat
open Go.RowKit
open Go.Ev (iz uz iN)
set_option linter.unusedVariables false
set_option linter.unusedSimpArgs false
set_option maxRecDepth 8000
section
variable {ctx:Ev.Ctx} {w:World} {r:List Ev.Asr} {c:Cfg} {x:RaceS} {rs:Nat→OwR} {p:Nat} {o:OwnS} {M:MacS} {lv rv:Value}
theorem OwR.at0 (c:Cfg) (R:OwR) : (R.cs c)[0]? = some (iz R.kd):=rfl
theorem OwR.atP {c:Cfg} {R:OwR} (h:R.P.length=12) {j:Nat} (hj:j < 12) : (R.cs c)[3+j]? = R.P[j]?:=by
 unfold OwR.cs
 rw [List.getElem?_append_right (by simp),List.getElem?_append_left (by simp; omega)]
 simp
theorem OwR.atG {c:Cfg} {R:OwR} (h:R.P.length=12) (h2:R.G.length=13) {j:Nat} (hj:j < 13) : (R.cs c)[15+j]? = R.G[j]?:=by
 unfold OwR.cs
 rw [List.getElem?_append_right (by simp; omega),List.getElem?_append_right (by simp; omega),List.getElem?_append_left (by simp; omega)]
 congr 1
 simp
 omega
theorem OwR.atS {c:Cfg} {R:OwR} (h:R.P.length=12) (h2:R.G.length=13) (h3:R.S.length=24) {j:Nat} (hj:j < 24) : (R.cs c)[28+j]? = R.S[j]?:=by
 unfold OwR.cs
 rw [List.getElem?_append_right (by simp; omega),List.getElem?_append_right (by simp; omega),List.getElem?_append_right (by simp; omega),List.getElem?_append_left (by simp; omega)]
 congr 1
 simp
 omega
theorem OwR.Ok.free {R:OwR} {N:Option MacS} (h:R.Ok c p N) : R.free.Ok c p none:=⟨h.P,h.G,h.S,h.one,h.dv,rfl⟩
theorem OwR.free_cs (c:Cfg) (R:OwR) : R.free.cs c=[.int .i64 0,.int .i64 0,.int .i64 0]++(R.cs c).drop 3:=rfl
theorem ows_split (hp:p < c.n) (hR:∀ q,q < c.n→((rs q).cs c).length=54) : ∃ pre post,(∀ R:OwR,owsL c (setR rs p R)=pre++(R.cs c++post))∧owsL c rs=pre++((rs p).cs c++post)∧pre.length=p * 54:=by
 obtain ⟨pre,post,h1,h2⟩:=flatO_at (fun q=>(rs q).cs c) hp
 refine ⟨pre,post,fun R=>?_,h1 _ (fun q _=>rfl),h2 hR⟩
 have:=h1 (fun q=>(setR rs p R q).cs c) (fun q hq=>by rw [setR_ne rs R hq])
 rw [setR_at] at this
 exact this
theorem ows_one (hR:∀ q,q < c.n→∀ y ∈ (rs q).cs c,y.oneCell'=true) : ∀ y ∈ owsL c rs,y.oneCell'=true:=by
 intro y hy
 obtain ⟨q,hq,hy⟩:=List.mem_flatMap.1 hy
 exact hR q (List.mem_range.1 hq) y hy
theorem RefOk.at (hR:RefOk c x rs) (hl:x.ow.length=c.n) {q:Nat} (hq:q < c.n) : ∃ N,(rs q).Ok c q N:=⟨_,hR q _ (List.getElem?_eq_getElem (by rw [hl]; exact hq))⟩
theorem RefOk.len (hR:RefOk c x rs) (hl:x.ow.length=c.n) : ∀ q,q < c.n→((rs q).cs c).length=54:=fun q hq=>by
 obtain ⟨N,h⟩:=hR.at hl hq
 exact h.len
theorem RefOk.ones (hR:RefOk c x rs) (hl:x.ow.length=c.n) : ∀ q,q < c.n→∀ y ∈ (rs q).cs c,y.oneCell'=true:=fun q hq=>by
 obtain ⟨N,h⟩:=hR.at hl hq
 exact h.ones
theorem fam_set {x':RaceS} {R:OwR} (h:∀ q,q ≠ p→x'.ow[q]? = x.ow[q]?) : ∀ q,q ≠ p→fam c x' (setR rs p R) q=fam c x rs q:=fun q hq=>by
 unfold fam
 rw [h q hq,setR_ne rs R hq]
theorem refOk_set {x':RaceS} {R:OwR} {o':OwnS} (hR:RefOk c x rs) (h:∀ q,q ≠ p→x'.ow[q]? = x.ow[q]?) (ho:x'.ow[p]? = some o') (h':R.Ok c p o'.mac) : RefOk c x' (setR rs p R):=fun q oq hq=>by
 by_cases e:q=p
 ·subst e
  rw [ho] at hq
  cases hq
  rw [setR_at]
  exact h'
 ·rw [setR_ne rs R e]
  rw [h q e] at hq
  exact hR q oq hq
theorem own_ne {o':OwnS} {q:Nat} (h:q ≠ p) : (x.own p o').ow[q]? = x.ow[q]?:=by
 show (x.ow.set p o')[q]? = _
 rw [List.getElem?_set_ne (Ne.symm h)]
theorem own_eq {o':OwnS} (h:x.ow[p]? = some o) : (x.own p o').ow[p]? = some o':=by
 show (x.ow.set p o')[p]? = _
 rw [List.getElem?_set_self (List.getElem?_eq_some_iff.1 h).1]
def outV (R:OwR) : MacS→Value
 | .put _=>R.hd
 | .get _=>.slice none 0 0
 | .steal _ u=>match u.ly with | some _=>R.ll | none=>.slice none 0 0
def keepPs (R:OwR) : MacS→List Ev.Asr
 | .steal _ u=>[isA R.bt u.bt]
 | _=>[]
theorem out_part {N:OwR} (h0:M.st=0) {l:List Ev.Asr} (h:Ev.Hold ctx (macPs N (some M)++l) w) : Ev.Hold ctx (isA (outV N M) M.over::(keepPs N M++l)) w:=by
 have nil0:∀ {l':List Ev.Asr},Ev.Hold ctx l' w→Ev.Hold ctx (isA (.slice none 0 0) []::l') w:=fun hh=>hh.nilSl (e := 3) (sz:=1)
 cases M with
 | put u =>
  have h1:Ev.Hold ctx ([isA N.tk u.ts]++isA N.hd u.hs::l) w:=h
  have h2:=hold_drop h1
  show Ev.Hold ctx (isA N.hd (if u.st=0 then u.hs else [])::l) w
  rw [if_pos (show u.st=0 from h0)]
  exact h2
 | get u=>exact nil0 h
 | steal v u =>
  show Ev.Hold ctx (isA (match u.ly with | some _=>N.ll | none=>.slice none 0 0) u.left::(isA N.bt u.bt::l)) w
  unfold StealS.left
  replace h0:u.st=0:=h0
  rw [if_pos h0]
  have h1:Ev.Hold ctx (isA N.bt u.bt::((match u.ly with | none=>[] | some l=>[isA N.ll l.ls])++l)) w:=h
  cases hl:u.ly with
  | none =>
   rw [hl] at h1
   exact nil0 h1
  | some y =>
   rw [hl] at h1
   exact hold_swap h1
set_option maxHeartbeats 1000000 in
theorem ends12 (m:Nat) (hp:p < c.n) (hl:x.ow.length=c.n) (ho:x.ow[p]? = some o) (hM:o.mac=some M) (h0:M.st=0) (hS:∀ v u,M=.steal v u→StealOk u) (hR:RefOk c x rs) (h:Ev.Hold ctx (refL c x rs lv rv++r) w) (pts:Int) :
  CallsIn Fence.wide m Tryz.prog 58 #[.agg (rV c rv x.m.ops lv pts).toArray,.int .i64 (p:Int)] w fun e w'=>∃ lv',e=.returned (.tuple #[.agg (rV c rv x.m.ops lv' pts).toArray,.agg #[iz (rs p).kd,iz M.got,outV (rs p) M],.bool true])∧RefOk c (x.own p (o.now none)) (setR rs p (rs p).free)∧Ev.Hold ctx (isA (outV (rs p) M) M.over::(refL c (x.own p (o.now none)) (setR rs p (rs p).free) lv' rv++r)) w':=by
 have hnb:=c.nb
 have hOk:=hR p o ho
 have h1:=ref_take hp ho h
 obtain ⟨pre,post,e1,e2,hpre⟩:=ows_split hp (hR.len hl)
 have hone:=ows_one (hR.ones hl)
 rw [e2] at hone
 obtain ⟨ra,rk,hrv⟩ : ∃ a k,rv=.slice a x.m.cells.length k:=slr_val (hold_slr (hold_drop (r:=[_]) h1))
 obtain ⟨la,lk,hlv⟩ : ∃ a k,lv=.slice a c.n k:=slr_val (hold_slr h1)
 have h2:Ev.Hold ctx (isA (outV (rs p) M) M.over::(keepPs (rs p) M++(lA c lv rs::cA rv x.m::isA (rs p).dv (dqAll c o.dq)::(famR c x rs p++r)))) w:=by
  have h3:Ev.Hold ctx ([lA c lv rs,cA rv x.m,isA (rs p).dv (dqAll c o.dq)]++(macPs (rs p) (some M)++(famR c x rs p++r))) w:=by
   rw [← hM]
   exact hold_perm (by simp [OwR.ps]) h1
  have h4:Ev.Hold ctx (macPs (rs p) (some M)++(lA c lv rs::cA rv x.m::isA (rs p).dv (dqAll c o.dq)::(famR c x rs p++r))) w:=hold_perm (by rw [← List.append_assoc]; exact (List.perm_append_comm.append_right _).trans (by simp)) h3
  exact out_part h0 h4
 obtain ⟨oa,ok,hov⟩ : ∃ a k,outV (rs p) M=.slice a M.over.length k:=slr_val (hold_slr h2)
 obtain ⟨cP,cG,cS,c1,c2,c3⟩:=hOk
 rw [hM] at c3
 have hlen:((rs p).cs c).length=54:=hR.len hl p hp
 have h5:Ev.Hold ctx (lA c lv rs::((isA (outV (rs p) M) M.over::keepPs (rs p) M)++(cA rv x.m::isA (rs p).dv (dqAll c o.dq)::(famR c x rs p++r)))) w:=hold_up (isA (outV (rs p) M) M.over::keepPs (rs p) M) h2
 rw [show lA c lv rs=Ev.slA 114 54 lv c.n (pre++((rs p).cs c++post)) by rw [← e2]] at h5
 have hk:((rs p).cs c)[0]? = some (iz 1)∧((rs p).cs c)[14]? = some (.slice oa M.over.length ok)∧M.got = -1∨((rs p).cs c)[0]? = some (iz 2)∧(((rs p).cs c)[26]? = some (.bool false)∧M.got = -1∨((rs p).cs c)[26]? = some (.bool true)∧((rs p).cs c)[25]? = some (iz M.got))∧Value.slice oa M.over.length ok=.slice none 0 0 ∨
   ((rs p).cs c)[0]? = some (iz 3)∧(((rs p).cs c)[39]? = some (iz 0)∧M.got = -1∧Value.slice oa M.over.length ok=.slice none 0 0∨∃ (mn:Int) (bb bo bn bk:Nat),0 < mn∧((rs p).cs c)[39]? = some (iz mn)∧((rs p).cs c)[38]? = some (.slice (some ⟨bb,bo,none⟩) bn bk)∧0 < bn∧(∀ W,Ev.Hold ctx ((isA (outV (rs p) M) M.over::keepPs (rs p) M)++(cA rv x.m::isA (rs p).dv (dqAll c o.dq)::(famR c x rs p++r))) W→W.cell? ⟨bb,bo,none⟩=some (iz M.got))∧((rs p).cs c)[47]? = some (.slice oa M.over.length ok)):=by
  rw [← hov]
  cases M with
  | put u =>
   obtain ⟨k1,k2,k3⟩:=c3
   refine .inl ⟨by rw [OwR.at0,k1],?_,rfl⟩
   rw [OwR.atP cP (j:=11) (by decide),k3]
   rfl
  | get u =>
   obtain ⟨k1,gt,tr,k3,k4⟩:=c3
   refine .inr (.inl ⟨by rw [OwR.at0,k1],?_,rfl⟩)
   have g1:((rs p).cs c)[26]? = some (.bool u.has):=by
    rw [OwR.atG cP cG (j:=11) (by decide),k3]
    rfl
   have g2:((rs p).cs c)[25]? = some (iz gt):=by
    rw [OwR.atG cP cG (j:=10) (by decide),k3]
    rfl
   cases hh:u.has with
   | false=>exact .inl ⟨by rw [g1,hh],by simp [MacS.got,hh]⟩
   | true=>exact .inr ⟨by rw [g1,hh],by rw [g2,k4 hh]; simp [MacS.got,hh]⟩
  | steal v u =>
   obtain ⟨k1,k2,k3,k4⟩:=c3
   replace h0:u.st=0:=h0
   have hSO:=hS v u rfl
   have g1:((rs p).cs c)[39]? = some (iz (u.many:Int)):=by
    rw [OwR.atS cP cG cS (j:=11) (by decide),k3]
    cases hy:u.ly <;> simp [s11,hy]
   have g2:((rs p).cs c)[38]? = some (rs p).bt:=by
    rw [OwR.atS cP cG cS (j:=10) (by decide),k3]
    cases hy:u.ly <;> simp [s11,hy]
   refine .inr (.inr ⟨by rw [OwR.at0,k1],?_⟩)
   cases hy:u.ly with
   | none=>exact .inl ⟨by rw [g1]; simp [StealS.many,hy],by simp [MacS.got,StealS.got,h0,hy],by simp [outV,hy]⟩
   | some y =>
    have hpos:=(hSO.lay y hy).2
    have hbt:=hold_slr (hold_up [_] (l:=(lA c lv rs::cA rv x.m::isA (rs p).dv (dqAll c o.dq)::(famR c x rs p++r))) h2)
    obtain ⟨a0,n0,hb0⟩:=slr_val hbt
    rw [hb0] at hbt
    obtain ⟨bb,bo,rfl,_⟩:=slr_cell hbt hpos
    refine .inr ⟨(u.many:Int),bb,bo,u.bt.length,n0,by simp [StealS.many,hy]; omega,g1,by rw [g2,hb0],hpos,fun W hW=>?_,?_⟩
    ·have hbt2:=hold_slr (hold_up [_] (l:=(cA rv x.m::isA (rs p).dv (dqAll c o.dq)::(famR c x rs p++r))) hW)
     rw [hb0] at hbt2
     obtain ⟨b',o',he,hc⟩:=slr_cell hbt2 hpos
     cases he
     rw [Nat.add_zero] at hc
     rw [hc]
     simp [MacS.got,StealS.got,h0,hy]
    ·rw [OwR.atS cP cG cS (j:=19) (by decide),k3]
     simp [s11,hy,l9,outV]
 have hw:=ends12w m (R:=rs p) (c:=c) (ra:=ra) (rn:=x.m.cells.length) (rk:=rk) (ops:=x.m.ops) (pts:=pts) hnb.2 hp hpre hlen hone (OwR.free_cs c _) (OwR.Ok.free ⟨cP,cG,cS,c1,c2,c3⟩).ones hk (by rw [hlv] at h5; exact h5)
 rw [hrv,hlv]
 refine hw.mono ?_
 rintro e w' ⟨a,k,kd,q1,rfl,q2⟩
 rw [OwR.at0] at q1
 cases q1
 refine ⟨_,by rw [hov],refOk_set hR (fun q hq=>own_ne hq) (own_eq ho) (OwR.Ok.free ⟨cP,cG,cS,c1,c2,c3⟩),?_⟩
 rw [← e1 (rs p).free] at q2
 have q4:=hold_drop (hold_dn (keepPs (rs p) M) (hold_dn (isA (outV (rs p) M) M.over::keepPs (rs p) M) q2))
 have q5:=hold_dn ([lA c (.slice a c.n k) (setR rs p (rs p).free),cA (.slice ra x.m.cells.length rk) x.m,isA (rs p).dv (dqAll c o.dq)]++famR c x rs p) (l:=r) (by rw [List.append_assoc]; rw [hrv] at q4; exact q4)
 rw [List.append_assoc] at q5
 have q6:=ref_put (x:=x) (rs:=rs) (x':=x.own p (o.now none)) (rs':=setR rs p (rs p).free) (lv:=.slice a c.n k) (rv:=.slice ra x.m.cells.length rk) (r:=isA (outV (rs p) M) M.over::r) hp (own_eq ho) (fam_set (fun q hq=>own_ne hq)) (w:=w') (ctx:=ctx) (by rw [setR_at]; exact q5)
 exact hold_up _ q6
end
end Go.Proofs.YtkmccgombmogmaaGreat

namespace Go.Proofs.YtkmccgombmogmaaGreat
open Go.RowKit
set_option linter.unusedVariables false
set_option linter.unusedSimpArgs false
section
variable {c:Cfg} {d:DqS} {B:Int}
theorem dqAll_ln (c:Cfg) (d:DqS) : (dqAll c d).length=(szW d.w).toNat:=by rw [dqAll_win,win_len]
theorem dqPut_L (hx:DqOk c d) (hw:WOk c B d.w) (hB:B≤1073741824) (g:Int) : dqAll c (dqPut c d g).1=dputL c.q (dqAll c d) g:=by
 have hz:=szW_nn d.w
 have hsz:=hw.sz
 unfold dqPut dputL
 rw [dqAll_ln]
 by_cases h:szW d.w < (c.q:Int)
 ·rw [if_pos h,if_pos (by omega)]
  exact (dq_grow hx hw hB h g).2.2
 ·rw [if_neg h,if_neg (by omega)]
  exact (dq_back hx hw hB (k:=c.q / 2) (by omega)).2
theorem dqGet_L (hx:DqOk c d) (hw:WOk c B d.w) (hB:B≤1073741824) : dqAll c (dqGet d)=(dqAll c d).drop 1:=by
 have hz:=szW_nn d.w
 unfold dqGet
 by_cases h:szW d.w=0
 ·rw [if_pos h,List.drop_eq_nil_of_le (by rw [dqAll_ln]; omega)]
  exact List.eq_nil_of_length_eq_zero (by rw [dqAll_ln]; omega)
 ·rw [if_neg h]
  exact (dq_gain hx hw hB (k:=1) (by omega)).2
theorem dqSteal_L (hx:DqOk c d) (hw:WOk c B d.w) (hB:B≤1073741824) : dqAll c (dqSteal d)=(dqAll c d).drop ((dqAll c d).length - (dqAll c d).length / 2):=by
 have hz:=szW_nn d.w
 unfold dqSteal
 rw [dqAll_ln]
 by_cases h:szW d.w=0
 ·have e:dqAll c d=[]:=List.eq_nil_of_length_eq_zero (by rw [dqAll_ln]; omega)
  simp only [if_pos h]
  rw [e]
  simp
 ·simp only [if_neg h]
  have e:oldN (szW d.w)=(((szW d.w).toNat - (szW d.w).toNat / 2:Nat) : Int):=by unfold oldN; omega
  rw [e]
  exact (dq_gain hx hw hB (by omega)).2
theorem dqLay_L (hx:DqOk c d) (hw:WOk c B d.w) (hB:B≤1073741824) (l:List Int) : dqAll c (dqLay c d (l.take (dqN c d l)))=dqAll c d++l.take (min l.length (c.q - (dqAll c d).length)):=by
 have hz:=szW_nn d.w
 have hsz:=hw.sz
 rw [dqAll_ln]
 refine (dq_lay hx hw hB _ ?_).2.2.2
 rw [List.length_take]
 unfold dqN
 omega
structure AtI (x:RaceS) (p:Nat) (m:MemM) (pts:Int) (o1:OwnS) (x1:RaceS) : Prop where
 m:x1.m=m
 pts:x1.pts=pts
 len:x1.ow.length=x.ow.length
 self:x1.ow[p]? = some o1
 other:∀ q,q ≠ p→x1.ow[q]? = x.ow[q]?
variable {x:RaceS} {p:Nat} {o:OwnS}
theorem AtI.no (hp:p < x.ow.length) (m:MemM) (o1:OwnS) : AtI x p m x.pts o1 (RaceS.own ⟨m,x.ow,x.pts,x.bad⟩ p o1) :=
 ⟨rfl,rfl,List.length_set,List.getElem?_set_self hp,fun q hq=>List.getElem?_set_ne (Ne.symm hq)⟩
theorem AtI.yes (hp:p < x.ow.length) (m:MemM) (o1 o2:OwnS) (b:Bool) : AtI x p m (IntKind.i64.wrap (x.pts+1)) o2 (((RaceS.own ⟨m,x.ow,x.pts,x.bad⟩ p o1).own p o2).holds b):=by
 refine ⟨rfl,rfl,by simp [RaceS.holds,RaceS.own],?_,fun q hq=>?_⟩
 ·show ((x.ow.set p o1).set p o2)[p]? = _
  rw [List.getElem?_set_self (by simpa using hp)]
 ·show ((x.ow.set p o1).set p o2)[q]? = _
  rw [List.getElem?_set_ne (Ne.symm hq),List.getElem?_set_ne (Ne.symm hq)]
theorem at_put0 {u:PutS} (hp:p < x.ow.length) (h:(putStep c p u x.m).1.st ≠ 0) : AtI x p (putStep c p u x.m).2 x.pts (o.now (some (.put (putStep c p u x.m).1))) (atPoint c x p o (.put u)):=by
 have e:atPoint c x p o (.put u)=RaceS.own ⟨(putStep c p u x.m).2,x.ow,x.pts,x.bad⟩ p (o.now (some (.put (putStep c p u x.m).1))):=by simp only [atPoint,MacS.step,racePoint,if_neg h]
 rw [e]
 exact AtI.no hp _ _
theorem at_put1 {u:PutS} (hp:p < x.ow.length) (h:(putStep c p u x.m).1.st=0) : AtI x p (putStep c p u x.m).2 (IntKind.i64.wrap (x.pts+1)) ((o.now (some (.put (putStep c p u x.m).1))).deq (dqPut c o.dq o.cg).1) (atPoint c x p o (.put u)):=by
 have e:atPoint c x p o (.put u)=((RaceS.own ⟨(putStep c p u x.m).2,x.ow,x.pts,x.bad⟩ p (o.now (some (.put (putStep c p u x.m).1)))).own p ((o.now (some (.put (putStep c p u x.m).1))).deq (dqPut c o.dq o.cg).1)).holds (decide ((dqPut c o.dq o.cg).2=(putStep c p u x.m).1.hs)):=by
  simp only [atPoint,MacS.step,racePoint,if_pos h]
  rfl
 rw [e]
 exact AtI.yes hp _ _ _ _
theorem at_get0 {u:GetS} (hp:p < x.ow.length) (h:(getStep c p u x.m).1.st ≠ 0) : AtI x p (getStep c p u x.m).2 x.pts (o.now (some (.get (getStep c p u x.m).1))) (atPoint c x p o (.get u)):=by
 have e:atPoint c x p o (.get u)=RaceS.own ⟨(getStep c p u x.m).2,x.ow,x.pts,x.bad⟩ p (o.now (some (.get (getStep c p u x.m).1))):=by simp only [atPoint,MacS.step,racePoint,if_neg h]
 rw [e]
 exact AtI.no hp _ _
theorem at_get1 {u:GetS} (hp:p < x.ow.length) (h:(getStep c p u x.m).1.st=0) : AtI x p (getStep c p u x.m).2 (IntKind.i64.wrap (x.pts+1)) ((o.now (some (.get (getStep c p u x.m).1))).deq (dqGet o.dq)) (atPoint c x p o (.get u)):=by
 have e:∃ b,atPoint c x p o (.get u)=((RaceS.own ⟨(getStep c p u x.m).2,x.ow,x.pts,x.bad⟩ p (o.now (some (.get (getStep c p u x.m).1)))).own p ((o.now (some (.get (getStep c p u x.m).1))).deq (dqGet o.dq))).holds b:=by
  simp only [atPoint,MacS.step,racePoint,if_pos h]
  exact ⟨_,rfl⟩
 obtain ⟨b,e⟩:=e
 rw [e]
 exact AtI.yes hp _ _ _ _
theorem ow_G (A B C D:List Value) : A++(B++(C++D))=(A++B)++(C++D):=(List.append_assoc ..).symm
theorem ow_S (A B C D E:List Value) : A++(B++(C++(D++E)))=(A++(B++C))++(D++E):=by simp
theorem ow_D (A B C D E:List Value) : A++(B++(C++(D++E)))=(A++(B++(C++D)))++(E++[]):=by simp
variable {ctx:Ev.Ctx} {w:World} {r L:List Ev.Asr} {rs:Nat→OwR} {lv rv:Value} {m1:MemM} {pts:Int} {o1:OwnS} {x1:RaceS} {pre post:List Value} {R:OwR} {M:MacS}
theorem blk_eq {b:Nat} {cs cs':List Value} {T:TypeId} (e:cs=cs') (h:Ev.Hold ctx (Ev.blkA b cs T::r) w) : Ev.Hold ctx (Ev.blkA b cs' T::r) w:=e ▸ h
theorem ref_close (hp:p < c.n) (hA:AtI x p m1 pts o1 x1) (e1:∀ R:OwR,owsL c (setR rs p R)=pre++(R.cs c++post)) (h:Ev.Hold ctx (Ev.slA 114 54 lv c.n (pre++(R.cs c++post))::cA rv m1::(R.ps c o1++(L++(famR c x rs p++r)))) w) : Ev.Hold ctx (L++(refL c x1 (setR rs p R) lv rv++r)) w:=by
 refine hold_perm (List.perm_append_comm_assoc ..) ?_
 refine ref_put (x:=x) (rs:=rs) hp hA.self (fam_set hA.other) ?_
 show Ev.Hold ctx (Ev.slA 114 54 lv c.n (owsL c (setR rs p R))::_) w
 rw [e1,hA.m,setR_at]
 exact hold_perm ((((List.perm_append_comm_assoc ..).append_left _).cons _).cons _) h
end
end Go.Proofs.YtkmccgombmogmaaGreat
namespace Go.Proofs.YtkmccgombmogmaaGreat
open Go.RowKit
set_option linter.unusedVariables false
set_option linter.unusedSimpArgs false
section
variable {c:Cfg} {B:Int} {m:MemM} {p v:Nat} {u:StealS} {gn:Bool} {l:List Int}
theorem steal_cases (h:StealI c B m p v u gn l) (h0:u.st ≠ 0) :
  ((stealStep c p v u m).1.st ≠ 0∧¬ (gn=false∧0 < (stealStep c p v u m).1.many)∧(u.st=1∧u.many=0∧(stealStep c p v u m).1.many=0∨u.st ≠ 1∧u.st ≠ 4∧u.many=0∧(stealStep c p v u m).1.many=0∨u.st=4∧u.many ≠ 0)) ∨
  (gn=false∧((stealStep c p v u m).1.st=0∨0 < (stealStep c p v u m).1.many)∧(u.st=1∧(stealStep c p v u m).1.st=0∨u.st ≠ 1∧u.many=0∧0 < (stealStep c p v u m).1.many)) ∨
  (gn=true∧(stealStep c p v u m).1.st=0∧u.st=4∧u.many ≠ 0∧l=u.bt.drop 1∧(stealStep c p v u m).1.bt=u.bt):=by
 obtain ⟨st,ww,bt,ly⟩:=u
 have hok:=h.ok
 have hst:st < 5:=hok.st
 have hs:st=1∨st=2∨st=3∨st=4:=by have:st ≠ 0:=h0; omega
 rcases hs with rfl | rfl | rfl | rfl
 ·have hl:ly=none:=hok.no (.inl rfl)
  subst hl
  by_cases hc:szW (ld m (c.word v))=0∨(c.q:Int) < szW (ld m (c.word v))
  ·exact .inr (.inl ⟨h.s123 (.inl rfl),.inl (by simp only [stealStep]; rw [if_pos hc]),.inl ⟨rfl,by simp only [stealStep]; rw [if_pos hc]⟩⟩)
  ·exact .inl ⟨by simp only [stealStep]; rw [if_neg hc]; decide,fun e=>absurd e.2 (by simp [stealStep,StealS.many]),.inl ⟨rfl,rfl,rfl⟩⟩
 ·have hl:ly=none:=hok.no (.inr (.inl rfl))
  subst hl
  exact .inl ⟨by simp only [stealStep]; split <;> decide,fun e=>absurd e.2 (by simp [stealStep,StealS.many]),.inr (.inl ⟨by simp,by simp,rfl,rfl⟩)⟩
 ·have hl:ly=none:=hok.no (.inr (.inr rfl))
  subst hl
  have hb:0 < bt.length:=hok.three rfl
  by_cases hc:ld m (c.word v)=ww
  ·exact .inr (.inl ⟨h.s123 (.inr (.inr rfl)),.inr (by simp only [stealStep]; rw [if_pos hc]; exact hb),.inr ⟨by simp,rfl,by simp only [stealStep]; rw [if_pos hc]; exact hb⟩⟩)
  ·exact .inl ⟨by simp only [stealStep]; rw [if_neg hc]; exact Nat.one_ne_zero,fun e=>absurd e.2 (by simp only [stealStep]; rw [if_neg hc]; simp [StealS.many]),.inr (.inl ⟨by simp,by simp,rfl,by simp only [stealStep]; rw [if_neg hc]; rfl⟩)⟩
 ·obtain ⟨k1,y,k2,k3,k4,k5,k6⟩:=h.s4 rfl
  have k2':ly=some y:=k2
  subst k2'
  have hb:0 < bt.length:=(hok.lay y rfl).2
  by_cases hc:(layStep c p y m).1.st=0
  ·exact .inr (.inr ⟨k1,by simp only [stealStep]; rw [if_pos hc],rfl,by show bt.length ≠ 0; omega,k5,rfl⟩)
  ·exact .inl ⟨by simp only [stealStep]; rw [if_neg hc]; decide,(fun e=>by rw [k1] at e; cases e.1),.inr (.inr ⟨rfl,by show bt.length ≠ 0; omega⟩)⟩
theorem s11_len (c:Cfg) (p v:Nat) (u:StealS) (bt ll:Value) : (s11 c p v u bt ll).toList.length=24:=by
 unfold s11
 cases u.ly <;> rfl
theorem s11_ones {bt ll:Value} (h1:Ev.leafV bt=true) (h2:Ev.leafV ll=true) : ∀ y ∈ (s11 c p v u bt ll).toList,y.oneCell'=true:=by
 have k1:=leaf_oc h1
 have k2:=leaf_oc h2
 unfold s11
 cases u.ly with
 | none =>
  intro y hy
  simp only [List.cons_append,List.nil_append,List.mem_cons,List.not_mem_nil,or_false] at hy
  rcases hy with rfl|rfl|rfl|rfl|rfl|rfl|rfl|rfl|rfl|rfl|rfl|rfl|rfl|rfl|rfl|rfl|rfl|rfl|rfl|rfl|rfl|rfl|rfl|rfl <;> first | rfl | assumption
 | some l =>
  intro y hy
  simp only [l9,List.cons_append,List.nil_append,List.mem_cons,List.not_mem_nil,or_false] at hy
  rcases hy with rfl|rfl|rfl|rfl|rfl|rfl|rfl|rfl|rfl|rfl|rfl|rfl|rfl|rfl|rfl|rfl|rfl|rfl|rfl|rfl|rfl|rfl|rfl|rfl <;> first | rfl | assumption
theorem perm4n (X M F L r:List Ev.Asr) : (X++(M++(F++(L++r)))).Perm (L++(X++(M++(F++r)))):=((((List.perm_append_comm_assoc F L r).append_left M).trans (List.perm_append_comm_assoc M L _)).append_left X).trans (List.perm_append_comm_assoc X L _)
def OwR.dvd (r:OwR) (d:Value) : OwR:=⟨r.kd,r.cv,r.cg,r.P,r.G,r.S,d,r.tk,r.hd,r.bt,r.ll⟩
theorem OwR.Ok.dvd {N:Option MacS} {r:OwR} (h:r.Ok c p N) {d:Value} (hd:Ev.leafV d=true) : (r.dvd d).Ok c p N :=
 ⟨h.P,h.G,h.S,h.one,hd,by
  have:=h.mac
  cases N with
  | none=>exact this
  | some M=>cases M <;> exact this⟩
theorem OwR.dvd_ps (r:OwR) (d:Value) (o:OwnS) : (r.dvd d).ps c o=isA d (dqAll c o.dq)::macPs r o.mac:=by
 unfold OwR.ps
 cases o.mac with
 | none=>rfl
 | some M=>cases M <;> rfl
theorem set_dq {A P G S:List Value} {a b d:Value} (h:(A++(P++(G++S))).length=52) : ((A++(P++(G++(S++[a,b])))).set 52 a).set 53 d=A++(P++(G++(S++[a,d]))):=by
 rw [ow_D A P G S [a,b],ow_D A P G S [a,d],List.set_append_right _ _ (by omega),List.set_append_right _ _ (by omega),h]
 rfl
theorem hold_mv {ctx:Ev.Ctx} {w:World} {a:Ev.Asr} {X Y Z:List Ev.Asr} (h:Ev.Hold ctx (a::(X++(Y++Z))) w) : Ev.Hold ctx (a::(Y++(X++Z))) w:=hold_perm ((List.perm_append_comm_assoc ..).cons _) h
variable {x:RaceS} {o:OwnS}
theorem rp_no {y:RaceS} {O:OwnS} {u1:StealS} (h:u1.st ≠ 0) (h2:¬ (O.gn=false∧0 < u1.many)) : racePoint c y p O (.steal v u1)=y:=by
 simp only [racePoint]
 rw [if_neg (fun e=>h2 ⟨e.1,e.2.resolve_left h⟩),if_neg h]
theorem rp_lay {y:RaceS} {O:OwnS} {u1:StealS} (h:O.gn=true) (h2:u1.st=0) : ∃ b,racePoint c y p O (.steal v u1)=(y.own p (O.deq (dqLay c O.dq (O.rs.take (dqN c O.dq O.rs))))).holds b:=by
 simp only [racePoint]
 rw [if_neg (fun e=>by have:=e.1; rw [h] at this; cases this),if_pos h2]
 exact ⟨_,rfl⟩
theorem rp_gain {y:RaceS} {O ov:OwnS} {u1:StealS} (hv:y.ow[v]? = some ov) (h:O.gn=false) (h2:u1.st=0∨0 < u1.many) : ∃ b,racePoint c y p O (.steal v u1)=((y.own v (ov.deq (dqSteal ov.dq))).own p ⟨O.kd,O.cv,O.cg,O.mac,O.dq,true,u1.hands.drop 1⟩).holds b:=by
 simp only [racePoint]
 rw [if_pos ⟨h,h2⟩,hv]
 exact ⟨_,rfl⟩
theorem at_steal0 (hp:p < x.ow.length) (h:(stealStep c p v u x.m).1.st ≠ 0) (h2:¬ (o.gn=false∧0 < (stealStep c p v u x.m).1.many)) : AtI x p (stealStep c p v u x.m).2 x.pts (o.now (some (.steal v (stealStep c p v u x.m).1))) (atPoint c x p o (.steal v u)):=by
 have e:atPoint c x p o (.steal v u)=RaceS.own ⟨(stealStep c p v u x.m).2,x.ow,x.pts,x.bad⟩ p (o.now (some (.steal v (stealStep c p v u x.m).1))):=rp_no h h2
 rw [e]
 exact AtI.no hp _ _
theorem at_stealL (hp:p < x.ow.length) (hg:o.gn=true) (h:(stealStep c p v u x.m).1.st=0) : AtI x p (stealStep c p v u x.m).2 (IntKind.i64.wrap (x.pts+1)) ((o.now (some (.steal v (stealStep c p v u x.m).1))).deq (dqLay c o.dq (o.rs.take (dqN c o.dq o.rs)))) (atPoint c x p o (.steal v u)):=by
 have e:∃ b,atPoint c x p o (.steal v u)=((RaceS.own ⟨(stealStep c p v u x.m).2,x.ow,x.pts,x.bad⟩ p (o.now (some (.steal v (stealStep c p v u x.m).1)))).own p ((o.now (some (.steal v (stealStep c p v u x.m).1))).deq (dqLay c o.dq (o.rs.take (dqN c o.dq o.rs))))).holds b:=rp_lay hg h
 obtain ⟨b,e⟩:=e
 rw [e]
 exact AtI.yes hp _ _ _ _
theorem at_stealG {ov:OwnS} (hp:p < x.ow.length) (hv:x.ow[v]? = some ov) (hpv:v ≠ p) (hg:o.gn=false) (h:(stealStep c p v u x.m).1.st=0∨0 < (stealStep c p v u x.m).1.many) :
  ∃ x' o1,AtI x p (stealStep c p v u x.m).2 (IntKind.i64.wrap (x.pts+1)) o1 x'∧o1.mac=some (.steal v (stealStep c p v u x.m).1)∧o1.dq=o.dq∧AtI x' v (stealStep c p v u x.m).2 (IntKind.i64.wrap (x.pts+1)) (ov.deq (dqSteal ov.dq)) (atPoint c x p o (.steal v u)):=by
 have hv':(RaceS.own ⟨(stealStep c p v u x.m).2,x.ow,x.pts,x.bad⟩ p (o.now (some (.steal v (stealStep c p v u x.m).1)))).ow[v]? = some ov:=by
  show (x.ow.set p _)[v]? = _
  rw [List.getElem?_set_ne (Ne.symm hpv)]
  exact hv
 have e:∃ b,atPoint c x p o (.steal v u)=(((RaceS.own ⟨(stealStep c p v u x.m).2,x.ow,x.pts,x.bad⟩ p (o.now (some (.steal v (stealStep c p v u x.m).1)))).own v (ov.deq (dqSteal ov.dq))).own p ⟨o.kd,o.cv,o.cg,some (.steal v (stealStep c p v u x.m).1),o.dq,true,(stealStep c p v u x.m).1.hands.drop 1⟩).holds b:=rp_gain hv' hg h
 obtain ⟨b,e⟩:=e
 obtain ⟨o',ho'⟩ : ∃ o',o.now (some (.steal v (stealStep c p v u x.m).1))=o':=⟨_,rfl⟩
 obtain ⟨o1,ho1⟩ : ∃ o1,(⟨o.kd,o.cv,o.cg,some (.steal v (stealStep c p v u x.m).1),o.dq,true,(stealStep c p v u x.m).1.hands.drop 1⟩ : OwnS)=o1:=⟨_,rfl⟩
 have hvl:v < x.ow.length:=(List.getElem?_eq_some_iff.1 hv).1
 rw [e,ho',ho1]
 refine ⟨((RaceS.own ⟨(stealStep c p v u x.m).2,x.ow,x.pts,x.bad⟩ p o').own p o1).holds b,o1,AtI.yes hp _ _ _ _,by rw [← ho1],by rw [← ho1],rfl,rfl,by simp [RaceS.holds,RaceS.own],?_,fun q hq=>?_⟩
 ·show (((x.ow.set p o').set v _).set p o1)[v]? = _
  rw [List.getElem?_set_ne (Ne.symm hpv),List.getElem?_set_self (by simpa using hvl)]
 ·show (((x.ow.set p o').set v _).set p o1)[q]? = ((x.ow.set p o').set p o1)[q]?
  by_cases hqp:q=p
  ·subst hqp
   rw [List.getElem?_set_self (by simpa using hp),List.getElem?_set_self (by simpa using hp)]
  ·rw [List.getElem?_set_ne (Ne.symm hqp),List.getElem?_set_ne (Ne.symm hq),List.getElem?_set_ne (Ne.symm hqp),List.getElem?_set_ne (Ne.symm hqp),List.getElem?_set_ne (Ne.symm hqp)]
end
end Go.Proofs.YtkmccgombmogmaaGreat
