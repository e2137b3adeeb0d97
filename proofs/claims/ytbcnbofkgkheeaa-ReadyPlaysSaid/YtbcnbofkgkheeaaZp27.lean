/- Part of a proof: see the last text. -/
import Derived.Test.YtbcnbofkgkheeaaZp26
namespace Go.Proofs.Ytbcnbofkgkheeaa
open Go.RowKit
open Go.Ev (sy)
set_option linter.unusedVariables false
set_option linter.unusedSimpArgs false
set_option maxRecDepth 8000
attribute [local irreducible] Ev.wpL
theorem XS.dm_true {x:XS} {m:MemM} (hx:x.Ok m) (h:x.dm=true) : x.dem=true:=by
 obtain ⟨xd,live⟩:=x
 cases live with
 | none=>cases h
 | some y=>exact hx.1.symm.trans h
theorem XS.dm_false {x:XS} {m:MemM} (hx:x.Ok m) (h:x.dm=false) (hd:x.dem=true) : x.kicked=false∧x.yi 9=0:=by
 obtain ⟨xd,live⟩:=x
 cases live with
 | none=>exact ⟨rfl,rfl⟩
 | some y =>
  have e:y.2.2.dem=xd:=hx.1
  have e2:y.2.2.dem=false:=h
  have e3:xd=true:=hd
  rw [e2,e3] at e
  cases e
theorem XS.calm {x:XS} (h:x.kicked=false) : x.yi 20=0:=by
 obtain ⟨xd,live⟩:=x
 cases live with
 | none=>rfl
 | some y =>
  obtain ⟨c,p,k⟩:=y
  obtain ⟨dem,gg,st,was,put⟩:=k
  cases put with
  | none=>rfl
  | some z=>cases h
theorem XS.late {x:XS} {m:MemM} (hx:x.Ok m) (h:x.kicked=true) : x.yi 9 ≠ 1∧x.yi 9 ≠ 2:=by
 obtain ⟨xd,live⟩:=x
 cases live with
 | none=>cases h
 | some y =>
  obtain ⟨c,p,k⟩:=y
  obtain ⟨dem,gg,st,was,put⟩:=k
  cases put with
  | none=>cases h
  | some z =>
   have hp:=hx.2.2.1.p12
   have h2:¬ (st=1∨st=2):=fun hh=>by cases hp hh
   show ((st:Nat) : Int) ≠ 1∧((st:Nat) : Int) ≠ 2
   omega
theorem XS.still {x:XS} {m:MemM} (hx:x.Ok m) (h:x.kicked=true) : (x.step m).1.kicked=true:=by
 obtain ⟨xd,live⟩:=x
 cases live with
 | none=>cases h
 | some y =>
  obtain ⟨c,p,k⟩:=y
  obtain ⟨dem,gg,st,was,put⟩:=k
  cases put with
  | none=>cases h
  | some z =>
   show (kickStep c p ⟨dem,gg,st,was,some z⟩ m).1.put.isSome=true
   unfold kickStep
   split
   ·rfl
   ·split
    ·rfl
    ·split <;> rfl
   ·rfl
   ·rfl
theorem XS.step_dm (x:XS) (m:MemM) : (x.step m).1.dm=x.dm:=by
 obtain ⟨xd,live⟩:=x
 cases live with
 | none=>rfl
 | some y=>exact kickStep_dem
theorem ints_set (xs:List Int) (a:Nat) (v:Int) : (ints xs).set (a * 1) (.int .i64 v)=ints (xs.set a v):=by simp [ints,List.map_set]
theorem XS.hands_len {x:XS} {m:MemM} (hx:x.Ok m) : x.hands.length≤1000:=by
 have h:=XS.hs_len hx
 cases hd:x.dm with
 | true =>
  rw [XS.hands_is (.inl hd)]
  omega
 | false =>
  by_cases h1:x.yi 9=1∨x.yi 9=2
  ·rw [XS.hands_one hd h1]
   exact (by decide:1≤1000)
  ·rw [XS.hands_is (.inr ⟨fun e=>h1 (.inl e),fun e=>h1 (.inr e)⟩)]
   omega
theorem XS.over_len {x:XS} {m:MemM} (hx:x.Ok m) : x.over.length≤1000:=by
 have h:=XS.hs_len hx
 by_cases h0:x.yi 20=0
 ·rw [XS.over_yes hx h0]
  omega
 ·rw [XS.over_no hx h0]
  exact Nat.zero_le _
def xvOf (dem:Bool) (bx:Nat) : Value:=bif dem then .iface 60 (.pointer (some ⟨bx,0,none⟩)) else .iface 50 (.pointer (some ⟨bx,0,none⟩))
theorem xv_leaf (dem:Bool) (bx:Nat) : Ev.leafV (xvOf dem bx)=true:=by cases dem <;> rfl
abbrev plT (s:PL) (xv:Value) (yb bm br n:Nat) : List (Nat×Value):=[(0,xv),(4,s.lv),(6,.pointer (some ⟨yb,0,none⟩)),(10,.bool false),(11,.pointer (some ⟨bm,0,none⟩)),(12,.pointer (some ⟨br,0,none⟩)),(13,.int .i64 ((n:Nat) : Int))]
abbrev yB (yb:Nat) (x:XS) (d k:Bool) (tk hd:Value) : Ev.Asr:=Ev.blkA yb (yL x d k tk hd) 56
abbrev rB (br:Nat) (rv:Value) (m:MemM) : Ev.Asr:=Ev.blkA br [rv,.int .u64 m.ops] 32
abbrev plP (bx yb bm br:Nat) (x:XS) (m:MemM) (rv tk hd:Value) : List Ev.Asr:=[yB yb x x.dm x.kicked tk hd,rB br rv m,xA bx x,memA bm m,cA rv m,isA tk x.ts,isA hd x.hs]
abbrev pqF (s:PL) {xv:Value} (lxv:Ev.leafV xv=true) (yb bm br n:Nat) (R:List Ev.Asr) (j:Nat) {vh vo:Value} (lvh:Ev.leafV vh=true) (lvo:Ev.leafV vo=true) (us:List Int) (hus:us.length≤1000) (k0 bx:Nat) (x:XS) (m:MemM) {rv tk hd:Value} (lrv:Ev.leafV rv=true) (ltk:Ev.leafV tk=true) (lhd:Ev.leafV hd=true) (k:PokeS) : PQ:=⟨s,xv,lxv,yb,bm,br,n,R,j,vh,lvh,vo,lvo,us,hus,k0,bx,x,m,rv,lrv,tk,ltk,hd,lhd,k⟩
theorem leaf0:Ev.leafV (.slice none 0 0)=true:=rfl
abbrev pqT (s:PL) {xv:Value} (lxv:Ev.leafV xv=true) (yb bm br n:Nat) (R:List Ev.Asr) (j:Nat) : PQ:=pqF s lxv yb bm br n R j leaf0 leaf0 [] (Nat.zero_le _) 0 0 ⟨true,none⟩ ⟨[],0⟩ leaf0 leaf0 leaf0 ⟨false,0,0⟩
abbrev pqS (s:PL) {xv:Value} (lxv:Ev.leafV xv=true) (yb bm br n:Nat) (R:List Ev.Asr) (j:Nat) {vh vo:Value} (lvh:Ev.leafV vh=true) (lvo:Ev.leafV vo=true) (us:List Int) (hus:us.length≤1000) (k0:Nat) : PQ:=pqF s lxv yb bm br n R j lvh lvo us hus k0 0 ⟨true,none⟩ ⟨[],0⟩ leaf0 leaf0 leaf0 ⟨false,0,0⟩
abbrev pqG (s:PL) {xv:Value} (lxv:Ev.leafV xv=true) (yb bm br n:Nat) (R:List Ev.Asr) (x:XS) (m:MemM) {rv tk hd:Value} (lrv:Ev.leafV rv=true) (ltk:Ev.leafV tk=true) (lhd:Ev.leafV hd=true) (k:PokeS) : PQ:=pqF s lxv yb bm br n R 0 leaf0 leaf0 [] (Nat.zero_le _) 0 0 x m lrv ltk lhd k
abbrev pqX (s:PL) (bx yb bm br n:Nat) (R:List Ev.Asr) (j:Nat) (x:XS) (m:MemM) {rv tk hd:Value} (lrv:Ev.leafV rv=true) (ltk:Ev.leafV tk=true) (lhd:Ev.leafV hd=true) : PQ:=pqF s leaf0 yb bm br n R j leaf0 leaf0 [] (Nat.zero_le _) 0 bx x m lrv ltk lhd ⟨false,0,0⟩
section
variable {s:PL} {bx yb bm br n:Nat} {x:XS} {m:MemM} {rv tk hd:Value} {Q:Exit→Act→World→Prop} {A:Act} {w:World}
theorem pl_hands (hx:x.Ok m) {j:Nat} (h:Ev.At ⟨s.W0,s.F0⟩ 157 (plT s (xvOf x.dem bx) yb bm br n++[(14,.int .i64 ((j:Nat) : Int))]) (plP bx yb bm br x m rv tk hd) A w)
  (hok:∀ vh vo A1 w1,Ev.leafV vh=true→Ev.leafV vo=true→Ev.At ⟨s.W0,s.F0⟩ 157 (plT s (xvOf x.dem bx) yb bm br n++[(14,.int .i64 ((j:Nat) : Int)),(15,vh),(16,vo),(17,.int .i64 0)]) (isA vh x.hands::isA vo x.over::plP bx yb bm br x m rv tk hd) A1 w1→Ev.wpL Try.prog (Ev.stm Try.prog 17 [6,0,4,2,0,4] 4) Q A1 w1) : Ev.wpL Try.prog (Ev.stm Try.prog 17 [6,0,4,2,0,4] 0) Q A w:=by
 have hh:=h.hold
 have lrv:Ev.leafV rv=true:=hold_leaf (hh.sel [4] (by kernel_rfl))
 have ltk:Ev.leafV tk=true:=hold_leaf (hh.sel [5] (by kernel_rfl))
 have lhd:Ev.leafV hd=true:=hold_leaf (hh.sel [6] (by kernel_rfl))
 have hR:Ev.Hold ⟨s.W0,s.F0⟩ [yB yb x x.dm x.kicked tk hd,xA bx x,isA tk x.ts,isA hd x.hs,Ev.grp [rB br rv m,memA bm m,cA rv m]] w:=(Ev.Hold.shut (l:=[rB br rv m,memA bm m,cA rv m]) (m:=[yB yb x x.dm x.kicked tk hd,xA bx x,isA tk x.ts,isA hd x.hs]) (hh.sel [1,3,4,0,2,5,6] (by kernel_rfl))).sel [1,2,3,4,0] (by kernel_rfl)
 have back:∀ {vh vo:Value} {d k:Bool} {w1:World},x.dm=d→x.kicked=k→Ev.Hold ⟨s.W0,s.F0⟩ [Ev.grp [rB br rv m,memA bm m,cA rv m],yB yb x d k tk hd,isA vo x.over,isA hd x.hs,isA vh x.hands,xA bx x,isA tk x.ts] w1→Ev.Hold ⟨s.W0,s.F0⟩ (isA vh x.hands::isA vo x.over::plP bx yb bm br x m rv tk hd) w1:=by
  intro vh vo d k w1 hd' hk' h1
  subst hd'
  subst hk'
  exact (Ev.Hold.open (l:=[rB br rv m,memA bm m,cA rv m]) h1).sel [6,4,3,0,7,1,2,8,5] (by kernel_rfl)
 cases hdem:x.dem with
 | true =>
  cases hdm:x.dm with
  | true =>
   cases hk:x.kicked with
   | false =>
    have hA2:=h.to (fun q hq=>hq) (fun _=>hR)
    rw [hdem,hdm,hk] at hA2
    refine plHdtf0y (pqX s bx yb bm br n _ j x m lrv ltk lhd) hx hdm hdem (XS.calm hk) A w _ hA2 ?_
    intro κ A1 w1 hA1
    refine hok (Ev.dec ((κ 403).getD 0)) (Ev.dec ((κ 407).getD 0)) A1 w1 (Ev.dec_leaf _) (Ev.dec_leaf _) ?_
    rw [hdem]
    exact ⟨hA1.sz,hA1.df,hA1.tm,back hdm hk (hA1.hold.sel [6,0,1,2,3,4,5] (by kernel_rfl))⟩
   | true =>
    by_cases h20:x.yi 20=0
    ·
     have hA2:=h.to (fun q hq=>hq) (fun _=>hR)
     rw [hdem,hdm,hk] at hA2
     refine plHdtt0y (pqX s bx yb bm br n _ j x m lrv ltk lhd) hx hdm hdem h20 A w _ hA2 ?_
     intro κ A1 w1 hA1
     refine hok (Ev.dec ((κ 403).getD 0)) (Ev.dec ((κ 407).getD 0)) A1 w1 (Ev.dec_leaf _) (Ev.dec_leaf _) ?_
     rw [hdem]
     exact ⟨hA1.sz,hA1.df,hA1.tm,back hdm hk (hA1.hold.sel [6,0,1,2,3,4,5] (by kernel_rfl))⟩
    ·
     have hA2:=h.to (fun q hq=>hq) (fun _=>hR)
     rw [hdem,hdm,hk] at hA2
     refine plHdtt0n (pqX s bx yb bm br n _ j x m lrv ltk lhd) hx hdm hdem h20 A w _ hA2 ?_
     intro κ A1 w1 hA1
     refine hok (Ev.dec ((κ 403).getD 0)) (Ev.dec ((κ 407).getD 0)) A1 w1 (Ev.dec_leaf _) (Ev.dec_leaf _) ?_
     rw [hdem]
     exact ⟨hA1.sz,hA1.df,hA1.tm,back hdm hk (hA1.hold.sel [6,0,1,3,2,4,5] (by kernel_rfl))⟩
  | false =>
   obtain ⟨hk,h9⟩:=XS.dm_false hx hdm hdem
   have hA2:=h.to (fun q hq=>hq) (fun _=>hR)
   rw [hdem,hdm,hk] at hA2
   refine plHdff0y (pqX s bx yb bm br n _ j x m lrv ltk lhd) hx hdm hdem (show x.yi 9 ≠ 1∧x.yi 9 ≠ 2 by omega) (XS.calm hk) A w _ hA2 ?_
   intro κ A1 w1 hA1
   refine hok (Ev.dec ((κ 403).getD 0)) (Ev.dec ((κ 407).getD 0)) A1 w1 (Ev.dec_leaf _) (Ev.dec_leaf _) ?_
   rw [hdem]
   exact ⟨hA1.sz,hA1.df,hA1.tm,back hdm hk (hA1.hold.sel [6,0,1,2,3,4,5] (by kernel_rfl))⟩
 | false =>
  have hdm:x.dm=false:=by
   cases hdm:x.dm with
   | false=>rfl
   | true=>rw [XS.dm_true hx hdm] at hdem; cases hdem
  cases hk:x.kicked with
  | false =>
   by_cases h1:x.yi 9=1
   ·
    have hA2:=h.to (fun q hq=>hq) (fun _=>hR)
    rw [hdem,hdm,hk] at hA2
    refine plHrff1y (pqX s bx yb bm br n _ j x m lrv ltk lhd) hx hdm hdem h1 (XS.calm hk) A w _ hA2 ?_
    intro κ A1 w1 hA1
    refine hok (Ev.dec ((κ 403).getD 0)) (Ev.dec ((κ 407).getD 0)) A1 w1 (Ev.dec_leaf _) (Ev.dec_leaf _) ?_
    rw [hdem]
    exact ⟨hA1.sz,hA1.df,hA1.tm,back hdm hk (hA1.hold.sel [7,0,1,2,3,5,6] (by kernel_rfl))⟩
   ·by_cases h2:x.yi 9=2
    ·
     have hA2:=h.to (fun q hq=>hq) (fun _=>hR)
     rw [hdem,hdm,hk] at hA2
     refine plHrff2y (pqX s bx yb bm br n _ j x m lrv ltk lhd) hx hdm hdem h2 (XS.calm hk) A w _ hA2 ?_
     intro κ A1 w1 hA1
     refine hok (Ev.dec ((κ 403).getD 0)) (Ev.dec ((κ 407).getD 0)) A1 w1 (Ev.dec_leaf _) (Ev.dec_leaf _) ?_
     rw [hdem]
     exact ⟨hA1.sz,hA1.df,hA1.tm,back hdm hk (hA1.hold.sel [7,0,1,2,3,5,6] (by kernel_rfl))⟩
    ·
     have hA2:=h.to (fun q hq=>hq) (fun _=>hR)
     rw [hdem,hdm,hk] at hA2
     refine plHrff0y (pqX s bx yb bm br n _ j x m lrv ltk lhd) hx hdm hdem ⟨h1,h2⟩ (XS.calm hk) A w _ hA2 ?_
     intro κ A1 w1 hA1
     refine hok (Ev.dec ((κ 403).getD 0)) (Ev.dec ((κ 407).getD 0)) A1 w1 (Ev.dec_leaf _) (Ev.dec_leaf _) ?_
     rw [hdem]
     exact ⟨hA1.sz,hA1.df,hA1.tm,back hdm hk (hA1.hold.sel [6,0,1,2,3,4,5] (by kernel_rfl))⟩
  | true =>
   by_cases h20:x.yi 20=0
   ·
    have hA2:=h.to (fun q hq=>hq) (fun _=>hR)
    rw [hdem,hdm,hk] at hA2
    refine plHrft0y (pqX s bx yb bm br n _ j x m lrv ltk lhd) hx hdm hdem (XS.late hx hk) h20 A w _ hA2 ?_
    intro κ A1 w1 hA1
    refine hok (Ev.dec ((κ 403).getD 0)) (Ev.dec ((κ 407).getD 0)) A1 w1 (Ev.dec_leaf _) (Ev.dec_leaf _) ?_
    rw [hdem]
    exact ⟨hA1.sz,hA1.df,hA1.tm,back hdm hk (hA1.hold.sel [6,0,1,2,3,4,5] (by kernel_rfl))⟩
   ·
    have hA2:=h.to (fun q hq=>hq) (fun _=>hR)
    rw [hdem,hdm,hk] at hA2
    refine plHrft0n (pqX s bx yb bm br n _ j x m lrv ltk lhd) hx hdm hdem (XS.late hx hk) h20 A w _ hA2 ?_
    intro κ A1 w1 hA1
    refine hok (Ev.dec ((κ 403).getD 0)) (Ev.dec ((κ 407).getD 0)) A1 w1 (Ev.dec_leaf _) (Ev.dec_leaf _) ?_
    rw [hdem]
    exact ⟨hA1.sz,hA1.df,hA1.tm,back hdm hk (hA1.hold.sel [6,0,1,3,2,4,5] (by kernel_rfl))⟩
theorem pl_spoila {xv:Value} (lxv:Ev.leafV xv=true) {vh vo:Value} (lvh:Ev.leafV vh=true) (lvo:Ev.leafV vo=true) {j:Nat} {R:List Ev.Asr} {xs:List Int} (hl:xs.length≤1000) (h:Ev.At ⟨s.W0,s.F0⟩ 157 (plT s xv yb bm br n++[(14,.int .i64 ((j:Nat) : Int)),(15,vh),(16,vo),(17,.int .i64 (0))]) [Ev.grp R,isA vh xs] A w)
  (hok:∀ A1 w1,Ev.At ⟨s.W0,s.F0⟩ 157 (plT s xv yb bm br n++[(14,.int .i64 ((j:Nat) : Int)),(16,vo)]) [Ev.grp R] A1 w1→Ev.wpL Try.prog (Ev.stm Try.prog 17 [6,0,4,2,0,4] 5) Q A1 w1) : Ev.wpL Try.prog (Ev.stm Try.prog 17 [6,0,4,2,0,4] 4) Q A w:=by
 refine Ev.in_block (id:=4) (by kernel_rfl) ?_
 refine Ev.loop_st (by kernel_rfl) (fun (y:Nat×List Int) A w=>Ev.At ⟨s.W0,s.F0⟩ 157 (plT s xv yb bm br n++[(14,.int .i64 ((j:Nat) : Int)),(15,vh),(16,vo),(17,.int .i64 (((y.1:Nat) : Int)))]) [Ev.grp R,isA vh y.2] A w∧y.1≤y.2.length∧y.2.length=xs.length) (fun y=>xs.length - y.1) (x:=(0,xs)) ⟨h,Nat.zero_le _,rfl⟩ ?_
 clear h
 rintro ⟨q,ys⟩ A w ⟨h,hq,hy⟩
 replace hq:q≤ys.length:=hq
 replace hy:ys.length=xs.length:=hy
 by_cases hlt:q < ys.length
 ·refine plSaY (pqS s lxv yb bm br n R j lvh lvo ys (by omega) q) hlt A w _ h ?_
  intro κ A1 w1 h1
  refine Ev.wpL_nil (by kernel_rfl) ⟨(q+1,ys.set q 77),⟨h1.to (fun q hq=>hq) (fun hh=>?_),by show q+1≤(ys.set q 77).length; rw [List.length_set]; exact hlt,by show (ys.set q 77).length=_; rw [List.length_set]; exact hy⟩,by show xs.length - (q+1) < xs.length - q; omega⟩
  show Ev.Hold _ [Ev.grp R,Ev.slA 3 1 vh (ys.set q 77).length (ints (ys.set q 77))] _
  rw [List.length_set,← ints_set]
  exact hh
 ·refine plSaN (pqS s lxv yb bm br n R j lvh lvo ys (by omega) q) hlt A w _ h ?_
  intro κ A1 w1 h1
  exact hok A1 w1 (h1.to (fun q hq=>hq) (fun hh=>hh.sel [0] (by kernel_rfl)))
theorem pl_spoilb {xv:Value} (lxv:Ev.leafV xv=true) {vh vo:Value} (lvh:Ev.leafV vh=true) (lvo:Ev.leafV vo=true) {j:Nat} {R:List Ev.Asr} {xs:List Int} (hl:xs.length≤1000) (h:Ev.At ⟨s.W0,s.F0⟩ 157 (plT s xv yb bm br n++[(14,.int .i64 ((j:Nat) : Int)),(16,vo),(18,.int .i64 (0))]) [Ev.grp R,isA vo xs] A w)
  (hok:∀ A1 w1,Ev.At ⟨s.W0,s.F0⟩ 157 (plT s xv yb bm br n++[(14,.int .i64 ((j:Nat) : Int))]) [Ev.grp R] A1 w1→Ev.wpL Try.prog (Ev.stm Try.prog 17 [6,0,4,2,0,4] 7) Q A1 w1) : Ev.wpL Try.prog (Ev.stm Try.prog 17 [6,0,4,2,0,4] 6) Q A w:=by
 refine Ev.in_block (id:=6) (by kernel_rfl) ?_
 refine Ev.loop_st (by kernel_rfl) (fun (y:Nat×List Int) A w=>Ev.At ⟨s.W0,s.F0⟩ 157 (plT s xv yb bm br n++[(14,.int .i64 ((j:Nat) : Int)),(16,vo),(18,.int .i64 (((y.1:Nat) : Int)))]) [Ev.grp R,isA vo y.2] A w∧y.1≤y.2.length∧y.2.length=xs.length) (fun y=>xs.length - y.1) (x:=(0,xs)) ⟨h,Nat.zero_le _,rfl⟩ ?_
 clear h
 rintro ⟨q,ys⟩ A w ⟨h,hq,hy⟩
 replace hq:q≤ys.length:=hq
 replace hy:ys.length=xs.length:=hy
 by_cases hlt:q < ys.length
 ·refine plSbY (pqS s lxv yb bm br n R j lvh lvo ys (by omega) q) hlt A w _ h ?_
  intro κ A1 w1 h1
  refine Ev.wpL_nil (by kernel_rfl) ⟨(q+1,ys.set q 77),⟨h1.to (fun q hq=>hq) (fun hh=>?_),by show q+1≤(ys.set q 77).length; rw [List.length_set]; exact hlt,by show (ys.set q 77).length=_; rw [List.length_set]; exact hy⟩,by show xs.length - (q+1) < xs.length - q; omega⟩
  show Ev.Hold _ [Ev.grp R,Ev.slA 3 1 vo (ys.set q 77).length (ints (ys.set q 77))] _
  rw [List.length_set,← ints_set]
  exact hh
 ·refine plSbN (pqS s lxv yb bm br n R j lvh lvo ys (by omega) q) hlt A w _ h ?_
  intro κ A1 w1 h1
  exact hok A1 w1 (h1.to (fun q hq=>hq) (fun hh=>hh.sel [0] (by kernel_rfl)))
theorem pl_told (hx:x.Ok m) (h:Ev.At ⟨s.W0,s.F0⟩ 157 (plT s (xvOf x.dem bx) yb bm br n) (plP bx yb bm br x m rv tk hd) A w) (hok:∀ A1 w1,Ev.At ⟨s.W0,s.F0⟩ 157 (plT s (xvOf x.dem bx) yb bm br n) (plP bx yb bm br x m rv tk hd) A1 w1→Ev.wpL Try.prog (Ev.stm Try.prog 17 [6,0,4] 2) Q A1 w1) : Ev.wpL Try.prog (Ev.stm Try.prog 17 [6,0,4] 0) Q A w:=by
 have lxv:=xv_leaf x.dem bx
 have h0:Ev.At ⟨s.W0,s.F0⟩ 157 (plT s (xvOf x.dem bx) yb bm br n) [Ev.grp (plP bx yb bm br x m rv tk hd)] A w:=h.to (fun q hq=>hq) (fun hh=>Ev.Hold.shut (l:=plP bx yb bm br x m rv tk hd) (m:=[]) hh)
 refine plT0 (pqT s lxv yb bm br n _ 0) A w _ h0 ?_
 intro κ A1 w1 h1
 refine Ev.in_block (id:=2) (by kernel_rfl) ?_
 refine Ev.loop_st (by kernel_rfl) (fun (j:Nat) A w=>Ev.At ⟨s.W0,s.F0⟩ 157 (plT s (xvOf x.dem bx) yb bm br n++[(14,.int .i64 ((j:Nat) : Int))]) [Ev.grp (plP bx yb bm br x m rv tk hd)] A w∧j≤2) (fun j=>2 - j) (x:=0) ⟨h1,Nat.zero_le _⟩ ?_
 clear h1 h0
 rintro j A2 w2 ⟨h2,hj⟩
 by_cases hlt:j < 2
 ·refine plT1 (pqT s lxv yb bm br n _ j) hlt A2 w2 _ h2 ?_
  intro κ A3 w3 h3
  refine Ev.in_block (id:=3) (by kernel_rfl) ?_
  refine pl_hands hx (j:=j) (h3.to (fun q hq=>hq) (fun hh=>Ev.Hold.open (l:=plP bx yb bm br x m rv tk hd) (m:=[]) hh)) (fun vh vo A4 w4 lvh lvo h4=>?_)
  refine pl_spoila lxv lvh lvo (j:=j) (R:=isA vo x.over::plP bx yb bm br x m rv tk hd) (XS.hands_len hx) (h4.to (fun q hq=>hq) (fun hh=>Ev.Hold.shut (l:=isA vo x.over::plP bx yb bm br x m rv tk hd) (m:=[isA vh x.hands]) (hh.sel [1,2,3,4,5,6,7,8,0] (by kernel_rfl)))) (fun A5 w5 h5=>?_)
  refine plS (pqS s lxv yb bm br n _ j lvh lvo [] (Nat.zero_le _) 0) A5 w5 _ h5 ?_
  intro κ A6 w6 h6
  refine pl_spoilb lxv lvh lvo (j:=j) (R:=plP bx yb bm br x m rv tk hd) (XS.over_len hx) (h6.to (fun q hq=>hq) (fun hh=>Ev.Hold.shut (l:=plP bx yb bm br x m rv tk hd) (m:=[isA vo x.over]) ((Ev.Hold.open (l:=isA vo x.over::plP bx yb bm br x m rv tk hd) (m:=[]) hh).sel [1,2,3,4,5,6,7,0] (by kernel_rfl)))) (fun A7 w7 h7=>?_)
  refine Ev.wpL_nil (by kernel_rfl) ?_
  refine plT3 (pqT s lxv yb bm br n _ j) hlt A7 w7 _ h7 ?_
  intro κ A8 w8 h8
  exact Ev.wpL_nil (by kernel_rfl) ⟨j+1,⟨h8,hlt⟩,by omega⟩
 ·refine plT2 (pqT s lxv yb bm br n _ j) hlt A2 w2 _ h2 ?_
  intro κ A3 w3 h3
  exact hok A3 w3 (h3.to (fun q hq=>hq) (fun hh=>Ev.Hold.open (l:=plP bx yb bm br x m rv tk hd) (m:=[]) hh))
theorem pl_done (hx:x.Ok m) (hm:MemB m) (h:Ev.At ⟨s.W0,s.F0⟩ 157 (plT s (xvOf x.dem bx) yb bm br n) (plP bx yb bm br x m rv tk hd) A w) (hok:∀ A1 w1,Ev.At ⟨s.W0,s.F0⟩ 157 (plT s (xvOf x.dem bx) yb bm br n) (plP bx yb bm br x m rv tk hd) A1 w1→Ev.wpL Try.prog (Ev.stm Try.prog 17 [6,0,4] 4) Q A1 w1) : Ev.wpL Try.prog (Ev.stm Try.prog 17 [6,0,4] 2) Q A w:=by
 have hl:=hm.len
 have hh:=h.hold
 have lrv:Ev.leafV rv=true:=hold_leaf (hh.sel [4] (by kernel_rfl))
 have ltk:Ev.leafV tk=true:=hold_leaf (hh.sel [5] (by kernel_rfl))
 have lhd:Ev.leafV hd=true:=hold_leaf (hh.sel [6] (by kernel_rfl))
 have hR:Ev.Hold ⟨s.W0,s.F0⟩ [yB yb x x.dm x.kicked tk hd,rB br rv m,xA bx x,memA bm m,cA rv m,Ev.grp [isA tk x.ts,isA hd x.hs]] w:=(Ev.Hold.shut (l:=[isA tk x.ts,isA hd x.hs]) (m:=[yB yb x x.dm x.kicked tk hd,rB br rv m,xA bx x,memA bm m,cA rv m]) (hh.sel [5,6,0,1,2,3,4] (by kernel_rfl))).sel [1,2,3,4,5,0] (by kernel_rfl)
 have back:∀ {d k:Bool} {w1:World},x.dm=d→x.kicked=k→Ev.Hold ⟨s.W0,s.F0⟩ [yB yb x d k tk hd,rB br rv m,memA bm m,cA rv m,xA bx x,Ev.grp [isA tk x.ts,isA hd x.hs]] w1→Ev.Hold ⟨s.W0,s.F0⟩ (plP bx yb bm br x m rv tk hd) w1:=by
  intro d k w1 hd' hk' h1
  subst hd'
  subst hk'
  exact (Ev.Hold.open (l:=[isA tk x.ts,isA hd x.hs]) (h1.sel [5,0,1,2,3,4] (by kernel_rfl))).sel [2,3,6,4,5,0,1] (by kernel_rfl)
 cases hdem:x.dem with
 | true =>
  cases hdm:x.dm with
  | true =>
   cases hk:x.kicked with
   | false =>
    by_cases hz:x.yi 9=0
    ·
     have hA2:=h.to (fun q hq=>hq) (fun _=>hR)
     rw [hdem,hdm,hk] at hA2
     refine plDdtfz (pqX s bx yb bm br n _ 0 x m lrv ltk lhd) hx (show m.cells.length≤1000000 by omega) hdem hk hz A w _ hA2 ?_
     intro κ A1 w1 hA1
     refine hok A1 w1 ?_
     rw [hdem]
     exact ⟨hA1.sz,hA1.df,hA1.tm,back hdm hk hA1.hold⟩
    ·
     have hA2:=h.to (fun q hq=>hq) (fun _=>hR)
     rw [hdem,hdm,hk] at hA2
     refine plDdtfn (pqX s bx yb bm br n _ 0 x m lrv ltk lhd) hx (show m.cells.length≤1000000 by omega) hdem hk hz A w _ hA2 ?_
     intro κ A1 w1 hA1
     refine hok A1 w1 ?_
     rw [hdem]
     exact ⟨hA1.sz,hA1.df,hA1.tm,back hdm hk hA1.hold⟩
   | true =>
    by_cases hz:x.yi 9=0
    ·
     have hA2:=h.to (fun q hq=>hq) (fun _=>hR)
     rw [hdem,hdm,hk] at hA2
     refine plDdttz (pqX s bx yb bm br n _ 0 x m lrv ltk lhd) hx (show m.cells.length≤1000000 by omega) hdem hk hz A w _ hA2 ?_
     intro κ A1 w1 hA1
     refine hok A1 w1 ?_
     rw [hdem]
     exact ⟨hA1.sz,hA1.df,hA1.tm,back hdm hk hA1.hold⟩
    ·
     have hA2:=h.to (fun q hq=>hq) (fun _=>hR)
     rw [hdem,hdm,hk] at hA2
     refine plDdttn (pqX s bx yb bm br n _ 0 x m lrv ltk lhd) hx (show m.cells.length≤1000000 by omega) hdem hk hz A w _ hA2 ?_
     intro κ A1 w1 hA1
     refine hok A1 w1 ?_
     rw [hdem]
     exact ⟨hA1.sz,hA1.df,hA1.tm,back hdm hk hA1.hold⟩
  | false =>
   obtain ⟨hk,h9⟩:=XS.dm_false hx hdm hdem
   by_cases hz:x.yi 9=0
   ·
    have hA2:=h.to (fun q hq=>hq) (fun _=>hR)
    rw [hdem,hdm,hk] at hA2
    refine plDdffz (pqX s bx yb bm br n _ 0 x m lrv ltk lhd) hx (show m.cells.length≤1000000 by omega) hdem hk hz A w _ hA2 ?_
    intro κ A1 w1 hA1
    refine hok A1 w1 ?_
    rw [hdem]
    exact ⟨hA1.sz,hA1.df,hA1.tm,back hdm hk hA1.hold⟩
   ·
    have hA2:=h.to (fun q hq=>hq) (fun _=>hR)
    rw [hdem,hdm,hk] at hA2
    refine plDdffn (pqX s bx yb bm br n _ 0 x m lrv ltk lhd) hx (show m.cells.length≤1000000 by omega) hdem hk hz A w _ hA2 ?_
    intro κ A1 w1 hA1
    refine hok A1 w1 ?_
    rw [hdem]
    exact ⟨hA1.sz,hA1.df,hA1.tm,back hdm hk hA1.hold⟩
 | false =>
  have hdm:x.dm=false:=by
   cases hdm:x.dm with
   | false=>rfl
   | true=>rw [XS.dm_true hx hdm] at hdem; cases hdem
  cases hk:x.kicked with
  | false =>
   by_cases hz:x.yi 9=0
   ·
    have hA2:=h.to (fun q hq=>hq) (fun _=>hR)
    rw [hdem,hdm,hk] at hA2
    refine plDrffz (pqX s bx yb bm br n _ 0 x m lrv ltk lhd) hx (show m.cells.length≤1000000 by omega) hdem hk hz A w _ hA2 ?_
    intro κ A1 w1 hA1
    refine hok A1 w1 ?_
    rw [hdem]
    exact ⟨hA1.sz,hA1.df,hA1.tm,back hdm hk hA1.hold⟩
   ·
    have hA2:=h.to (fun q hq=>hq) (fun _=>hR)
    rw [hdem,hdm,hk] at hA2
    refine plDrffn (pqX s bx yb bm br n _ 0 x m lrv ltk lhd) hx (show m.cells.length≤1000000 by omega) hdem hk hz A w _ hA2 ?_
    intro κ A1 w1 hA1
    refine hok A1 w1 ?_
    rw [hdem]
    exact ⟨hA1.sz,hA1.df,hA1.tm,back hdm hk hA1.hold⟩
  | true =>
   by_cases hz:x.yi 9=0
   ·
    have hA2:=h.to (fun q hq=>hq) (fun _=>hR)
    rw [hdem,hdm,hk] at hA2
    refine plDrftz (pqX s bx yb bm br n _ 0 x m lrv ltk lhd) hx (show m.cells.length≤1000000 by omega) hdem hk hz A w _ hA2 ?_
    intro κ A1 w1 hA1
    refine hok A1 w1 ?_
    rw [hdem]
    exact ⟨hA1.sz,hA1.df,hA1.tm,back hdm hk hA1.hold⟩
   ·
    have hA2:=h.to (fun q hq=>hq) (fun _=>hR)
    rw [hdem,hdm,hk] at hA2
    refine plDrftn (pqX s bx yb bm br n _ 0 x m lrv ltk lhd) hx (show m.cells.length≤1000000 by omega) hdem hk hz A w _ hA2 ?_
    intro κ A1 w1 hA1
    refine hok A1 w1 ?_
    rw [hdem]
    exact ⟨hA1.sz,hA1.df,hA1.tm,back hdm hk hA1.hold⟩
theorem pl_step (hx:x.Ok m) (hm:MemB m) (h:Ev.At ⟨s.W0,s.F0⟩ 157 (plT s (xvOf x.dem bx) yb bm br n) (plP bx yb bm br x m rv tk hd) A w) (hok:∀ rv2 tk2 hd2 A1 w1,Ev.At ⟨s.W0,s.F0⟩ 157 (plT s (xvOf x.dem bx) yb bm br n++[(19,.int .u64 m.ops)]) ([yB yb (x.step m).1 (x.step m).1.dm (x.step m).1.kicked tk2 hd2,rB br rv2 (x.step m).2,xA bx x,memA bm m,cA rv2 (x.step m).2,isA tk2 (x.step m).1.ts,isA hd2 (x.step m).1.hs]) A1 w1→Ev.wpL Try.prog (Ev.stm Try.prog 17 [6,0,4] 10) Q A1 w1) : Ev.wpL Try.prog (Ev.stm Try.prog 17 [6,0,4] 6) Q A w:=by
 have hl:=hm.len
 have hh:=h.hold
 have lrv:Ev.leafV rv=true:=hold_leaf (hh.sel [4] (by kernel_rfl))
 have ltk:Ev.leafV tk=true:=hold_leaf (hh.sel [5] (by kernel_rfl))
 have lhd:Ev.leafV hd=true:=hold_leaf (hh.sel [6] (by kernel_rfl))
 have lxv:=xv_leaf x.dem bx
 have hR:Ev.Hold ⟨s.W0,s.F0⟩ [yB yb x x.dm x.kicked tk hd,rB br rv m,memA bm m,cA rv m,isA tk x.ts,isA hd x.hs,Ev.grp [xA bx x]] w:=(Ev.Hold.shut (l:=[xA bx x]) (m:=[yB yb x x.dm x.kicked tk hd,rB br rv m,memA bm m,cA rv m,isA tk x.ts,isA hd x.hs]) (hh.sel [2,0,1,3,4,5,6] (by kernel_rfl))).sel [1,2,3,4,5,6,0] (by kernel_rfl)
 have back:∀ {rv2 tk2 hd2:Value} {d k:Bool} {w1:World},x.dm=d→(x.step m).1.kicked=k→Ev.Hold ⟨s.W0,s.F0⟩ [yB yb (x.step m).1 d k tk2 hd2,rB br rv2 (x.step m).2,cA rv2 (x.step m).2,isA tk2 (x.step m).1.ts,isA hd2 (x.step m).1.hs,memA bm m,Ev.grp [xA bx x]] w1→Ev.Hold ⟨s.W0,s.F0⟩ ([yB yb (x.step m).1 (x.step m).1.dm (x.step m).1.kicked tk2 hd2,rB br rv2 (x.step m).2,xA bx x,memA bm m,cA rv2 (x.step m).2,isA tk2 (x.step m).1.ts,isA hd2 (x.step m).1.hs]) w1:=by
  intro rv2 tk2 hd2 d k w1 hd' hk' h1
  subst hd'
  subst hk'
  rw [XS.step_dm]
  exact (Ev.Hold.open (l:=[xA bx x]) (h1.sel [6,0,1,2,3,4,5] (by kernel_rfl))).sel [1,2,0,6,3,4,5] (by kernel_rfl)
 cases hdm:x.dm with
 | true =>
  cases hk:x.kicked with
  | false =>
   cases hk2:(x.step m).1.kicked with
   | false =>
    have hA2:=h.to (fun q hq=>hq) (fun _=>hR)
    rw [hdm,hk] at hA2
    refine plGtff (pqG s lxv yb bm br n _ x m lrv ltk lhd ⟨false,0,0⟩) hx (show m.cells.length≤1000000 by omega) hm hdm hk hk2 A w _ hA2 ?_
    intro κ A1 w1 hA1
    exact hok _ _ _ A1 w1 ⟨hA1.sz,hA1.df,hA1.tm,back hdm hk2 hA1.hold⟩
   | true =>
    have hA2:=h.to (fun q hq=>hq) (fun _=>hR)
    rw [hdm,hk] at hA2
    refine plGtft (pqG s lxv yb bm br n _ x m lrv ltk lhd ⟨false,0,0⟩) hx (show m.cells.length≤1000000 by omega) hm hdm hk hk2 A w _ hA2 ?_
    intro κ A1 w1 hA1
    exact hok _ _ _ A1 w1 ⟨hA1.sz,hA1.df,hA1.tm,back hdm hk2 hA1.hold⟩
  | true =>
   have hk2:=XS.still hx hk
   have hA2:=h.to (fun q hq=>hq) (fun _=>hR)
   rw [hdm,hk] at hA2
   refine plGttt (pqG s lxv yb bm br n _ x m lrv ltk lhd ⟨false,0,0⟩) hx (show m.cells.length≤1000000 by omega) hm hdm hk hk2 A w _ hA2 ?_
   intro κ A1 w1 hA1
   exact hok _ _ _ A1 w1 ⟨hA1.sz,hA1.df,hA1.tm,back hdm hk2 hA1.hold⟩
 | false =>
  cases hk:x.kicked with
  | false =>
   cases hk2:(x.step m).1.kicked with
   | false =>
    have hA2:=h.to (fun q hq=>hq) (fun _=>hR)
    rw [hdm,hk] at hA2
    refine plGfff (pqG s lxv yb bm br n _ x m lrv ltk lhd ⟨false,0,0⟩) hx (show m.cells.length≤1000000 by omega) hm hdm hk hk2 A w _ hA2 ?_
    intro κ A1 w1 hA1
    exact hok _ _ _ A1 w1 ⟨hA1.sz,hA1.df,hA1.tm,back hdm hk2 hA1.hold⟩
   | true =>
    have hA2:=h.to (fun q hq=>hq) (fun _=>hR)
    rw [hdm,hk] at hA2
    refine plGfft (pqG s lxv yb bm br n _ x m lrv ltk lhd ⟨false,0,0⟩) hx (show m.cells.length≤1000000 by omega) hm hdm hk hk2 A w _ hA2 ?_
    intro κ A1 w1 hA1
    exact hok _ _ _ A1 w1 ⟨hA1.sz,hA1.df,hA1.tm,back hdm hk2 hA1.hold⟩
  | true =>
   have hk2:=XS.still hx hk
   have hA2:=h.to (fun q hq=>hq) (fun _=>hR)
   rw [hdm,hk] at hA2
   refine plGftt (pqG s lxv yb bm br n _ x m lrv ltk lhd ⟨false,0,0⟩) hx (show m.cells.length≤1000000 by omega) hm hdm hk hk2 A w _ hA2 ?_
   intro κ A1 w1 hA1
   exact hok _ _ _ A1 w1 ⟨hA1.sz,hA1.df,hA1.tm,back hdm hk2 hA1.hold⟩
theorem pl_go (hx:x.Ok m) (hm:MemB m) (ho:0≤m.ops∧m.ops≤100000) (h:Ev.At ⟨s.W0,s.F0⟩ 157 (plT s (xvOf x.dem bx) yb bm br n++[(19,.int .u64 m.ops)]) ([yB yb (x.step m).1 (x.step m).1.dm (x.step m).1.kicked tk hd,rB br rv (x.step m).2,xA bx x,memA bm m,cA rv (x.step m).2,isA tk (x.step m).1.ts,isA hd (x.step m).1.hs]) A w) (hok:∀ A1 w1,Ev.At ⟨s.W0,s.F0⟩ 157 (plT s (xvOf x.dem bx) yb bm br n) (plP bx yb bm br (x.step m).1 (x.step m).2 rv tk hd) A1 w1→Ev.wpL Try.prog (Ev.stm Try.prog 17 [6,0,4] 12) Q A1 w1) : Ev.wpL Try.prog (Ev.stm Try.prog 17 [6,0,4] 10) Q A w:=by
 have hl:=hm.len
 have hh:=h.hold
 have lrv:Ev.leafV rv=true:=hold_leaf (hh.sel [4] (by kernel_rfl))
 have ltk:Ev.leafV tk=true:=hold_leaf (hh.sel [5] (by kernel_rfl))
 have lhd:Ev.leafV hd=true:=hold_leaf (hh.sel [6] (by kernel_rfl))
 have hR:Ev.Hold ⟨s.W0,s.F0⟩ [yB yb (x.step m).1 (x.step m).1.dm (x.step m).1.kicked tk hd,rB br rv (x.step m).2,xA bx x,memA bm m,Ev.grp [cA rv (x.step m).2,isA tk (x.step m).1.ts,isA hd (x.step m).1.hs]] w:=(Ev.Hold.shut (l:=[cA rv (x.step m).2,isA tk (x.step m).1.ts,isA hd (x.step m).1.hs]) (m:=[yB yb (x.step m).1 (x.step m).1.dm (x.step m).1.kicked tk hd,rB br rv (x.step m).2,xA bx x,memA bm m]) (hh.sel [4,5,6,0,1,2,3] (by kernel_rfl))).sel [1,2,3,4,0] (by kernel_rfl)
 have back:∀ {d k:Bool} {w1:World},(x.step m).1.dm=d→(x.step m).1.kicked=k→Ev.Hold ⟨s.W0,s.F0⟩ [yB yb (x.step m).1 d k tk hd,rB br rv (x.step m).2,xA bx (x.step m).1,memA bm (x.step m).2,Ev.grp [cA rv (x.step m).2,isA tk (x.step m).1.ts,isA hd (x.step m).1.hs]] w1→Ev.Hold ⟨s.W0,s.F0⟩ (plP bx yb bm br (x.step m).1 (x.step m).2 rv tk hd) w1:=by
  intro d k w1 hd' hk' h1
  subst hd'
  subst hk'
  exact (Ev.Hold.open (l:=[cA rv (x.step m).2,isA tk (x.step m).1.ts,isA hd (x.step m).1.hs]) (h1.sel [4,0,1,2,3] (by kernel_rfl))).sel [3,4,5,6,0,1,2] (by kernel_rfl)
 have hso:=XS.step_ok hx hm
 cases hdem:x.dem with
 | true =>
  cases hdm:(x.step m).1.dm with
  | true =>
   cases hk:(x.step m).1.kicked with
   | false =>
    by_cases hz:(x.step m).1.yi 9=0
    ·
     have hA2:=h.to (fun q hq=>hq) (fun _=>hR)
     rw [hdem,hdm,hk] at hA2
     refine plKdtfz (pqX s bx yb bm br n _ 0 x m lrv ltk lhd) hx (show m.cells.length≤1000000 by omega) hdem hz ho A w _ hA2 ?_
     intro κ A1 w1 hA1
     refine hok A1 w1 ?_
     rw [hdem]
     exact ⟨hA1.sz,hA1.df,hA1.tm,back hdm hk hA1.hold⟩
    ·
     have hA2:=h.to (fun q hq=>hq) (fun _=>hR)
     rw [hdem,hdm,hk] at hA2
     refine plKdtfn (pqX s bx yb bm br n _ 0 x m lrv ltk lhd) hx (show m.cells.length≤1000000 by omega) hdem hz ho A w _ hA2 ?_
     intro κ A1 w1 hA1
     refine hok A1 w1 ?_
     rw [hdem]
     exact ⟨hA1.sz,hA1.df,hA1.tm,back hdm hk hA1.hold⟩
   | true =>
    by_cases hz:(x.step m).1.yi 9=0
    ·
     have hA2:=h.to (fun q hq=>hq) (fun _=>hR)
     rw [hdem,hdm,hk] at hA2
     refine plKdttz (pqX s bx yb bm br n _ 0 x m lrv ltk lhd) hx (show m.cells.length≤1000000 by omega) hdem hz ho A w _ hA2 ?_
     intro κ A1 w1 hA1
     refine hok A1 w1 ?_
     rw [hdem]
     exact ⟨hA1.sz,hA1.df,hA1.tm,back hdm hk hA1.hold⟩
    ·
     have hA2:=h.to (fun q hq=>hq) (fun _=>hR)
     rw [hdem,hdm,hk] at hA2
     refine plKdttn (pqX s bx yb bm br n _ 0 x m lrv ltk lhd) hx (show m.cells.length≤1000000 by omega) hdem hz ho A w _ hA2 ?_
     intro κ A1 w1 hA1
     refine hok A1 w1 ?_
     rw [hdem]
     exact ⟨hA1.sz,hA1.df,hA1.tm,back hdm hk hA1.hold⟩
  | false =>
   obtain ⟨hk,h9⟩:=XS.dm_false hso.1 hdm (hso.2.2.trans hdem)
   by_cases hz:(x.step m).1.yi 9=0
   ·
    have hA2:=h.to (fun q hq=>hq) (fun _=>hR)
    rw [hdem,hdm,hk] at hA2
    refine plKdffz (pqX s bx yb bm br n _ 0 x m lrv ltk lhd) hx (show m.cells.length≤1000000 by omega) hdem hz ho A w _ hA2 ?_
    intro κ A1 w1 hA1
    refine hok A1 w1 ?_
    rw [hdem]
    exact ⟨hA1.sz,hA1.df,hA1.tm,back hdm hk hA1.hold⟩
   ·
    have hA2:=h.to (fun q hq=>hq) (fun _=>hR)
    rw [hdem,hdm,hk] at hA2
    refine plKdffn (pqX s bx yb bm br n _ 0 x m lrv ltk lhd) hx (show m.cells.length≤1000000 by omega) hdem hz ho A w _ hA2 ?_
    intro κ A1 w1 hA1
    refine hok A1 w1 ?_
    rw [hdem]
    exact ⟨hA1.sz,hA1.df,hA1.tm,back hdm hk hA1.hold⟩
 | false =>
  have hdm:(x.step m).1.dm=false:=by
   cases hdm:(x.step m).1.dm with
   | false=>rfl
   | true=>rw [← hso.2.2,XS.dm_true hso.1 hdm] at hdem; cases hdem
  cases hk:(x.step m).1.kicked with
  | false =>
   by_cases hz:(x.step m).1.yi 9=0
   ·
    have hA2:=h.to (fun q hq=>hq) (fun _=>hR)
    rw [hdem,hdm,hk] at hA2
    refine plKrffz (pqX s bx yb bm br n _ 0 x m lrv ltk lhd) hx (show m.cells.length≤1000000 by omega) hdem hz ho A w _ hA2 ?_
    intro κ A1 w1 hA1
    refine hok A1 w1 ?_
    rw [hdem]
    exact ⟨hA1.sz,hA1.df,hA1.tm,back hdm hk hA1.hold⟩
   ·
    have hA2:=h.to (fun q hq=>hq) (fun _=>hR)
    rw [hdem,hdm,hk] at hA2
    refine plKrffn (pqX s bx yb bm br n _ 0 x m lrv ltk lhd) hx (show m.cells.length≤1000000 by omega) hdem hz ho A w _ hA2 ?_
    intro κ A1 w1 hA1
    refine hok A1 w1 ?_
    rw [hdem]
    exact ⟨hA1.sz,hA1.df,hA1.tm,back hdm hk hA1.hold⟩
  | true =>
   by_cases hz:(x.step m).1.yi 9=0
   ·
    have hA2:=h.to (fun q hq=>hq) (fun _=>hR)
    rw [hdem,hdm,hk] at hA2
    refine plKrftz (pqX s bx yb bm br n _ 0 x m lrv ltk lhd) hx (show m.cells.length≤1000000 by omega) hdem hz ho A w _ hA2 ?_
    intro κ A1 w1 hA1
    refine hok A1 w1 ?_
    rw [hdem]
    exact ⟨hA1.sz,hA1.df,hA1.tm,back hdm hk hA1.hold⟩
   ·
    have hA2:=h.to (fun q hq=>hq) (fun _=>hR)
    rw [hdem,hdm,hk] at hA2
    refine plKrftn (pqX s bx yb bm br n _ 0 x m lrv ltk lhd) hx (show m.cells.length≤1000000 by omega) hdem hz ho A w _ hA2 ?_
    intro κ A1 w1 hA1
    refine hok A1 w1 ?_
    rw [hdem]
    exact ⟨hA1.sz,hA1.df,hA1.tm,back hdm hk hA1.hold⟩
theorem pl_poke (hx:x.Ok m) (hm:MemB m) (ho:0≤m.ops∧m.ops≤100000) (hn:n < s.ps.length) (h:Ev.At ⟨s.W0,s.F0⟩ 157 (plT s (xvOf x.dem bx) yb bm br n) (plP bx yb bm br x m rv tk hd) A w)
  (hok:∀ m' rv' A1 w1,x.Ok m'→MemB m'→0≤m'.ops∧m'.ops≤m.ops+1→Ev.At ⟨s.W0,s.F0⟩ 157 (plT s (xvOf x.dem bx) yb bm br n) (plP bx yb bm br x m' rv' tk hd) A1 w1→Ev.wpL Try.prog (Ev.stm Try.prog 17 [6,0,4] 14) Q A1 w1) : Ev.wpL Try.prog (Ev.stm Try.prog 17 [6,0,4] 12) Q A w:=by
 have hl:=hm.len
 have hh:=h.hold
 have lrv:Ev.leafV rv=true:=hold_leaf (hh.sel [4] (by kernel_rfl))
 have lxv:=xv_leaf x.dem bx
 let R:List Ev.Asr:=[yB yb x x.dm x.kicked tk hd,xA bx x,isA tk x.ts,isA hd x.hs]
 have hR:Ev.Hold ⟨s.W0,s.F0⟩ [rB br rv m,memA bm m,cA rv m,Ev.grp R] w:=(Ev.Hold.shut (l:=[yB yb x x.dm x.kicked tk hd,xA bx x,isA tk x.ts,isA hd x.hs]) (m:=[rB br rv m,memA bm m,cA rv m]) (hh.sel [0,2,5,6,1,3,4] (by kernel_rfl))).sel [1,2,3,0] (by kernel_rfl)
 have back:∀ {rv':Value} {m':MemM} {w1:World},Ev.Hold ⟨s.W0,s.F0⟩ [rB br rv' m',memA bm m',cA rv' m',Ev.grp R] w1→Ev.Hold ⟨s.W0,s.F0⟩ (plP bx yb bm br x m' rv' tk hd) w1:=by
  intro rv' m' w1 h1
  exact (Ev.Hold.open (l:=[yB yb x x.dm x.kicked tk hd,xA bx x,isA tk x.ts,isA hd x.hs]) (h1.sel [3,0,1,2] (by kernel_rfl))).sel [0,4,1,5,6,2,3] (by kernel_rfl)
 have hA2:=h.to (fun q hq=>hq) (fun _=>hR)
 have hk:s.ps[n]? = some s.ps[n]:=List.getElem?_eq_getElem hn
 generalize s.ps[n]=k at hk
 have hv:U64 k.v:=s.hv k (List.mem_of_getElem? hk)
 cases hon:k.on with
 | false =>
  refine plPN (pqG s lxv yb bm br n _ x m lrv leaf0 leaf0 k) (show m.cells.length≤1000000 by omega) hn hk hon A w _ hA2 ?_
  intro κ A1 w1 hA1
  exact hok m rv A1 w1 hx hm (by omega) ⟨hA1.sz,hA1.df,hA1.tm,back hA1.hold⟩
 | true =>
  by_cases h0:m.cells.length > 0
  ·refine plPY (pqG s lxv yb bm br n _ x m lrv leaf0 leaf0 k) (show m.cells.length≤1000000 by omega) hn hk hon h0 A w _ hA2 ?_
   intro κ A1 w1 hA1
   have e:IntKind.u64.wrap (m.ops+1)=m.ops+1:=wrapu_ok (by omega) (by omega)
   refine hok (m.put (pick k.at' (m.cells.length:Int)).toNat k.v) (Ev.dec ((κ 407).getD 0)) A1 w1 (XS.put_ok hx _ hv) (hm.put _ hv) ?_ ⟨hA1.sz,hA1.df,hA1.tm,back ?_⟩
   ·show 0≤IntKind.u64.wrap (m.ops+1)∧IntKind.u64.wrap (m.ops+1)≤m.ops+1
    omega
   ·have h3:=hA1.hold.sel [0,2,1,3] (by kernel_rfl)
    have el:(m.put (pick k.at' (m.cells.length:Int)).toNat k.v).cells.length=m.cells.length:=by show (m.cells.set _ _).length=_; simp
    show Ev.Hold _ [_,_,Ev.slA _ 1 _ (m.put _ _).cells.length _,_] _
    rw [el]
    exact h3
  ·refine plPE (pqG s lxv yb bm br n _ x m lrv leaf0 leaf0 k) (show m.cells.length≤1000000 by omega) hn hk hon h0 A w _ hA2 ?_
   intro κ A1 w1 hA1
   exact hok m rv A1 w1 hx hm (by omega) ⟨hA1.sz,hA1.df,hA1.tm,back hA1.hold⟩
end
end Go.Proofs.Ytbcnbofkgkheeaa
namespace Go.Proofs.Ytbcnbofkgkheeaa
open Go.RowKit
open Go.Ev (sy)
set_option linter.unusedVariables false
set_option linter.unusedSimpArgs false
set_option maxRecDepth 8000
attribute [local irreducible] Ev.wpL
structure Fresh (x:XS) (c:Cf) : Prop where
 ok:∀ us,GoodF c us→x.Ok ⟨us,((c.cn:Nat) : Int)⟩
 kicked:x.kicked=false
 ts:x.ts=[]
 hs:x.hs=[]
theorem pl_round {s:PL} {bx yb bm br n:Nat} {x:XS} {m:MemM} {rv tk hd:Value} {Q:Exit→Act→World→Prop} {A:Act} {w:World} (hx:x.Ok m) (hm:MemB m) (ho:0≤m.ops∧m.ops≤1000+2 * (n:Int)) (hn:n≤s.ps.length) (h:Ev.At ⟨s.W0,s.F0⟩ 157 (plT s (xvOf x.dem bx) yb bm br n) (plP bx yb bm br x m rv tk hd) A w)
  (hend:∀ A1 w1,Ev.At ⟨s.W0,s.F0⟩ 157 [(10,.bool true)] [] A1 w1→Q .ret A1 w1)
  (hgo:∀ x' m' rv' tk' hd' A1 w1,n < s.ps.length→x'.Ok m'→MemB m'→x'.dem=x.dem→0≤m'.ops∧m'.ops≤1000+2 * ((n+1:Nat) : Int)→Ev.At ⟨s.W0,s.F0⟩ 157 (plT s (xvOf x'.dem bx) yb bm br n) (plP bx yb bm br x' m' rv' tk' hd') A1 w1→Ev.wpL Try.prog (Ev.stm Try.prog 17 [6,0,4] 14) Q A1 w1) :
  Ev.wpL Try.prog (Ev.stm Try.prog 17 [6,0,4] 0) Q A w:=by
 have lxv:=xv_leaf x.dem bx
 have hlen:=s.hlen
 refine pl_told hx h (fun A1 w1 h1=>?_)
 refine pl_done hx hm h1 (fun A2 w2 h2=>?_)
 have g2:Ev.At ⟨s.W0,s.F0⟩ 157 (plT s (xvOf x.dem bx) yb bm br n) [Ev.grp (plP bx yb bm br x m rv tk hd)] A2 w2:=h2.to (fun q hq=>hq) (fun hh=>Ev.Hold.shut (l:=plP bx yb bm br x m rv tk hd) (m:=[]) hh)
 rcases Nat.lt_or_ge n s.ps.length with hlt | hge
 ·refine plE2 (pqT s lxv yb bm br n _ 0) hlt A2 w2 _ g2 ?_
  intro κ A3 w3 h3
  have g3:Ev.At ⟨s.W0,s.F0⟩ 157 (plT s (xvOf x.dem bx) yb bm br n) (plP bx yb bm br x m rv tk hd) A3 w3:=h3.to (fun q hq=>hq) (fun hh=>Ev.Hold.open (l:=plP bx yb bm br x m rv tk hd) (m:=[]) hh)
  refine pl_step hx hm g3 (fun rv2 tk2 hd2 A4 w4 h4=>?_)
  refine pl_go hx hm ⟨ho.1,by omega⟩ h4 (fun A5 w5 h5=>?_)
  have hs:=XS.step_ok hx hm
  have hop:=x.ops_le (m:=m) ⟨ho.1,by omega⟩
  rw [← hs.2.2] at h5
  refine pl_poke hs.1 hs.2.1 ⟨by omega,by omega⟩ hlt h5 (fun m' rv' A6 w6 hx' hm' ho' h6=>?_)
  exact hgo _ m' rv' tk2 hd2 A6 w6 hlt hx' hm' hs.2.2 ⟨ho'.1,by omega⟩ h6
 ·obtain rfl:n=s.ps.length:=by omega
  refine plE1 (pqT s lxv yb bm br _ _ 0) rfl A2 w2 _ g2 ?_
  intro κ A3 w3 h3
  exact hend A3 w3 (h3.to (fun q hq=>hq) (fun hh=>hh.sel [] (by kernel_rfl)))
theorem plays_ok (s:PL) {x:XS} {bx:Nat} (hf:Fresh x s.c) (h:Ev.Now [xA bx x] s.F0 s.W0) :
  Calls Try.prog 17 #[xvOf x.dem bx,.agg (yL x x.dm false (.slice none 0 0) (.slice none 0 0)).toArray,s.c.v,s.bv,s.lv] s.W0 fun e w'=>e=.returned (.bool true)∧Ev.Hold ⟨s.W0,s.F0⟩ [] w':=by
 have lxv:=xv_leaf x.dem bx
 have go:∀ (d:Bool) (hdm:x.dm=d) (A1:Act) (w1:World) (yb br:Nat) (v:Value),Ev.At ⟨s.W0,s.F0⟩ 157 [(0,xvOf x.dem bx),(4,s.lv),(6,.pointer (some ⟨yb,0,none⟩)),(10,.bool false),(11,Ev.subV 0 v),(12,.pointer (some ⟨br,0,none⟩)),(13,.int .i64 0)] [yB yb x d false (.slice none 0 0) (.slice none 0 0),Ev.blkA br [Ev.subV 1 v,.int .u64 ((s.c.cn:Nat) : Int)] 32,twoA s.c v,Ev.grp [xA bx x]] A1 w1→Ev.wpL Try.prog (Ev.stm Try.prog 17 [] 3) (bodyPostM Fence.wide 0 Try.prog (Ev.fnOf Try.prog 17) fun e w'=>e=.returned (.bool true)∧Ev.Hold ⟨s.W0,s.F0⟩ [] w') A1 w1:=by
  intro d hdm A1 w1 yb br v h1
  subst hdm
  obtain ⟨us,hg,hh⟩:=Ev.Hold.getX (h1.hold.sel [2,0,1,3] (by kernel_rfl))
  have hh2:=Ev.Hold.open (l:=[memV (Ev.subV 0 v) ⟨us,((s.c.cn:Nat) : Int)⟩,Ev.slA 30 1 (Ev.subV 1 v) us.length (u64s us)]) hh
  obtain ⟨bm,e4,hh3⟩:=hold_memV hh2
  have hh4:=(((Ev.Hold.open (l:=[xA bx x]) (hh3.sel [4,0,1,2,3] (by kernel_rfl))).nilSl (e := 3) (sz:=1)).nilSl (e := 3) (sz:=1)).sel [5,6,2,3,4,0,1] (by kernel_rfl)
  have ht:=h1.tm
  rw [e4] at ht
  have hle:=hg.le
  have hcn:=hg.len
  have hx:=hf.ok us hg
  refine Ev.in_block (id:=0) (by kernel_rfl) ?_
  refine Ev.loop_st (by kernel_rfl) (fun (y:Nat×XS×MemM×Value×Value×Value) A w'=>Ev.At ⟨s.W0,s.F0⟩ 157 (plT s (xvOf y.2.1.dem bx) yb bm br y.1) (plP bx yb bm br y.2.1 y.2.2.1 y.2.2.2.1 y.2.2.2.2.1 y.2.2.2.2.2) A w'∧y.2.1.Ok y.2.2.1∧MemB y.2.2.1∧(0≤y.2.2.1.ops∧y.2.2.1.ops≤1000+2 * ((y.1:Nat) : Int))∧y.1≤s.ps.length) (fun y=>s.ps.length+1 - y.1) (x:=(0,x,⟨us,((s.c.cn:Nat) : Int)⟩,Ev.subV 1 v,.slice none 0 0,.slice none 0 0)) ⟨⟨h1.sz,h1.df,ht,?_⟩,hx,⟨hle,hg.u⟩,?_,Nat.zero_le _⟩ ?_
  ·show Ev.Hold _ (plP bx yb bm br x ⟨us,((s.c.cn:Nat) : Int)⟩ (Ev.subV 1 v) (.slice none 0 0) (.slice none 0 0)) w1
   unfold plP
   rw [hf.kicked,hf.ts,hf.hs]
   exact hh4
  ·show 0≤((s.c.cn:Nat) : Int)∧((s.c.cn:Nat) : Int)≤1000+2 * ((0:Nat) : Int)
   omega
  ·rintro ⟨n,x',m,rv,tk,hd⟩ A2 w2 ⟨h2,hx2,hm2,ho2,hn2⟩
   replace hn2:n≤s.ps.length:=hn2
   have h2':Ev.At ⟨s.W0,s.F0⟩ 157 (plT s (xvOf x'.dem bx) yb bm br n) [Ev.grp (plP bx yb bm br x' m rv tk hd)] A2 w2:=h2.to (fun q hq=>hq) (fun hh=>Ev.Hold.shut (l:=plP bx yb bm br x' m rv tk hd) (m:=[]) hh)
   refine plC (pqT s (xv_leaf x'.dem bx) yb bm br n _ 0) hn2 A2 w2 _ h2' ?_
   intro κ A3 w3 h3
   refine Ev.in_block (id:=1) (by kernel_rfl) ?_
   refine pl_round (n:=n) hx2 hm2 ho2 hn2 (h3.to (fun q hq=>hq) (fun hh=>Ev.Hold.open (l:=plP bx yb bm br x' m rv tk hd) (m:=[]) hh)) (fun A4 w4 h4=>?_) (fun x3 m3 rv3 tk3 hd3 A4 w4 hlt hx3 hm3 hd3' ho3 h4=>?_)
   ·exact h4.ret (by kernel_rfl) (List.mem_singleton.2 rfl) (fun hh=>⟨rfl,hh⟩)
   ·refine Ev.wpL_nil (by kernel_rfl) ?_
    refine plI (pqT s (xv_leaf x3.dem bx) yb bm br n _ 0) hlt A4 w4 _ (h4.to (fun q hq=>hq) (fun hh=>Ev.Hold.shut (l:=plP bx yb bm br x3 m3 rv3 tk3 hd3) (m:=[]) hh)) ?_
    intro κ A5 w5 h5
    refine Ev.wpL_nil (by kernel_rfl) ⟨(n+1,x3,m3,rv3,tk3,hd3),⟨h5.to (fun q hq=>hq) (fun hh=>Ev.Hold.open (l:=plP bx yb bm br x3 m3 rv3 tk3 hd3) (m:=[]) hh),hx3,hm3,ho3,hlt⟩,?_⟩
    show s.ps.length+1 - (n+1) < s.ps.length+1 - n
    omega
 have hst:Ev.Now [Ev.grp [xA bx x]] s.F0 s.W0:=Ev.now_shut (l:=[xA bx x]) (m:=[]) h
 refine Ev.con_start (N:=157) (tm:=[(0,xvOf x.dem bx),(1,.agg (yL x x.dm false (.slice none 0 0) (.slice none 0 0)).toArray),(2,s.c.v),(3,s.bv),(4,s.lv)]) (by kernel_rfl) hst (by simp) (by simp) (fun A hA=>?_)
 cases hdm:x.dm with
 | true =>
  rw [hdm] at hA
  refine plAt (pqG s lxv 0 0 0 0 [xA bx x] x ⟨[],0⟩ leaf0 leaf0 leaf0 ⟨false,0,0⟩) A s.W0 _ hA ?_
  intro κ A1 w1 h1
  exact go true hdm A1 w1 _ _ _ h1
 | false =>
  rw [hdm] at hA
  refine plAf (pqG s lxv 0 0 0 0 [xA bx x] x ⟨[],0⟩ leaf0 leaf0 leaf0 ⟨false,0,0⟩) A s.W0 _ hA ?_
  intro κ A1 w1 h1
  exact go false hdm A1 w1 _ _ _ h1
end Go.Proofs.Ytbcnbofkgkheeaa
