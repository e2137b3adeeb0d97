/- Part of a proof: see the last text. -/
import Derived.Test.YtbcnbofkgkheeaaZp21
import Derived.Test.YtbcnbofkgkheeaaZp18
import Derived.Test.YtbcnbofkgkheeaaZp20
namespace Go.Proofs.Ytbcnbofkgkheeaa
open Go.RowKit
open Go.Ev (sy)
set_option linter.unusedVariables false
set_option linter.unusedSimpArgs false
set_option maxRecDepth 8000
theorem mach_any {c:Cfg} {p bx:Nat} {k:KickS} {ctx:Ev.Ctx} {l:List Ev.Asr} {w:World} (h:Ev.Hold ctx (machA c p bx k::l) w) :
  ∃ pv,Ev.leafV pv=true∧∃ rest,Ev.Hold ctx (Ev.blkA bx (kickC c p k pv) (kickT k.dem)::(rest++l)) w∧∀ w',Ev.Hold ctx (Ev.blkA bx (kickC c p k pv) (kickT k.dem)::(rest++l)) w'→Ev.Hold ctx (machA c p bx k::l) w':=by
 cases hp:k.put with
 | none=>exact ⟨.pointer none,rfl,[],mach_none hp h,fun w' h'=>none_mach hp h'⟩
 | some x =>
  obtain ⟨bp,hh⟩:=mach_some hp h
  exact ⟨.pointer (some ⟨bp,0,none⟩),rfl,[putA c p bp x],hh,fun w' h'=>some_mach hp h'⟩
section
variable {w:World} {F:Nat→Prop} {c:Cfg} {p:Nat} {k:KickS} {bx:Nat}
theorem demote_done (hd:k.dem=true) (hk:KickOk c k) (h:Ev.Now [machA c p bx k] F w) :
  Calls Try.prog 118 #[.pointer (some ⟨bx,0,none⟩)] w fun e w'=>e=.returned (.bool (decide (k.st=0)))∧Ev.Hold ⟨w,F⟩ [machA c p bx k] w':=by
 obtain ⟨pv,lpv,rest,hh,hback⟩:=mach_any (Ev.Hold.start h)
 obtain ⟨F',n1,n2,n3⟩:=hh.ex
 obtain ⟨F1,F2,k1,k2,k3,k4⟩:=Ev.now_split (l:=[Ev.blkA bx (kickC c p k pv) (kickT k.dem)]) n1
 have fin:∀ w1,Ev.Hold ⟨w,F1⟩ [Ev.blkA bx (kickC c p k pv) (kickT k.dem)] w1→Ev.Hold ⟨w,F⟩ [machA c p bx k] w1:=fun w1 h1=>hback w1 ((h1.frame k2 k3).into (l:=[]) n2 (fun j hj=>n3 j ((k4 j).2 hj)))
 obtain ⟨dem,gg,st,was,put⟩:=k
 have hd':dem=true:=hd
 subst hd'
 by_cases h0:st=0
 ·subst h0
  exact startP (ndA ⟨w,F1,c.n,c.q,c.g,c.m,c.t,c.s,p,KickS.nx ⟨true,gg,0,was,put⟩,0,was,gg,pv,lpv,bx,0,hk.st⟩) (by kernel_rfl) k1 (by simp) (by simp) (fun κ w1 h1=>⟨rfl,fin w1 h1⟩)
 ·exact startP (ndB ⟨w,F1,c.n,c.q,c.g,c.m,c.t,c.s,p,KickS.nx ⟨true,gg,st,was,put⟩,st,was,gg,pv,lpv,bx,0,hk.st⟩ h0) (by kernel_rfl) k1 (by simp) (by simp) (fun κ w1 h1=>⟨by rw [decide_eq_false h0],fin w1 h1⟩)
end
section
variable {w:World} {F:Nat→Prop} {c:Cfg} {p:Nat} {k:KickS} {bx:Nat}
theorem ready_done (hd:k.dem=false) (hk:KickOk c k) (h:Ev.Now [machA c p bx k] F w) :
  Calls Try.prog 88 #[.pointer (some ⟨bx,0,none⟩)] w fun e w'=>e=.returned (.bool (decide (k.st=0)))∧Ev.Hold ⟨w,F⟩ [machA c p bx k] w':=by
 obtain ⟨pv,lpv,rest,hh,hback⟩:=mach_any (Ev.Hold.start h)
 obtain ⟨F',n1,n2,n3⟩:=hh.ex
 obtain ⟨F1,F2,k1,k2,k3,k4⟩:=Ev.now_split (l:=[Ev.blkA bx (kickC c p k pv) (kickT k.dem)]) n1
 have fin:∀ w1,Ev.Hold ⟨w,F1⟩ [Ev.blkA bx (kickC c p k pv) (kickT k.dem)] w1→Ev.Hold ⟨w,F⟩ [machA c p bx k] w1:=fun w1 h1=>hback w1 ((h1.frame k2 k3).into (l:=[]) n2 (fun j hj=>n3 j ((k4 j).2 hj)))
 obtain ⟨dem,gg,st,was,put⟩:=k
 have hd':dem=false:=hd
 subst hd'
 by_cases h0:st=0
 ·subst h0
  exact startP (nrA ⟨w,F1,c.n,c.q,c.g,c.m,c.t,c.s,p,KickS.nx ⟨false,gg,0,was,put⟩,0,was,gg,pv,lpv,bx,0,hk.st⟩) (by kernel_rfl) k1 (by simp) (by simp) (fun κ w1 h1=>⟨rfl,fin w1 h1⟩)
 ·exact startP (nrB ⟨w,F1,c.n,c.q,c.g,c.m,c.t,c.s,p,KickS.nx ⟨false,gg,st,was,put⟩,st,was,gg,pv,lpv,bx,0,hk.st⟩ h0) (by kernel_rfl) k1 (by simp) (by simp) (fun κ w1 h1=>⟨by rw [decide_eq_false h0],fin w1 h1⟩)
end
section
variable {w:World} {F:Nat→Prop} {c:Cfg} {p:Nat} {k:KickS} {bx:Nat}
theorem demote_kicked (hp:p < c.n) (hd:k.dem=true) (hk:KickOk c k) (h:Ev.Now [machA c p bx k] F w) :
  Calls Try.prog 120 #[.pointer (some ⟨bx,0,none⟩)] w fun e w'=>e=.returned (.bool k.put.isSome)∧Ev.Hold ⟨w,F⟩ [machA c p bx k] w':=by
 obtain ⟨dem,gg,st,was,put⟩:=k
 have hd':dem=true:=hd
 subst hd'
 cases put with
 | none =>
  obtain ⟨F',n1,n2,n3⟩:=(mach_none rfl (Ev.Hold.start h)).ex
  exact startP (ndC ⟨w,F',c.n,c.q,c.g,c.m,c.t,c.s,p,KickS.nx ⟨true,gg,st,was,none⟩,st,was,gg,.pointer none,rfl,bx,0,hk.st⟩) (by kernel_rfl) n1 (by simp) (by simp) (fun κ w1 h1=>⟨rfl,none_mach (k:=⟨true,gg,st,was,none⟩) rfl (h1.into (l:=[]) n2 n3)⟩)
 | some x =>
  obtain ⟨bp,hh⟩:=mach_some rfl (Ev.Hold.start h)
  obtain ⟨F',n1,n2,n3⟩:=hh.ex
  exact startP (ndD ⟨w,F',c.n,c.q,c.g,c.m,c.t,c.s,p,KickS.nx ⟨true,gg,st,was,some x⟩,st,was,gg,.pointer none,rfl,bx,0,hk.st⟩ c p hp bp x (hk.put x rfl)) (by kernel_rfl) n1 (by simp) (by simp) (fun κ w1 h1=>⟨rfl,some_mach (k:=⟨true,gg,st,was,some x⟩) rfl (h1.into (l:=[]) n2 n3)⟩)
theorem demote_over (hp:p < c.n) (hd:k.dem=true) (hk:KickOk c k) (h:Ev.Now [machA c p bx k] F w) :
  Calls Try.prog 121 #[.pointer (some ⟨bx,0,none⟩)] w fun e w'=>∃ v cd,Ev.dec cd=v∧e=.returned v∧Ev.Hold ⟨w,F⟩ [isA v k.over,machA c p bx k] w':=by
 obtain ⟨dem,gg,st,was,put⟩:=k
 have hd':dem=true:=hd
 subst hd'
 cases put with
 | none =>
  obtain ⟨F',n1,n2,n3⟩:=(mach_none rfl (Ev.Hold.start h)).ex
  exact startP (ndE ⟨w,F',c.n,c.q,c.g,c.m,c.t,c.s,p,KickS.nx ⟨true,gg,st,was,none⟩,st,was,gg,.pointer none,rfl,bx,0,hk.st⟩) (by kernel_rfl) n1 (by simp) (by simp) (fun κ w1 h1=>⟨_,_,Ev.dec_slice0,rfl,(none_mach (k:=⟨true,gg,st,was,none⟩) rfl (h1.into (l:=[]) n2 n3)).nilSl (e := 3) (sz:=1)⟩)
 | some x =>
  obtain ⟨bp,hh⟩:=mach_some rfl (Ev.Hold.start h)
  obtain ⟨F',n1,n2,n3⟩:=hh.ex
  refine startP (ndF ⟨w,F',c.n,c.q,c.g,c.m,c.t,c.s,p,KickS.nx ⟨true,gg,st,was,some x⟩,st,was,gg,.pointer none,rfl,bx,0,hk.st⟩ c p hp bp x (hk.put x rfl)) (by kernel_rfl) n1 (by simp) (by simp) (fun κ w1 h1=>⟨_,_,rfl,rfl,?_⟩)
  exact (some_mach (k:=⟨true,gg,st,was,some x⟩) rfl ((h1.into (l:=[]) n2 n3).sel [0,2,1] (by kernel_rfl))).sel [1,0] (by kernel_rfl)
theorem demote_hands (hp:p < c.n) (hd:k.dem=true) (hk:KickOk c k) (h:Ev.Now [machA c p bx k] F w) :
  Calls Try.prog 119 #[.pointer (some ⟨bx,0,none⟩)] w fun e w'=>∃ v cd,Ev.dec cd=v∧e=.returned v∧Ev.Hold ⟨w,F⟩ [isA v k.hands,machA c p bx k] w':=by
 obtain ⟨dem,gg,st,was,put⟩:=k
 have hd':dem=true:=hd
 subst hd'
 cases put with
 | none =>
  obtain ⟨F',n1,n2,n3⟩:=(mach_none rfl (Ev.Hold.start h)).ex
  refine startP (ndG ⟨w,F',c.n,c.q,c.g,c.m,c.t,c.s,p,KickS.nx ⟨true,gg,st,was,none⟩,st,was,gg,.pointer none,rfl,bx,0,hk.st⟩) (by kernel_rfl) n1 (by simp) (by simp) (fun κ w1 h1=>⟨_,_,Ev.dec_slice0,rfl,?_⟩)
  rw [show KickS.hands ⟨true,gg,st,was,none⟩=[] by simp [KickS.hands,KickS.holds]]
  exact (none_mach (k:=⟨true,gg,st,was,none⟩) rfl (h1.into (l:=[]) n2 n3)).nilSl (e := 3) (sz:=1)
 | some x =>
  obtain ⟨bp,hh⟩:=mach_some rfl (Ev.Hold.start h)
  obtain ⟨F',n1,n2,n3⟩:=hh.ex
  refine startP (ndH ⟨w,F',c.n,c.q,c.g,c.m,c.t,c.s,p,KickS.nx ⟨true,gg,st,was,some x⟩,st,was,gg,.pointer none,rfl,bx,0,hk.st⟩ c p hp bp x (hk.put x rfl)) (by kernel_rfl) n1 (by simp) (by simp) (fun κ w1 h1=>⟨_,_,rfl,rfl,?_⟩)
  rw [show KickS.hands ⟨true,gg,st,was,some x⟩=x.hs by simp [KickS.hands,KickS.holds]]
  exact (some_mach (k:=⟨true,gg,st,was,some x⟩) rfl ((h1.into (l:=[]) n2 n3).sel [0,2,1] (by kernel_rfl))).sel [1,0] (by kernel_rfl)
end
section
variable {w:World} {F:Nat→Prop} {c:Cfg} {p:Nat} {k:KickS} {bx:Nat}
theorem ready_kicked (hp:p < c.n) (hd:k.dem=false) (hk:KickOk c k) (h:Ev.Now [machA c p bx k] F w) :
  Calls Try.prog 50 #[.pointer (some ⟨bx,0,none⟩)] w fun e w'=>e=.returned (.bool k.put.isSome)∧Ev.Hold ⟨w,F⟩ [machA c p bx k] w':=by
 obtain ⟨dem,gg,st,was,put⟩:=k
 have hd':dem=false:=hd
 subst hd'
 cases put with
 | none =>
  obtain ⟨F',n1,n2,n3⟩:=(mach_none rfl (Ev.Hold.start h)).ex
  exact startP (nrC ⟨w,F',c.n,c.q,c.g,c.m,c.t,c.s,p,KickS.nx ⟨false,gg,st,was,none⟩,st,was,gg,.pointer none,rfl,bx,0,hk.st⟩) (by kernel_rfl) n1 (by simp) (by simp) (fun κ w1 h1=>⟨rfl,none_mach (k:=⟨false,gg,st,was,none⟩) rfl (h1.into (l:=[]) n2 n3)⟩)
 | some x =>
  obtain ⟨bp,hh⟩:=mach_some rfl (Ev.Hold.start h)
  obtain ⟨F',n1,n2,n3⟩:=hh.ex
  exact startP (nrD ⟨w,F',c.n,c.q,c.g,c.m,c.t,c.s,p,KickS.nx ⟨false,gg,st,was,some x⟩,st,was,gg,.pointer none,rfl,bx,0,hk.st⟩ c p hp bp x (hk.put x rfl)) (by kernel_rfl) n1 (by simp) (by simp) (fun κ w1 h1=>⟨rfl,some_mach (k:=⟨false,gg,st,was,some x⟩) rfl (h1.into (l:=[]) n2 n3)⟩)
theorem ready_over (hp:p < c.n) (hd:k.dem=false) (hk:KickOk c k) (h:Ev.Now [machA c p bx k] F w) :
  Calls Try.prog 29 #[.pointer (some ⟨bx,0,none⟩)] w fun e w'=>∃ v cd,Ev.dec cd=v∧e=.returned v∧Ev.Hold ⟨w,F⟩ [isA v k.over,machA c p bx k] w':=by
 obtain ⟨dem,gg,st,was,put⟩:=k
 have hd':dem=false:=hd
 subst hd'
 cases put with
 | none =>
  obtain ⟨F',n1,n2,n3⟩:=(mach_none rfl (Ev.Hold.start h)).ex
  exact startP (nrE ⟨w,F',c.n,c.q,c.g,c.m,c.t,c.s,p,KickS.nx ⟨false,gg,st,was,none⟩,st,was,gg,.pointer none,rfl,bx,0,hk.st⟩) (by kernel_rfl) n1 (by simp) (by simp) (fun κ w1 h1=>⟨_,_,Ev.dec_slice0,rfl,(none_mach (k:=⟨false,gg,st,was,none⟩) rfl (h1.into (l:=[]) n2 n3)).nilSl (e := 3) (sz:=1)⟩)
 | some x =>
  obtain ⟨bp,hh⟩:=mach_some rfl (Ev.Hold.start h)
  obtain ⟨F',n1,n2,n3⟩:=hh.ex
  refine startP (nrF ⟨w,F',c.n,c.q,c.g,c.m,c.t,c.s,p,KickS.nx ⟨false,gg,st,was,some x⟩,st,was,gg,.pointer none,rfl,bx,0,hk.st⟩ c p hp bp x (hk.put x rfl)) (by kernel_rfl) n1 (by simp) (by simp) (fun κ w1 h1=>⟨_,_,rfl,rfl,?_⟩)
  exact (some_mach (k:=⟨false,gg,st,was,some x⟩) rfl ((h1.into (l:=[]) n2 n3).sel [0,2,1] (by kernel_rfl))).sel [1,0] (by kernel_rfl)
theorem ready_hands (hp:p < c.n) (hd:k.dem=false) (hk:KickOk c k) (h:Ev.Now [machA c p bx k] F w) :
  Calls Try.prog 89 #[.pointer (some ⟨bx,0,none⟩)] w fun e w'=>∃ v cd,Ev.dec cd=v∧e=.returned v∧Ev.Hold ⟨w,F⟩ [isA v k.hands,machA c p bx k] w':=by
 obtain ⟨dem,gg,st,was,put⟩:=k
 have hd':dem=false:=hd
 subst hd'
 match st,hk.st with
 | 0,_ =>
  cases put with
  | none =>
   obtain ⟨F',n1,n2,n3⟩:=(mach_none rfl (Ev.Hold.start h)).ex
   refine startP (nrG ⟨w,F',c.n,c.q,c.g,c.m,c.t,c.s,p,KickS.nx ⟨false,gg,0,was,none⟩,0,was,gg,.pointer none,rfl,bx,0,hk.st⟩) (by kernel_rfl) n1 (by simp) (by simp) (fun κ w1 h1=>⟨_,_,Ev.dec_slice0,rfl,?_⟩)
   rw [show KickS.hands ⟨false,gg,0,was,none⟩=[] by simp [KickS.hands,KickS.holds]]
   exact (none_mach (k:=⟨false,gg,0,was,none⟩) rfl (h1.into (l:=[]) n2 n3)).nilSl (e := 3) (sz:=1)
  | some x =>
   obtain ⟨bp,hh⟩:=mach_some rfl (Ev.Hold.start h)
   obtain ⟨F',n1,n2,n3⟩:=hh.ex
   refine startP (nrK ⟨w,F',c.n,c.q,c.g,c.m,c.t,c.s,p,KickS.nx ⟨false,gg,0,was,some x⟩,0,was,gg,.pointer none,rfl,bx,0,hk.st⟩ c p hp bp x (hk.put x rfl)) (by kernel_rfl) n1 (by simp) (by simp) (fun κ w1 h1=>⟨_,_,rfl,rfl,?_⟩)
   rw [show KickS.hands ⟨false,gg,0,was,some x⟩=x.hs by simp [KickS.hands,KickS.holds]]
   exact (some_mach (k:=⟨false,gg,0,was,some x⟩) rfl ((h1.into (l:=[]) n2 n3).sel [0,2,1] (by kernel_rfl))).sel [1,0] (by kernel_rfl)
 | 1,_ =>
  have e:put=none:=hk.p12 (.inl rfl)
  subst e
  obtain ⟨F',n1,n2,n3⟩:=(mach_none rfl (Ev.Hold.start h)).ex
  refine startP (nrI ⟨w,F',c.n,c.q,c.g,c.m,c.t,c.s,p,KickS.nx ⟨false,gg,1,was,none⟩,1,was,gg,.pointer none,rfl,bx,0,hk.st⟩) (by kernel_rfl) n1 (by simp) (by simp) (fun κ w1 h1=>⟨_,_,Ev.dec_slice _ 0 1 1,rfl,?_⟩)
  rw [show KickS.hands ⟨false,gg,1,was,none⟩=[gg] by simp [KickS.hands]]
  have h2:=blk_isA ((h1.into (l:=[]) n2 n3).sel [1,0] (by kernel_rfl))
  exact (none_mach (k:=⟨false,gg,1,was,none⟩) rfl (h2.sel [1,0] (by kernel_rfl))).sel [1,0] (by kernel_rfl)
 | 2,_ =>
  have e:put=none:=hk.p12 (.inr rfl)
  subst e
  obtain ⟨F',n1,n2,n3⟩:=(mach_none rfl (Ev.Hold.start h)).ex
  refine startP (nrJ ⟨w,F',c.n,c.q,c.g,c.m,c.t,c.s,p,KickS.nx ⟨false,gg,2,was,none⟩,2,was,gg,.pointer none,rfl,bx,0,hk.st⟩) (by kernel_rfl) n1 (by simp) (by simp) (fun κ w1 h1=>⟨_,_,Ev.dec_slice _ 0 1 1,rfl,?_⟩)
  rw [show KickS.hands ⟨false,gg,2,was,none⟩=[gg] by simp [KickS.hands]]
  have h2:=blk_isA ((h1.into (l:=[]) n2 n3).sel [1,0] (by kernel_rfl))
  exact (none_mach (k:=⟨false,gg,2,was,none⟩) rfl (h2.sel [1,0] (by kernel_rfl))).sel [1,0] (by kernel_rfl)
 | 3,_ =>
  obtain ⟨x,e,hx0⟩:=hk.p3 rfl
  have e':put=some x:=e
  subst e'
  obtain ⟨bp,hh⟩:=mach_some rfl (Ev.Hold.start h)
  obtain ⟨F',n1,n2,n3⟩:=hh.ex
  refine startP (nrH ⟨w,F',c.n,c.q,c.g,c.m,c.t,c.s,p,KickS.nx ⟨false,gg,3,was,some x⟩,3,was,gg,.pointer none,rfl,bx,0,hk.st⟩ c p hp bp x (hk.put x rfl)) (by kernel_rfl) n1 (by simp) (by simp) (fun κ w1 h1=>⟨_,_,rfl,rfl,?_⟩)
  rw [show KickS.hands ⟨false,gg,3,was,some x⟩=x.hs by simp [KickS.hands,KickS.holds]]
  exact (some_mach (k:=⟨false,gg,3,was,some x⟩) rfl ((h1.into (l:=[]) n2 n3).sel [0,2,1] (by kernel_rfl))).sel [1,0] (by kernel_rfl)
end
end Go.Proofs.Ytbcnbofkgkheeaa
namespace Go.Proofs.Ytbcnbofkgkheeaa
open Go.RowKit
open Go.Ev (sy iz uz wz iN uN wN pz dv fc fn ak vk vd kn pc cc cr cm cd fr)
set_option linter.unusedVariables false
set_option linter.unusedSimpArgs false
set_option maxRecDepth 8000
attribute [local irreducible] Ev.wpL
abbrev ki5a2 (c:Cfg) : Value:=(.agg #[(iN (c.n)),(iN (c.q)),(iz (c.g)),(iz (c.m)),(iz (c.t)),(iz (c.s))])
abbrev ki5a12:List (Nat×Value):=[(0,.agg #[sy 0,sy 1,sy 2,sy 3,sy 4,sy 5]),(1,sy 6),(2,sy 7)]
abbrev ki5a15:List Ev.Blk:=[(416,[sy 0,sy 1,sy 2,sy 3,sy 4,sy 5,sy 6,sy 9,.bool false,.int .i64 0,.int .u64 0,.pointer none,sy 7],91)]
abbrev ki5a16 (c:Cf) (p:Int) (gg:Int) : List (Nat×Value):=[(0,(.agg #[(iz (c.n)),(iz (c.q)),(iz (c.g)),(iz (c.m)),(iz (c.t)),(iz (c.s))])),(1,(iz (p))),(2,(iz (gg)))]
theorem nwrok (W0:World) (F0:Nat→Prop) (c:Cfg) (p:Nat) (hp:p < c.n) (gg:Int) (hg:0≤gg∧gg≤9223372036854775807) : Ev.PieE Try.prog 18 [] 0 20 ⟨W0,F0⟩ [(0,(ki5a2 c)),(1,(iN (p))),(2,(iz (gg)))] [] (fun κ:Ev.Ren=>(pz ((κ 416).getD 0))) (fun κ:Ev.Ren=>[Ev.blkA ((κ 416).getD 0) [(iN (c.n)),(iN (c.q)),(iz (c.g)),(iz (c.m)),(iz (c.t)),(iz (c.s)),(iN (p)),(uz (gg+1)),(.bool false),(.int .i64 1),(.int .u64 0),(.pointer none),(iz (gg))] 91]):=(trE (c:=⟨W0,F0⟩) 5 (kn [iN (c.n),iN (c.q),iz (c.g),iz (c.m),iz (c.t),iz (c.s),iN (p),iz (gg),uz (gg),uz (gg+1),iN (c.word p)] fr [(.lss,sy 7,.int .i64 0,.bool false),(.add,sy 8,.int .u64 1,sy 9),(.geq,sy 10,.int .i64 0,.bool true)] [] [(.u64,sy 7,sy 8)] (fc (fun _ _ _=>Ev.bt_lss (by have q0:=c.z hp; first | (simp; done) | (simp; omega))) (fc (fun _ _ _=>Ev.bt_add (wrapU (by omega) (by omega))) (fc (fun _ _ _=>Ev.bt_geq (by have q0:=c.z hp; first | (simp; done) | (simp; omega))) fn))) fn (fc (Ev.ct_in rfl rfl (wrapU (by omega) (by omega))) fn) W0 F0 [[]] [] [⟨26,[.agg #[sy 0,sy 1,sy 2,sy 3,sy 4,sy 5],sy 6],0,none,sy 10,none⟩]) fn (fc (pc rfl (fun w hb=>word_ok c p hp w)) fn) rfl [] [] [(416,[sy 0,sy 1,sy 2,sy 3,sy 4,sy 5,sy 6,sy 9,.bool false,.int .i64 1,.int .u64 0,.pointer none,sy 7],91)] 0 rfl rfl ki5a12 (.pointer (some ⟨416,0,none⟩)))
theorem nwrno (W0:World) (F0:Nat→Prop) (c:Cf) (p:Int) (hc:c.ok=false) (gg:Int) (hg:0≤gg∧gg≤9223372036854775807) : Ev.PieE Try.prog 18 [] 0 20 ⟨W0,F0⟩ (ki5a16 c p gg) [] (fun κ:Ev.Ren=>(pz ((κ 416).getD 0))) (fun κ:Ev.Ren=>[Ev.blkA ((κ 416).getD 0) [(iz (c.n)),(iz (c.q)),(iz (c.g)),(iz (c.m)),(iz (c.t)),(iz (c.s)),(iz (p)),(uz (gg+1)),(.bool false),(.int .i64 0),(.int .u64 0),(.pointer none),(iz (gg))] 91]):=(trE (c:=⟨W0,F0⟩) 5 (kn [iz (c.n),iz (c.q),iz (c.g),iz (c.m),iz (c.t),iz (c.s),iz (p),iz (gg),uz (gg),uz (gg+1)] fr [(.lss,sy 7,.int .i64 0,.bool false),(.add,sy 8,.int .u64 1,sy 9)] [] [(.u64,sy 7,sy 8)] (fc (fun _ _ _=>Ev.bt_lss (by first | (simp; done) | (simp; omega))) (fc (fun _ _ _=>Ev.bt_add (wrapU (by omega) (by omega))) fn)) fn (fc (Ev.ct_in rfl rfl (wrapU (by omega) (by omega))) fn) W0 F0 [[]] [] [⟨26,[.agg #[sy 0,sy 1,sy 2,sy 3,sy 4,sy 5],sy 6],0,none,.int .i64 (-1),none⟩]) fn (fc (pc rfl (fun w hb=>word_no c p hc w)) fn) rfl [] [] ki5a15 0 rfl rfl ki5a12 (.pointer (some ⟨416,0,none⟩)))
theorem nwroff (W0:World) (F0:Nat→Prop) (c:Cfg) (p:Int) (hp:¬ (0≤p∧p < c.n)) (gg:Int) (hg:0≤gg∧gg≤9223372036854775807) : Ev.PieE Try.prog 18 [] 0 20 ⟨W0,F0⟩ [(0,(ki5a2 c)),(1,(iz (p))),(2,(iz (gg)))] [] (fun κ:Ev.Ren=>(pz ((κ 416).getD 0))) (fun κ:Ev.Ren=>[Ev.blkA ((κ 416).getD 0) [(iN (c.n)),(iN (c.q)),(iz (c.g)),(iz (c.m)),(iz (c.t)),(iz (c.s)),(iz (p)),(uz (gg+1)),(.bool false),(.int .i64 0),(.int .u64 0),(.pointer none),(iz (gg))] 91]):=(trE (c:=⟨W0,F0⟩) 5 (kn [iN (c.n),iN (c.q),iz (c.g),iz (c.m),iz (c.t),iz (c.s),iz (p),iz (gg),uz (gg),uz (gg+1)] fr [(.lss,sy 7,.int .i64 0,.bool false),(.add,sy 8,.int .u64 1,sy 9)] [] [(.u64,sy 7,sy 8)] (fc (fun _ _ _=>Ev.bt_lss (by first | (simp; done) | (simp; omega))) (fc (fun _ _ _=>Ev.bt_add (wrapU (by omega) (by omega))) fn)) fn (fc (Ev.ct_in rfl rfl (wrapU (by omega) (by omega))) fn) W0 F0 [[]] [] [⟨26,[.agg #[sy 0,sy 1,sy 2,sy 3,sy 4,sy 5],sy 6],0,none,.int .i64 (-1),none⟩]) fn (fc (pc rfl (fun w hb=>word_off c p hp w)) fn) rfl [] [] ki5a15 0 rfl rfl ki5a12 (.pointer (some ⟨416,0,none⟩)))
theorem nwrneg (W0:World) (F0:Nat→Prop) (c:Cf) (p:Int) (gg:Int) (hg:¬ 0≤gg) : Ev.PieE Try.prog 18 [] 0 20 ⟨W0,F0⟩ (ki5a16 c p gg) [] (fun κ:Ev.Ren=>(pz ((κ 404).getD 0))) (fun κ:Ev.Ren=>[Ev.blkA ((κ 404).getD 0) [(.int .i64 0),(.int .i64 0),(.int .i64 0),(.int .i64 0),(.int .i64 0),(.int .i64 0),(.int .i64 0),(.int .u64 0),(.bool false),(.int .i64 0),(.int .u64 0),(.pointer none),(.int .i64 0)] 91]):=(trE (c:=⟨W0,F0⟩) 5 (kn [iz (c.n),iz (c.q),iz (c.g),iz (c.m),iz (c.t),iz (c.s),iz (p),iz (gg),uz (gg),uz (gg+1)] fr [(.lss,sy 7,.int .i64 0,.bool true)] [] [] (fc (fun _ _ _=>Ev.bt_lss (by first | (simp; done) | (simp; omega))) fn) fn fn W0 F0 [[]] [] []) fn fn rfl [] [] [(404,[.int .i64 0,.int .i64 0,.int .i64 0,.int .i64 0,.int .i64 0,.int .i64 0,.int .i64 0,.int .u64 0,.bool false,.int .i64 0,.int .u64 0,.pointer none,.int .i64 0],91)] 0 rfl rfl ki5a12 (.pointer (some ⟨404,0,none⟩)))
end Go.Proofs.Ytbcnbofkgkheeaa
namespace Go.Proofs.Ytbcnbofkgkheeaa
open Go.RowKit
open Go.Ev (sy)
set_option linter.unusedVariables false
set_option linter.unusedSimpArgs false
set_option maxRecDepth 8000
structure DeadI where
 a0:Int
 a1:Int
 a2:Int
 a3:Int
 a4:Int
 a5:Int
 a6:Int
 nx:Int
 was:Int
 g:Int
def deadC (a:DeadI) (dem:Bool) : List Value :=
 .int .i64 a.a0::.int .i64 a.a1::.int .i64 a.a2::.int .i64 a.a3::.int .i64 a.a4::.int .i64 a.a5::.int .i64 a.a6::.int .u64 a.nx::.bool dem::.int .i64 0::.int .u64 a.was::.pointer none::cond dem [] [.int .i64 a.g]
def deadA (dem:Bool) (bx:Nat) : Ev.Asr:=Ev.exA (fun _:DeadI=>True) (fun a=>Ev.blkA bx (deadC a dem) (kickT dem))
structure XS where
 dem:Bool
 live:Option (Cfg×Nat×KickS)
def XS.st (x:XS) : Nat:=match x.live with | some (_,_,k)=>k.st | none=>0
def XS.kicked (x:XS) : Bool:=match x.live with | some (_,_,k)=>k.put.isSome | none=>false
def XS.hands (x:XS) : List Int:=match x.live with | some (_,_,k)=>k.hands | none=>[]
def XS.over (x:XS) : List Int:=match x.live with | some (_,_,k)=>k.over | none=>[]
def XS.step (x:XS) (m:MemM) : XS×MemM:=match x.live with | some (c,p,k)=>(⟨x.dem,some (c,p,(kickStep c p k m).1)⟩,(kickStep c p k m).2) | none=>(x,m)
def XS.Ok (x:XS) (m:MemM) : Prop:=match x.live with | some (c,p,k)=>k.dem=x.dem∧p < c.n∧KickOk c k∧MemOk c m | none=>True
structure MemB (m:MemM) : Prop where
 len:m.cells.length≤564
 u:∀ x ∈ m.cells,U64 x
theorem MemB.tick {m:MemM} (h:MemB m) : MemB m.tick:=⟨h.len,h.u⟩
theorem MemB.put {m:MemM} (h:MemB m) (a:Nat) {v:Int} (hv:U64 v) : MemB (m.put a v) :=
 ⟨by simp only [MemM.put,List.length_set]; exact h.len,fun x hx=>by
  rcases List.mem_or_eq_of_mem_set hx with hx | rfl
  ·exact h.u x hx
  ·exact hv⟩
theorem kickStep_done {c:Cfg} {p:Nat} {k:KickS} {m:MemM} (h:k.st=0) : kickStep c p k m=(k,m):=by
 obtain ⟨dem,gg,st,was,put⟩:=k
 have e:st=0:=h
 subst e
 rfl
theorem kickStep_dem {c:Cfg} {p:Nat} {k:KickS} {m:MemM} : (kickStep c p k m).1.dem=k.dem:=by
 unfold kickStep
 split
 ·rfl
 ·split
  ·rfl
  ·split <;> rfl
 ·split <;> rfl
 ·rfl
theorem MemOk.toB {c:Cfg} {m:MemM} (h:MemOk c m) : MemB m:=⟨h.big,h.u⟩
theorem XS.step_ok {x:XS} {m:MemM} (h:x.Ok m) (hm:MemB m) : (x.step m).1.Ok (x.step m).2∧MemB (x.step m).2∧(x.step m).1.dem=x.dem:=by
 obtain ⟨dem,live⟩:=x
 cases live with
 | none=>exact ⟨h,hm,rfl⟩
 | some y =>
  obtain ⟨c,p,k⟩:=y
  obtain ⟨h1,h2,h3,h4⟩:=h
  have h5:=kickStep_ok h2 h3 h4
  exact ⟨⟨kickStep_dem.trans h1,h2,h5.1,h5.2⟩,h5.2.toB,rfl⟩
theorem XS.put_ok {x:XS} {m:MemM} (h:x.Ok m) (a:Nat) {v:Int} (hv:U64 v) : x.Ok (m.put a v):=by
 obtain ⟨dem,live⟩:=x
 cases live with
 | none=>exact h
 | some y =>
  obtain ⟨c,p,k⟩:=y
  obtain ⟨h1,h2,h3,h4⟩:=h
  exact ⟨h1,h2,h3,h4.put a hv⟩
def xP (bx:Nat) (x:XS) : Ev.Asr:=match x.live with | some (c,p,k)=>machA c p bx k | none=>deadA x.dem bx
def xA (bx:Nat) (x:XS) : Ev.Asr where
 p:=fun _ F w=>(xP bx x).p (fun _=>none) F w
 keep:=fun _ F w w' hk h=>(xP bx x).keep (fun _=>none) F w w' hk h
 mono:=fun _ _ _ _ _ h=>h
def xW (x:XS) (v:Value) : Ev.Asr where
 p:=fun ι F w=>∃ bp,v=.pointer (some ⟨bp,0,none⟩)∧(xA bp x).p ι F w
 keep:=fun ι F w w' hk ⟨bp,e,h⟩=>⟨bp,e,(xA bp x).keep ι F w w' hk h⟩
 mono:=fun ι κ F w hle ⟨bp,e,h⟩=>⟨bp,e,(xA bp x).mono ι κ F w hle h⟩
theorem hold_xW {x:XS} {v:Value} {ctx:Ev.Ctx} {l:List Ev.Asr} {w:World} (h:Ev.Hold ctx (xW x v::l) w) : ∃ bp,v=.pointer (some ⟨bp,0,none⟩)∧Ev.Hold ctx (xA bp x::l) w :=
 h.headE (b:=fun bp=>xA bp x) (p:=fun bp=>v=.pointer (some ⟨bp,0,none⟩)) (fun F ⟨bp,e,h⟩=>⟨bp,e,h⟩)
theorem xW_hold {x:XS} {bp:Nat} {ctx:Ev.Ctx} {l:List Ev.Asr} {w:World} (h:Ev.Hold ctx (xA bp x::l) w) : Ev.Hold ctx (xW x (.pointer (some ⟨bp,0,none⟩))::l) w :=
 h.head (fun F h=>⟨bp,rfl,h⟩)
theorem dead_x {dem:Bool} {bx:Nat} {a:DeadI} {ctx:Ev.Ctx} {l:List Ev.Asr} {w:World} (h:Ev.Hold ctx (Ev.blkA bx (deadC a dem) (kickT dem)::l) w) : Ev.Hold ctx (xA bx ⟨dem,none⟩::l) w:=Ev.Hold.putX (a:=fun a:DeadI=>Ev.blkA bx (deadC a dem) (kickT dem)) a trivial h
theorem x_dead {dem:Bool} {bx:Nat} {ctx:Ev.Ctx} {l:List Ev.Asr} {w:World} (h:Ev.Hold ctx (xA bx ⟨dem,none⟩::l) w) : ∃ a:DeadI,Ev.Hold ctx (Ev.blkA bx (deadC a dem) (kickT dem)::l) w:=by
 obtain ⟨a,_,h1⟩:=Ev.Hold.getX (a:=fun a:DeadI=>Ev.blkA bx (deadC a dem) (kickT dem)) h
 exact ⟨a,h1⟩
theorem xd_done {w:World} {F:Nat→Prop} {x:XS} {bx:Nat} {m:MemM} (hd:x.dem=true) (hx:x.Ok m) (h:Ev.Now [xA bx x] F w) :
  Calls Try.prog 118 #[.pointer (some ⟨bx,0,none⟩)] w fun e w'=>e=.returned (.bool (decide (x.st=0)))∧Ev.Hold ⟨w,F⟩ [xA bx x] w':=by
 obtain ⟨dem,live⟩:=x
 have hd':dem=true:=hd
 subst hd'
 cases live with
 | none =>
  obtain ⟨a,hh⟩:=x_dead (Ev.Hold.start h)
  obtain ⟨F',n1,n2,n3⟩:=hh.ex
  exact startP (ndA ⟨w,F',a.a0,a.a1,a.a2,a.a3,a.a4,a.a5,a.a6,a.nx,0,a.was,a.g,.pointer none,rfl,bx,0,Nat.zero_le _⟩) (by kernel_rfl) n1 (by simp) (by simp) (fun κ w1 h1=>⟨rfl,dead_x (dem:=true) (a:=a) (h1.into (l:=[]) n2 n3)⟩)
 | some y =>
  obtain ⟨c,p,k⟩:=y
  obtain ⟨h1,h2,h3,h4⟩:=hx
  exact demote_done h1 h3 h
theorem xd_kicked {w:World} {F:Nat→Prop} {x:XS} {bx:Nat} {m:MemM} (hd:x.dem=true) (hx:x.Ok m) (h:Ev.Now [xA bx x] F w) :
  Calls Try.prog 120 #[.pointer (some ⟨bx,0,none⟩)] w fun e w'=>e=.returned (.bool x.kicked)∧Ev.Hold ⟨w,F⟩ [xA bx x] w':=by
 obtain ⟨dem,live⟩:=x
 have hd':dem=true:=hd
 subst hd'
 cases live with
 | none =>
  obtain ⟨a,hh⟩:=x_dead (Ev.Hold.start h)
  obtain ⟨F',n1,n2,n3⟩:=hh.ex
  exact startP (ndC ⟨w,F',a.a0,a.a1,a.a2,a.a3,a.a4,a.a5,a.a6,a.nx,0,a.was,a.g,.pointer none,rfl,bx,0,Nat.zero_le _⟩) (by kernel_rfl) n1 (by simp) (by simp) (fun κ w1 h1=>⟨rfl,dead_x (dem:=true) (a:=a) (h1.into (l:=[]) n2 n3)⟩)
 | some y =>
  obtain ⟨c,p,k⟩:=y
  obtain ⟨h1,h2,h3,h4⟩:=hx
  exact demote_kicked h2 h1 h3 h
theorem xd_over {w:World} {F:Nat→Prop} {x:XS} {bx:Nat} {m:MemM} (hd:x.dem=true) (hx:x.Ok m) (h:Ev.Now [xA bx x] F w) :
  Calls Try.prog 121 #[.pointer (some ⟨bx,0,none⟩)] w fun e w'=>∃ v cd,Ev.dec cd=v∧e=.returned v∧Ev.Hold ⟨w,F⟩ [isA v x.over,xA bx x] w':=by
 obtain ⟨dem,live⟩:=x
 have hd':dem=true:=hd
 subst hd'
 cases live with
 | none =>
  obtain ⟨a,hh⟩:=x_dead (Ev.Hold.start h)
  obtain ⟨F',n1,n2,n3⟩:=hh.ex
  exact startP (ndE ⟨w,F',a.a0,a.a1,a.a2,a.a3,a.a4,a.a5,a.a6,a.nx,0,a.was,a.g,.pointer none,rfl,bx,0,Nat.zero_le _⟩) (by kernel_rfl) n1 (by simp) (by simp) (fun κ w1 h1=>⟨_,_,Ev.dec_slice0,rfl,(dead_x (dem:=true) (a:=a) (h1.into (l:=[]) n2 n3)).nilSl (e := 3) (sz:=1)⟩)
 | some y =>
  obtain ⟨c,p,k⟩:=y
  obtain ⟨h1,h2,h3,h4⟩:=hx
  exact demote_over h2 h1 h3 h
theorem xd_hands {w:World} {F:Nat→Prop} {x:XS} {bx:Nat} {m:MemM} (hd:x.dem=true) (hx:x.Ok m) (h:Ev.Now [xA bx x] F w) :
  Calls Try.prog 119 #[.pointer (some ⟨bx,0,none⟩)] w fun e w'=>∃ v cd,Ev.dec cd=v∧e=.returned v∧Ev.Hold ⟨w,F⟩ [isA v x.hands,xA bx x] w':=by
 obtain ⟨dem,live⟩:=x
 have hd':dem=true:=hd
 subst hd'
 cases live with
 | none =>
  obtain ⟨a,hh⟩:=x_dead (Ev.Hold.start h)
  obtain ⟨F',n1,n2,n3⟩:=hh.ex
  exact startP (ndG ⟨w,F',a.a0,a.a1,a.a2,a.a3,a.a4,a.a5,a.a6,a.nx,0,a.was,a.g,.pointer none,rfl,bx,0,Nat.zero_le _⟩) (by kernel_rfl) n1 (by simp) (by simp) (fun κ w1 h1=>⟨_,_,Ev.dec_slice0,rfl,(dead_x (dem:=true) (a:=a) (h1.into (l:=[]) n2 n3)).nilSl (e := 3) (sz:=1)⟩)
 | some y =>
  obtain ⟨c,p,k⟩:=y
  obtain ⟨h1,h2,h3,h4⟩:=hx
  exact demote_hands h2 h1 h3 h
theorem xd_step {w:World} {F:Nat→Prop} {x:XS} {bx bm:Nat} {m:MemM} (hd:x.dem=true) (hx:x.Ok m) (h:Ev.Now [xA bx x,memA bm m] F w) :
  Calls Try.prog 122 #[.pointer (some ⟨bx,0,none⟩),.pointer (some ⟨bm,0,none⟩)] w fun e w'=>e=.returned (.bool (decide ((x.step m).1.st=0)))∧Ev.Hold ⟨w,F⟩ [xA bx (x.step m).1,memA bm (x.step m).2] w':=by
 obtain ⟨dem,live⟩:=x
 have hd':dem=true:=hd
 subst hd'
 cases live with
 | none =>
  obtain ⟨a,hh⟩:=x_dead (Ev.Hold.start h)
  obtain ⟨F',n1,n2,n3⟩:=hh.ex
  obtain ⟨F1,F2,k1,k2,k3,k4⟩:=Ev.now_split (l:=[Ev.blkA bx (deadC a true) (kickT true)]) n1
  refine startP (ndZ ⟨w,F1,a.a0,a.a1,a.a2,a.a3,a.a4,a.a5,a.a6,a.nx,0,a.was,a.g,.pointer none,rfl,bx,bm,Nat.zero_le _⟩) (by kernel_rfl) k1 (by simp) (by simp) (fun κ w1 h1=>⟨rfl,?_⟩)
  exact dead_x (dem:=true) (a:=a) ((h1.frame k2 k3).into (l:=[]) n2 (fun j hj=>n3 j ((k4 j).2 hj)))
 | some y =>
  obtain ⟨c,p,k⟩:=y
  obtain ⟨h1,h2,h3,h4⟩:=hx
  by_cases h0:k.st=0
  ·show Calls _ _ _ _ (fun e w'=>e=.returned (.bool (decide ((kickStep c p k m).1.st=0)))∧Ev.Hold ⟨w,F⟩ [machA c p bx (kickStep c p k m).1,memA bm (kickStep c p k m).2] w')
   rw [kickStep_done h0]
   obtain ⟨pv,lpv,rest,hh,hback⟩:=mach_any (Ev.Hold.start h)
   obtain ⟨F',n1,n2,n3⟩:=hh.ex
   obtain ⟨F1,F2,k1,k2,k3,k4⟩:=Ev.now_split (l:=[Ev.blkA bx (kickC c p k pv) (kickT k.dem)]) n1
   obtain ⟨dem,gg,st,was,put⟩:=k
   have e0:st=0:=h0
   subst e0
   have e1:dem=true:=h1
   subst e1
   refine startP (ndZ ⟨w,F1,c.n,c.q,c.g,c.m,c.t,c.s,p,KickS.nx ⟨true,gg,0,was,put⟩,0,was,gg,pv,lpv,bx,bm,h3.st⟩) (by kernel_rfl) k1 (by simp) (by simp) (fun κ w1 h1=>⟨rfl,?_⟩)
   exact hback w1 ((h1.frame k2 k3).into (l:=[]) n2 (fun j hj=>n3 j ((k4 j).2 hj)))
  ·exact demote_step h2 h1 h3 h0 h4 h
theorem xr_done {w:World} {F:Nat→Prop} {x:XS} {bx:Nat} {m:MemM} (hd:x.dem=false) (hx:x.Ok m) (h:Ev.Now [xA bx x] F w) :
  Calls Try.prog 88 #[.pointer (some ⟨bx,0,none⟩)] w fun e w'=>e=.returned (.bool (decide (x.st=0)))∧Ev.Hold ⟨w,F⟩ [xA bx x] w':=by
 obtain ⟨dem,live⟩:=x
 have hd':dem=false:=hd
 subst hd'
 cases live with
 | none =>
  obtain ⟨a,hh⟩:=x_dead (Ev.Hold.start h)
  obtain ⟨F',n1,n2,n3⟩:=hh.ex
  exact startP (nrA ⟨w,F',a.a0,a.a1,a.a2,a.a3,a.a4,a.a5,a.a6,a.nx,0,a.was,a.g,.pointer none,rfl,bx,0,Nat.zero_le _⟩) (by kernel_rfl) n1 (by simp) (by simp) (fun κ w1 h1=>⟨rfl,dead_x (dem:=false) (a:=a) (h1.into (l:=[]) n2 n3)⟩)
 | some y =>
  obtain ⟨c,p,k⟩:=y
  obtain ⟨h1,h2,h3,h4⟩:=hx
  exact ready_done h1 h3 h
theorem xr_kicked {w:World} {F:Nat→Prop} {x:XS} {bx:Nat} {m:MemM} (hd:x.dem=false) (hx:x.Ok m) (h:Ev.Now [xA bx x] F w) :
  Calls Try.prog 50 #[.pointer (some ⟨bx,0,none⟩)] w fun e w'=>e=.returned (.bool x.kicked)∧Ev.Hold ⟨w,F⟩ [xA bx x] w':=by
 obtain ⟨dem,live⟩:=x
 have hd':dem=false:=hd
 subst hd'
 cases live with
 | none =>
  obtain ⟨a,hh⟩:=x_dead (Ev.Hold.start h)
  obtain ⟨F',n1,n2,n3⟩:=hh.ex
  exact startP (nrC ⟨w,F',a.a0,a.a1,a.a2,a.a3,a.a4,a.a5,a.a6,a.nx,0,a.was,a.g,.pointer none,rfl,bx,0,Nat.zero_le _⟩) (by kernel_rfl) n1 (by simp) (by simp) (fun κ w1 h1=>⟨rfl,dead_x (dem:=false) (a:=a) (h1.into (l:=[]) n2 n3)⟩)
 | some y =>
  obtain ⟨c,p,k⟩:=y
  obtain ⟨h1,h2,h3,h4⟩:=hx
  exact ready_kicked h2 h1 h3 h
theorem xr_over {w:World} {F:Nat→Prop} {x:XS} {bx:Nat} {m:MemM} (hd:x.dem=false) (hx:x.Ok m) (h:Ev.Now [xA bx x] F w) :
  Calls Try.prog 29 #[.pointer (some ⟨bx,0,none⟩)] w fun e w'=>∃ v cd,Ev.dec cd=v∧e=.returned v∧Ev.Hold ⟨w,F⟩ [isA v x.over,xA bx x] w':=by
 obtain ⟨dem,live⟩:=x
 have hd':dem=false:=hd
 subst hd'
 cases live with
 | none =>
  obtain ⟨a,hh⟩:=x_dead (Ev.Hold.start h)
  obtain ⟨F',n1,n2,n3⟩:=hh.ex
  exact startP (nrE ⟨w,F',a.a0,a.a1,a.a2,a.a3,a.a4,a.a5,a.a6,a.nx,0,a.was,a.g,.pointer none,rfl,bx,0,Nat.zero_le _⟩) (by kernel_rfl) n1 (by simp) (by simp) (fun κ w1 h1=>⟨_,_,Ev.dec_slice0,rfl,(dead_x (dem:=false) (a:=a) (h1.into (l:=[]) n2 n3)).nilSl (e := 3) (sz:=1)⟩)
 | some y =>
  obtain ⟨c,p,k⟩:=y
  obtain ⟨h1,h2,h3,h4⟩:=hx
  exact ready_over h2 h1 h3 h
theorem xr_hands {w:World} {F:Nat→Prop} {x:XS} {bx:Nat} {m:MemM} (hd:x.dem=false) (hx:x.Ok m) (h:Ev.Now [xA bx x] F w) :
  Calls Try.prog 89 #[.pointer (some ⟨bx,0,none⟩)] w fun e w'=>∃ v cd,Ev.dec cd=v∧e=.returned v∧Ev.Hold ⟨w,F⟩ [isA v x.hands,xA bx x] w':=by
 obtain ⟨dem,live⟩:=x
 have hd':dem=false:=hd
 subst hd'
 cases live with
 | none =>
  obtain ⟨a,hh⟩:=x_dead (Ev.Hold.start h)
  obtain ⟨F',n1,n2,n3⟩:=hh.ex
  exact startP (nrG ⟨w,F',a.a0,a.a1,a.a2,a.a3,a.a4,a.a5,a.a6,a.nx,0,a.was,a.g,.pointer none,rfl,bx,0,Nat.zero_le _⟩) (by kernel_rfl) n1 (by simp) (by simp) (fun κ w1 h1=>⟨_,_,Ev.dec_slice0,rfl,(dead_x (dem:=false) (a:=a) (h1.into (l:=[]) n2 n3)).nilSl (e := 3) (sz:=1)⟩)
 | some y =>
  obtain ⟨c,p,k⟩:=y
  obtain ⟨h1,h2,h3,h4⟩:=hx
  exact ready_hands h2 h1 h3 h
theorem xr_step {w:World} {F:Nat→Prop} {x:XS} {bx bm:Nat} {m:MemM} (hd:x.dem=false) (hx:x.Ok m) (h:Ev.Now [xA bx x,memA bm m] F w) :
  Calls Try.prog 90 #[.pointer (some ⟨bx,0,none⟩),.pointer (some ⟨bm,0,none⟩)] w fun e w'=>e=.returned (.bool (decide ((x.step m).1.st=0)))∧Ev.Hold ⟨w,F⟩ [xA bx (x.step m).1,memA bm (x.step m).2] w':=by
 obtain ⟨dem,live⟩:=x
 have hd':dem=false:=hd
 subst hd'
 cases live with
 | none =>
  obtain ⟨a,hh⟩:=x_dead (Ev.Hold.start h)
  obtain ⟨F',n1,n2,n3⟩:=hh.ex
  obtain ⟨F1,F2,k1,k2,k3,k4⟩:=Ev.now_split (l:=[Ev.blkA bx (deadC a false) (kickT false)]) n1
  refine startP (nrZ ⟨w,F1,a.a0,a.a1,a.a2,a.a3,a.a4,a.a5,a.a6,a.nx,0,a.was,a.g,.pointer none,rfl,bx,bm,Nat.zero_le _⟩) (by kernel_rfl) k1 (by simp) (by simp) (fun κ w1 h1=>⟨rfl,?_⟩)
  exact dead_x (dem:=false) (a:=a) ((h1.frame k2 k3).into (l:=[]) n2 (fun j hj=>n3 j ((k4 j).2 hj)))
 | some y =>
  obtain ⟨c,p,k⟩:=y
  obtain ⟨h1,h2,h3,h4⟩:=hx
  by_cases h0:k.st=0
  ·show Calls _ _ _ _ (fun e w'=>e=.returned (.bool (decide ((kickStep c p k m).1.st=0)))∧Ev.Hold ⟨w,F⟩ [machA c p bx (kickStep c p k m).1,memA bm (kickStep c p k m).2] w')
   rw [kickStep_done h0]
   obtain ⟨pv,lpv,rest,hh,hback⟩:=mach_any (Ev.Hold.start h)
   obtain ⟨F',n1,n2,n3⟩:=hh.ex
   obtain ⟨F1,F2,k1,k2,k3,k4⟩:=Ev.now_split (l:=[Ev.blkA bx (kickC c p k pv) (kickT k.dem)]) n1
   obtain ⟨dem,gg,st,was,put⟩:=k
   have e0:st=0:=h0
   subst e0
   have e1:dem=false:=h1
   subst e1
   refine startP (nrZ ⟨w,F1,c.n,c.q,c.g,c.m,c.t,c.s,p,KickS.nx ⟨false,gg,0,was,put⟩,0,was,gg,pv,lpv,bx,bm,h3.st⟩) (by kernel_rfl) k1 (by simp) (by simp) (fun κ w1 h1=>⟨rfl,?_⟩)
   exact hback w1 ((h1.frame k2 k3).into (l:=[]) n2 (fun j hj=>n3 j ((k4 j).2 hj)))
  ·exact ready_step h2 h1 h3 h0 h4 h
def newR (c:Cfg) (p:Nat) (g:Int) : XS:=⟨false,some (c,p,⟨false,g,1,0,none⟩)⟩
section
variable {w:World} {F:Nat→Prop}
theorem newR_ok (c:Cfg) {p:Nat} (hp:p < c.n) (g:Int) (hg:0≤g∧g≤9223372036854775807) (h:Ev.Now [] F w) : Calls Try.prog 18 #[c.v,.int .i64 (p:Int),.int .i64 g] w fun e w'=>∃ v cd,Ev.dec cd=v∧e=.returned v∧Ev.Hold ⟨w,F⟩ [xW (newR c p g) v] w':=by
 refine startP (nwrok w F c p hp g hg) (by kernel_rfl) h (by simp) (by simp) (fun κ w1 h1=>⟨_,_,Ev.dec_ptr _ _,rfl,xW_hold ?_⟩)
 exact none_mach (c:=c) (p:=p) (k:=⟨false,g,1,0,none⟩) rfl h1
theorem newR_no (c:Cf) (p:Int) (hc:c.ok=false) (g:Int) (hg:0≤g∧g≤9223372036854775807) (h:Ev.Now [] F w) : Calls Try.prog 18 #[c.v,.int .i64 p,.int .i64 g] w fun e w'=>∃ v cd,Ev.dec cd=v∧e=.returned v∧Ev.Hold ⟨w,F⟩ [xW ⟨false,none⟩ v] w':=by
 refine startP (nwrno w F c p hc g hg) (by kernel_rfl) h (by simp) (by simp) (fun κ w1 h1=>⟨_,_,Ev.dec_ptr _ _,rfl,xW_hold ?_⟩)
 exact dead_x (dem:=false) (a:=⟨c.n,c.q,c.g,c.m,c.t,c.s,p,g+1,0,g⟩) h1
theorem newR_off (c:Cfg) (p:Int) (hp:¬ (0≤p∧p < c.n)) (g:Int) (hg:0≤g∧g≤9223372036854775807) (h:Ev.Now [] F w) : Calls Try.prog 18 #[c.v,.int .i64 p,.int .i64 g] w fun e w'=>∃ v cd,Ev.dec cd=v∧e=.returned v∧Ev.Hold ⟨w,F⟩ [xW ⟨false,none⟩ v] w':=by
 refine startP (nwroff w F c p hp g hg) (by kernel_rfl) h (by simp) (by simp) (fun κ w1 h1=>⟨_,_,Ev.dec_ptr _ _,rfl,xW_hold ?_⟩)
 exact dead_x (dem:=false) (a:=⟨c.n,c.q,c.g,c.m,c.t,c.s,p,g+1,0,g⟩) h1
theorem newR_neg (c:Cf) (p:Int) (g:Int) (hg:¬ 0≤g) (h:Ev.Now [] F w) : Calls Try.prog 18 #[c.v,.int .i64 p,.int .i64 g] w fun e w'=>∃ v cd,Ev.dec cd=v∧e=.returned v∧Ev.Hold ⟨w,F⟩ [xW ⟨false,none⟩ v] w':=by
 refine startP (nwrneg w F c p g hg) (by kernel_rfl) h (by simp) (by simp) (fun κ w1 h1=>⟨_,_,Ev.dec_ptr _ _,rfl,xW_hold ?_⟩)
 exact dead_x (dem:=false) (a:=⟨0,0,0,0,0,0,0,0,0,0⟩) h1
end
end Go.Proofs.Ytbcnbofkgkheeaa
namespace Go.Proofs.Ytbcnbofkgkheeaa
open Go.RowKit
open Go.Ev (sy)
set_option linter.unusedVariables false
set_option linter.unusedSimpArgs false
set_option maxRecDepth 8000
def putI (c:Cfg) (p:Nat) (o:Option PutS) (i:Nat) : Int :=
 match o with
 | none=>0
 | some x=>if 0≤x.gg then (match i with | 12=>c.n | 13=>c.q | 14=>c.g | 15=>c.m | 16=>c.t | 17=>c.s | 18=>p | 19=>x.gg | 20=>x.st | _=>x.w) else 0
def kickI (c:Cfg) (p:Nat) (k:KickS) (i:Nat) : Int :=
 match i with | 0=>c.n | 1=>c.q | 2=>c.g | 3=>c.m | 4=>c.t | 5=>c.s | 6=>p | 7=>k.gg | 9=>k.st | 10=>k.was | i=>putI c p k.put i
def XS.yi (x:XS) (i:Nat) : Int:=match x.live with | some (c,p,k)=>kickI c p k i | none=>0
def XS.dm (x:XS) : Bool:=match x.live with | some (_,_,k)=>k.dem | none=>false
def XS.ts (x:XS) : List Int:=match x.live with | some (_,_,k)=>(match k.put with | some y=>y.ts | none=>[]) | none=>[]
def XS.hs (x:XS) : List Int:=match x.live with | some (_,_,k)=>(match k.put with | some y=>y.hs | none=>[]) | none=>[]
def yV (x:XS) (tk hd:Value) : Array Value:=#[.int .i64 (x.yi 0),.int .i64 (x.yi 1),.int .i64 (x.yi 2),.int .i64 (x.yi 3),.int .i64 (x.yi 4),.int .i64 (x.yi 5),.int .i64 (x.yi 6),.int .i64 (x.yi 7),.bool x.dm,.int .i64 (x.yi 9),.int .u64 (x.yi 10),.bool x.kicked,.int .i64 (x.yi 12),.int .i64 (x.yi 13),.int .i64 (x.yi 14),.int .i64 (x.yi 15),.int .i64 (x.yi 16),.int .i64 (x.yi 17),.int .i64 (x.yi 18),.int .i64 (x.yi 19),.int .i64 (x.yi 20),.int .u64 (x.yi 21),tk,hd]
theorem putStep_gg {c:Cfg} {p:Nat} {x:PutS} {m:MemM} : (putStep c p x m).1.gg=x.gg:=by
 unfold putStep
 split
 ·rfl
 ·rfl
 ·split <;> rfl
 ·rfl
 ·split <;> rfl
 ·rfl
section
variable {w:World} {F:Nat→Prop}
theorem y_step {x:XS} {m:MemM} (hx:x.Ok m) (hm:MemB m) {rv tk hd:Value} (h:Ev.Now [cA rv m,isA tk x.ts,isA hd x.hs] F w) :
  Calls Try.prog 46 #[.agg (yV x tk hd),.agg #[rv,.int .u64 m.ops]] w fun e w'=>∃ v cd,Ev.dec cd=v∧e=.returned (.tuple #[.agg (yV (x.step m).1 (Ev.subV 1 v) (Ev.subV 2 v)),.agg #[Ev.subV 0 v,.int .u64 (x.step m).2.ops]])∧Ev.Hold ⟨w,F⟩ [cA (Ev.subV 0 v) (x.step m).2,isA (Ev.subV 1 v) (x.step m).1.ts,isA (Ev.subV 2 v) (x.step m).1.hs] w':=by
 have hst:=Ev.Hold.start h
 have lrv:Ev.leafV rv=true:=hold_leaf hst
 have ltk:Ev.leafV tk=true:=hold_leaf (hst.sel [1] (by kernel_rfl))
 have lhd:Ev.leafV hd=true:=hold_leaf (hst.sel [2] (by kernel_rfl))
 have hb:=hm.len
 have fin:∀ {x':XS} {m':MemM} {rv' tk' hd':Value} {r:Value} {w1:World},r=.tuple #[.agg (yV x' tk' hd'),.agg #[rv',.int .u64 m'.ops]]→Ev.Hold ⟨w,F⟩ [cA rv' m',isA tk' x'.ts,isA hd' x'.hs] w1→∃ v cd,Ev.dec cd=v∧Ending.returned r=.returned (.tuple #[.agg (yV x' (Ev.subV 1 v) (Ev.subV 2 v)),.agg #[Ev.subV 0 v,.int .u64 m'.ops]])∧Ev.Hold ⟨w,F⟩ [cA (Ev.subV 0 v) m',isA (Ev.subV 1 v) x'.ts,isA (Ev.subV 2 v) x'.hs] w1:=by
  intro x' m' rv' tk' hd' r w1 hr hh
  obtain ⟨v,cd,e,e0,e1,e2⟩:=out3 hh
  refine ⟨v,cd,e,by rw [hr,e0,e1,e2],?_⟩
  rw [e0,e1,e2]
  exact hh
 have setL:∀ (a:Nat) (v:Int),(m.put a v).cells.length=m.cells.length:=fun a v=>by show (m.cells.set a v).length=_; simp
 obtain ⟨xd,live⟩:=x
 cases live with
 | none =>
  let s:RD:=⟨w,F,rv,tk,hd,lrv,ltk,lhd,m,[],[]⟩
  exact startP (yX s) (by kernel_rfl) h (by simp) (by simp [s,yV,XS.yi,XS.dm,XS.kicked]) (fun κ w1 h1=>fin (x':=⟨xd,none⟩) (m':=m) (by rfl) h1)
 | some y =>
  obtain ⟨c,p,k⟩:=y
  obtain ⟨h1,hp,hk,hmc⟩:=hx
  have hw:=hmc.get (hmc.lt_next hp)
  have hl:=hmc.len
  have hgk:=hk.gg
  have hwas:=hk.was
  have hst4:=hk.st
  have hp12:=hk.p12
  have hp3:=hk.p3
  have hput:=hk.put
  obtain ⟨dem,gg,st,was,put⟩:=k
  let s:RK:=⟨w,F,c,p,hp,gg,was,hwas,rv,tk,hd,lrv,ltk,lhd,m,XS.ts ⟨xd,some (c,p,⟨dem,gg,st,was,put⟩)⟩,XS.hs ⟨xd,some (c,p,⟨dem,gg,st,was,put⟩)⟩,hl,by omega,putI c p put 12,putI c p put 13,putI c p put 14,putI c p put 15,putI c p put 16,putI c p put 17,putI c p put 18,putI c p put 19,putI c p put 20,putI c p put 21⟩
  match st,hst4 with
  | 0,_ =>
   show Calls _ _ _ _ (fun e w'=>∃ v cd,Ev.dec cd=v∧e=.returned (.tuple #[.agg (yV ⟨xd,some (c,p,(kickStep c p ⟨dem,gg,0,was,put⟩ m).1)⟩ (Ev.subV 1 v) (Ev.subV 2 v)),.agg #[Ev.subV 0 v,.int .u64 (kickStep c p ⟨dem,gg,0,was,put⟩ m).2.ops]])∧Ev.Hold ⟨w,F⟩ [cA (Ev.subV 0 v) (kickStep c p ⟨dem,gg,0,was,put⟩ m).2,isA (Ev.subV 1 v) (XS.ts ⟨xd,some (c,p,(kickStep c p ⟨dem,gg,0,was,put⟩ m).1)⟩),isA (Ev.subV 2 v) (XS.hs ⟨xd,some (c,p,(kickStep c p ⟨dem,gg,0,was,put⟩ m).1)⟩)] w')
   rw [kickStep_done rfl]
   cases dem with
   | true =>
    cases put with
    | none=>exact startP (y0dn s) (by kernel_rfl) h (by simp) (by simp [s,yV,XS.yi,XS.dm,XS.kicked,kickI,putI]) (fun κ w1 h1=>fin (x':=⟨xd,some (c,p,⟨true,gg,0,was,none⟩)⟩) (m':=m) (by rfl) h1)
    | some y=>exact startP (y0dk s) (by kernel_rfl) h (by simp) (by simp [s,yV,XS.yi,XS.dm,XS.kicked,kickI,putI]) (fun κ w1 h1=>fin (x':=⟨xd,some (c,p,⟨true,gg,0,was,some y⟩)⟩) (m':=m) (by rfl) h1)
   | false =>
    cases put with
    | none=>exact startP (y0rn s) (by kernel_rfl) h (by simp) (by simp [s,yV,XS.yi,XS.dm,XS.kicked,kickI,putI]) (fun κ w1 h1=>fin (x':=⟨xd,some (c,p,⟨false,gg,0,was,none⟩)⟩) (m':=m) (by rfl) h1)
    | some y=>exact startP (y0rk s) (by kernel_rfl) h (by simp) (by simp [s,yV,XS.yi,XS.dm,XS.kicked,kickI,putI]) (fun κ w1 h1=>fin (x':=⟨xd,some (c,p,⟨false,gg,0,was,some y⟩)⟩) (m':=m) (by rfl) h1)
  | 1,_ =>
   have e:put=none:=hp12 (.inl rfl)
   subst e
   cases dem with
   | true =>
    by_cases hz:ld m (c.word p+1)=0
    ·
     show Calls _ _ _ _ (fun e w'=>∃ v cd,Ev.dec cd=v∧e=.returned (.tuple #[.agg (yV ⟨xd,some (c,p,(kickStep c p ⟨true,gg,1,was,none⟩ m).1)⟩ (Ev.subV 1 v) (Ev.subV 2 v)),.agg #[Ev.subV 0 v,.int .u64 (kickStep c p ⟨true,gg,1,was,none⟩ m).2.ops]])∧Ev.Hold ⟨w,F⟩ [cA (Ev.subV 0 v) (kickStep c p ⟨true,gg,1,was,none⟩ m).2,isA (Ev.subV 1 v) (XS.ts ⟨xd,some (c,p,(kickStep c p ⟨true,gg,1,was,none⟩ m).1)⟩),isA (Ev.subV 2 v) (XS.hs ⟨xd,some (c,p,(kickStep c p ⟨true,gg,1,was,none⟩ m).1)⟩)] w')
     rw [show kickStep c p ⟨true,gg,1,was,none⟩ m=(⟨true,gg,0,ld m (c.word p+1),none⟩,m.tick) by simp [kickStep,hz]]
     refine startP (y1dz s _ hw.2 hw.1 hz) (by kernel_rfl) h (by simp) (by simp [s,yV,XS.yi,XS.dm,XS.kicked,kickI,putI]) (fun κ w1 h1=>fin (x':=⟨xd,some (c,p,⟨true,gg,0,ld m (c.word p+1),none⟩)⟩) (m':=m.tick) (by first | rfl | (simp only [yV,XS.yi,XS.dm,XS.kicked,kickI,putI]; rfl)) ?_)
     exact h1
    ·
     show Calls _ _ _ _ (fun e w'=>∃ v cd,Ev.dec cd=v∧e=.returned (.tuple #[.agg (yV ⟨xd,some (c,p,(kickStep c p ⟨true,gg,1,was,none⟩ m).1)⟩ (Ev.subV 1 v) (Ev.subV 2 v)),.agg #[Ev.subV 0 v,.int .u64 (kickStep c p ⟨true,gg,1,was,none⟩ m).2.ops]])∧Ev.Hold ⟨w,F⟩ [cA (Ev.subV 0 v) (kickStep c p ⟨true,gg,1,was,none⟩ m).2,isA (Ev.subV 1 v) (XS.ts ⟨xd,some (c,p,(kickStep c p ⟨true,gg,1,was,none⟩ m).1)⟩),isA (Ev.subV 2 v) (XS.hs ⟨xd,some (c,p,(kickStep c p ⟨true,gg,1,was,none⟩ m).1)⟩)] w')
     rw [show kickStep c p ⟨true,gg,1,was,none⟩ m=(⟨true,gg,2,ld m (c.word p+1),none⟩,m.tick) by simp only [kickStep]; rw [if_neg (fun h=>hz h.2)]]
     refine startP (y1dn s _ hw.2 hw.1 hz) (by kernel_rfl) h (by simp) (by simp [s,yV,XS.yi,XS.dm,XS.kicked,kickI,putI]) (fun κ w1 h1=>fin (x':=⟨xd,some (c,p,⟨true,gg,2,ld m (c.word p+1),none⟩)⟩) (m':=m.tick) (by first | rfl | (simp only [yV,XS.yi,XS.dm,XS.kicked,kickI,putI]; rfl)) ?_)
     exact h1
   | false =>
    show Calls _ _ _ _ (fun e w'=>∃ v cd,Ev.dec cd=v∧e=.returned (.tuple #[.agg (yV ⟨xd,some (c,p,(kickStep c p ⟨false,gg,1,was,none⟩ m).1)⟩ (Ev.subV 1 v) (Ev.subV 2 v)),.agg #[Ev.subV 0 v,.int .u64 (kickStep c p ⟨false,gg,1,was,none⟩ m).2.ops]])∧Ev.Hold ⟨w,F⟩ [cA (Ev.subV 0 v) (kickStep c p ⟨false,gg,1,was,none⟩ m).2,isA (Ev.subV 1 v) (XS.ts ⟨xd,some (c,p,(kickStep c p ⟨false,gg,1,was,none⟩ m).1)⟩),isA (Ev.subV 2 v) (XS.hs ⟨xd,some (c,p,(kickStep c p ⟨false,gg,1,was,none⟩ m).1)⟩)] w')
    rw [show kickStep c p ⟨false,gg,1,was,none⟩ m=(⟨false,gg,2,ld m (c.word p+1),none⟩,m.tick) by simp only [kickStep]; rw [if_neg (fun h=>by cases h.1)]]
    refine startP (y1r s _ hw.2 hw.1) (by kernel_rfl) h (by simp) (by simp [s,yV,XS.yi,XS.dm,XS.kicked,kickI,putI]) (fun κ w1 h1=>fin (x':=⟨xd,some (c,p,⟨false,gg,2,ld m (c.word p+1),none⟩)⟩) (m':=m.tick) (by first | rfl | (simp only [yV,XS.yi,XS.dm,XS.kicked,kickI,putI]; rfl)) ?_)
    exact h1
  | 2,_ =>
   have e:put=none:=hp12 (.inr rfl)
   subst e
   cases dem with
   | true =>
    by_cases hz:was=0
    ·have hz2:¬ was ≠ 0:=fun h=>h hz
     show Calls _ _ _ _ (fun e w'=>∃ v cd,Ev.dec cd=v∧e=.returned (.tuple #[.agg (yV ⟨xd,some (c,p,(kickStep c p ⟨true,gg,2,was,none⟩ m).1)⟩ (Ev.subV 1 v) (Ev.subV 2 v)),.agg #[Ev.subV 0 v,.int .u64 (kickStep c p ⟨true,gg,2,was,none⟩ m).2.ops]])∧Ev.Hold ⟨w,F⟩ [cA (Ev.subV 0 v) (kickStep c p ⟨true,gg,2,was,none⟩ m).2,isA (Ev.subV 1 v) (XS.ts ⟨xd,some (c,p,(kickStep c p ⟨true,gg,2,was,none⟩ m).1)⟩),isA (Ev.subV 2 v) (XS.hs ⟨xd,some (c,p,(kickStep c p ⟨true,gg,2,was,none⟩ m).1)⟩)] w')
     rw [show kickStep c p ⟨true,gg,2,was,none⟩ m=(⟨true,gg,0,was,none⟩,m.put (c.word p+1) (KickS.nx ⟨true,gg,2,was,none⟩)) by simp only [kickStep]; rw [if_pos hz]]
     refine startP (y2dz s hz2) (by kernel_rfl) h (by simp) (by simp [s,yV,XS.yi,XS.dm,XS.kicked,kickI,putI]) (fun κ w1 h1=>fin (x':=⟨xd,some (c,p,⟨true,gg,0,was,none⟩)⟩) (m':=m.put (c.word p+1) (KickS.nx ⟨true,gg,2,was,none⟩)) (by first | rfl | (simp only [yV,XS.yi,XS.dm,XS.kicked,kickI,putI]; rfl)) ?_)
     show Ev.Hold _ [Ev.slA _ 1 _ (m.put _ _).cells.length _,_,_] _
     rw [setL]
     exact h1
    ·by_cases hg:0≤IntKind.i64.wrap (was - 1)
     ·
      show Calls _ _ _ _ (fun e w'=>∃ v cd,Ev.dec cd=v∧e=.returned (.tuple #[.agg (yV ⟨xd,some (c,p,(kickStep c p ⟨true,gg,2,was,none⟩ m).1)⟩ (Ev.subV 1 v) (Ev.subV 2 v)),.agg #[Ev.subV 0 v,.int .u64 (kickStep c p ⟨true,gg,2,was,none⟩ m).2.ops]])∧Ev.Hold ⟨w,F⟩ [cA (Ev.subV 0 v) (kickStep c p ⟨true,gg,2,was,none⟩ m).2,isA (Ev.subV 1 v) (XS.ts ⟨xd,some (c,p,(kickStep c p ⟨true,gg,2,was,none⟩ m).1)⟩),isA (Ev.subV 2 v) (XS.hs ⟨xd,some (c,p,(kickStep c p ⟨true,gg,2,was,none⟩ m).1)⟩)] w')
      rw [show kickStep c p ⟨true,gg,2,was,none⟩ m=(⟨true,gg,3,was,some ⟨1,IntKind.i64.wrap (was - 1),0,[],[IntKind.i64.wrap (was - 1)]⟩⟩,m.put (c.word p+1) (KickS.nx ⟨true,gg,2,was,none⟩)) by simp only [kickStep]; rw [if_neg hz,if_pos hg]]
      refine startP (y2dg s hz hg) (by kernel_rfl) h (by simp) (by simp [s,yV,XS.yi,XS.dm,XS.kicked,kickI,putI,if_pos hg]) (fun κ w1 h1=>fin (x':=⟨xd,some (c,p,⟨true,gg,3,was,some ⟨1,IntKind.i64.wrap (was - 1),0,[],[IntKind.i64.wrap (was - 1)]⟩⟩)⟩) (m':=m.put (c.word p+1) (KickS.nx ⟨true,gg,2,was,none⟩)) (by first | rfl | (simp only [yV,XS.yi,XS.dm,XS.kicked,kickI,putI,if_pos hg]; rfl)) ?_)
      show Ev.Hold _ [Ev.slA _ 1 _ (m.put _ _).cells.length _,_,_] _
      rw [setL]
      exact ((blk_isA (h1.sel [0,1] (by kernel_rfl))).nilSl (e := 3) (sz:=1)).sel [2,0,1] (by kernel_rfl)
     ·
      show Calls _ _ _ _ (fun e w'=>∃ v cd,Ev.dec cd=v∧e=.returned (.tuple #[.agg (yV ⟨xd,some (c,p,(kickStep c p ⟨true,gg,2,was,none⟩ m).1)⟩ (Ev.subV 1 v) (Ev.subV 2 v)),.agg #[Ev.subV 0 v,.int .u64 (kickStep c p ⟨true,gg,2,was,none⟩ m).2.ops]])∧Ev.Hold ⟨w,F⟩ [cA (Ev.subV 0 v) (kickStep c p ⟨true,gg,2,was,none⟩ m).2,isA (Ev.subV 1 v) (XS.ts ⟨xd,some (c,p,(kickStep c p ⟨true,gg,2,was,none⟩ m).1)⟩),isA (Ev.subV 2 v) (XS.hs ⟨xd,some (c,p,(kickStep c p ⟨true,gg,2,was,none⟩ m).1)⟩)] w')
      rw [show kickStep c p ⟨true,gg,2,was,none⟩ m=(⟨true,gg,0,was,some ⟨0,IntKind.i64.wrap (was - 1),0,[],[]⟩⟩,m.put (c.word p+1) (KickS.nx ⟨true,gg,2,was,none⟩)) by simp only [kickStep]; rw [if_neg hz,if_neg hg]]
      refine startP (y2db s hz hg) (by kernel_rfl) h (by simp) (by simp [s,yV,XS.yi,XS.dm,XS.kicked,kickI,putI,if_neg hg]) (fun κ w1 h1=>fin (x':=⟨xd,some (c,p,⟨true,gg,0,was,some ⟨0,IntKind.i64.wrap (was - 1),0,[],[]⟩⟩)⟩) (m':=m.put (c.word p+1) (KickS.nx ⟨true,gg,2,was,none⟩)) (by first | rfl | (simp only [yV,XS.yi,XS.dm,XS.kicked,kickI,putI,if_neg hg]; rfl)) ?_)
      show Ev.Hold _ [Ev.slA _ 1 _ (m.put _ _).cells.length _,_,_] _
      rw [setL]
      exact (((h1.sel [0] (by kernel_rfl)).nilSl (e := 3) (sz:=1)).nilSl (e := 3) (sz:=1)).sel [2,0,1] (by kernel_rfl)
   | false =>
    have hgg:0≤s.gg∧s.gg≤9223372036854775807:=hgk rfl
    by_cases hz:was=0
    ·have hz2:¬ was ≠ 0:=fun h=>h hz
     show Calls _ _ _ _ (fun e w'=>∃ v cd,Ev.dec cd=v∧e=.returned (.tuple #[.agg (yV ⟨xd,some (c,p,(kickStep c p ⟨false,gg,2,was,none⟩ m).1)⟩ (Ev.subV 1 v) (Ev.subV 2 v)),.agg #[Ev.subV 0 v,.int .u64 (kickStep c p ⟨false,gg,2,was,none⟩ m).2.ops]])∧Ev.Hold ⟨w,F⟩ [cA (Ev.subV 0 v) (kickStep c p ⟨false,gg,2,was,none⟩ m).2,isA (Ev.subV 1 v) (XS.ts ⟨xd,some (c,p,(kickStep c p ⟨false,gg,2,was,none⟩ m).1)⟩),isA (Ev.subV 2 v) (XS.hs ⟨xd,some (c,p,(kickStep c p ⟨false,gg,2,was,none⟩ m).1)⟩)] w')
     rw [show kickStep c p ⟨false,gg,2,was,none⟩ m=(⟨false,gg,0,was,none⟩,m.put (c.word p+1) (KickS.nx ⟨false,gg,2,was,none⟩)) by simp only [kickStep]; rw [if_pos hz]]
     refine startP (y2rz s hgg hz2) (by kernel_rfl) h (by simp) (by simp [s,yV,XS.yi,XS.dm,XS.kicked,kickI,putI]) (fun κ w1 h1=>fin (x':=⟨xd,some (c,p,⟨false,gg,0,was,none⟩)⟩) (m':=m.put (c.word p+1) (KickS.nx ⟨false,gg,2,was,none⟩)) (by first | rfl | (simp only [yV,XS.yi,XS.dm,XS.kicked,kickI,putI]; rfl)) ?_)
     show Ev.Hold _ [Ev.slA _ 1 _ (m.put _ _).cells.length _,_,_] _
     rw [setL]
     exact h1
    ·by_cases hg:0≤IntKind.i64.wrap (was - 1)
     ·
      show Calls _ _ _ _ (fun e w'=>∃ v cd,Ev.dec cd=v∧e=.returned (.tuple #[.agg (yV ⟨xd,some (c,p,(kickStep c p ⟨false,gg,2,was,none⟩ m).1)⟩ (Ev.subV 1 v) (Ev.subV 2 v)),.agg #[Ev.subV 0 v,.int .u64 (kickStep c p ⟨false,gg,2,was,none⟩ m).2.ops]])∧Ev.Hold ⟨w,F⟩ [cA (Ev.subV 0 v) (kickStep c p ⟨false,gg,2,was,none⟩ m).2,isA (Ev.subV 1 v) (XS.ts ⟨xd,some (c,p,(kickStep c p ⟨false,gg,2,was,none⟩ m).1)⟩),isA (Ev.subV 2 v) (XS.hs ⟨xd,some (c,p,(kickStep c p ⟨false,gg,2,was,none⟩ m).1)⟩)] w')
      rw [show kickStep c p ⟨false,gg,2,was,none⟩ m=(⟨false,gg,3,was,some ⟨1,IntKind.i64.wrap (was - 1),0,[],[IntKind.i64.wrap (was - 1)]⟩⟩,m.put (c.word p+1) (KickS.nx ⟨false,gg,2,was,none⟩)) by simp only [kickStep]; rw [if_neg hz,if_pos hg]]
      refine startP (y2rg s hgg hz hg) (by kernel_rfl) h (by simp) (by simp [s,yV,XS.yi,XS.dm,XS.kicked,kickI,putI,if_pos hg]) (fun κ w1 h1=>fin (x':=⟨xd,some (c,p,⟨false,gg,3,was,some ⟨1,IntKind.i64.wrap (was - 1),0,[],[IntKind.i64.wrap (was - 1)]⟩⟩)⟩) (m':=m.put (c.word p+1) (KickS.nx ⟨false,gg,2,was,none⟩)) (by first | rfl | (simp only [yV,XS.yi,XS.dm,XS.kicked,kickI,putI,if_pos hg]; rfl)) ?_)
      show Ev.Hold _ [Ev.slA _ 1 _ (m.put _ _).cells.length _,_,_] _
      rw [setL]
      exact ((blk_isA (h1.sel [0,1] (by kernel_rfl))).nilSl (e := 3) (sz:=1)).sel [2,0,1] (by kernel_rfl)
     ·
      show Calls _ _ _ _ (fun e w'=>∃ v cd,Ev.dec cd=v∧e=.returned (.tuple #[.agg (yV ⟨xd,some (c,p,(kickStep c p ⟨false,gg,2,was,none⟩ m).1)⟩ (Ev.subV 1 v) (Ev.subV 2 v)),.agg #[Ev.subV 0 v,.int .u64 (kickStep c p ⟨false,gg,2,was,none⟩ m).2.ops]])∧Ev.Hold ⟨w,F⟩ [cA (Ev.subV 0 v) (kickStep c p ⟨false,gg,2,was,none⟩ m).2,isA (Ev.subV 1 v) (XS.ts ⟨xd,some (c,p,(kickStep c p ⟨false,gg,2,was,none⟩ m).1)⟩),isA (Ev.subV 2 v) (XS.hs ⟨xd,some (c,p,(kickStep c p ⟨false,gg,2,was,none⟩ m).1)⟩)] w')
      rw [show kickStep c p ⟨false,gg,2,was,none⟩ m=(⟨false,gg,0,was,some ⟨0,IntKind.i64.wrap (was - 1),0,[],[]⟩⟩,m.put (c.word p+1) (KickS.nx ⟨false,gg,2,was,none⟩)) by simp only [kickStep]; rw [if_neg hz,if_neg hg]]
      refine startP (y2rb s hgg hz hg) (by kernel_rfl) h (by simp) (by simp [s,yV,XS.yi,XS.dm,XS.kicked,kickI,putI,if_neg hg]) (fun κ w1 h1=>fin (x':=⟨xd,some (c,p,⟨false,gg,0,was,some ⟨0,IntKind.i64.wrap (was - 1),0,[],[]⟩⟩)⟩) (m':=m.put (c.word p+1) (KickS.nx ⟨false,gg,2,was,none⟩)) (by first | rfl | (simp only [yV,XS.yi,XS.dm,XS.kicked,kickI,putI,if_neg hg]; rfl)) ?_)
      show Ev.Hold _ [Ev.slA _ 1 _ (m.put _ _).cells.length _,_,_] _
      rw [setL]
      exact (((h1.sel [0] (by kernel_rfl)).nilSl (e := 3) (sz:=1)).nilSl (e := 3) (sz:=1)).sel [2,0,1] (by kernel_rfl)
  | 3,_ =>
   obtain ⟨y,e,hy0⟩:=hp3 rfl
   have e':put=some y:=e
   subst e'
   have hy:=hput y rfl
   have hyg:=(hy.gg hy0).1
   have hyg2:0≤(putStep c p y m).1.gg:=by rw [putStep_gg]; exact hyg
   cases dem with
   | true =>
    by_cases hz:(putStep c p y m).1.st=0
    ·have hz2:((((putStep c p y m).1.st:Nat) : Int)=0):=by omega
     show Calls _ _ _ _ (fun e w'=>∃ v cd,Ev.dec cd=v∧e=.returned (.tuple #[.agg (yV ⟨xd,some (c,p,(kickStep c p ⟨true,gg,3,was,some y⟩ m).1)⟩ (Ev.subV 1 v) (Ev.subV 2 v)),.agg #[Ev.subV 0 v,.int .u64 (kickStep c p ⟨true,gg,3,was,some y⟩ m).2.ops]])∧Ev.Hold ⟨w,F⟩ [cA (Ev.subV 0 v) (kickStep c p ⟨true,gg,3,was,some y⟩ m).2,isA (Ev.subV 1 v) (XS.ts ⟨xd,some (c,p,(kickStep c p ⟨true,gg,3,was,some y⟩ m).1)⟩),isA (Ev.subV 2 v) (XS.hs ⟨xd,some (c,p,(kickStep c p ⟨true,gg,3,was,some y⟩ m).1)⟩)] w')
     rw [show kickStep c p ⟨true,gg,3,was,some y⟩ m=(⟨true,gg,0,was,some (putStep c p y m).1⟩,(putStep c p y m).2) by simp only [kickStep]; rw [if_pos hz]]
     refine startP (y3dz s y hy hy0 hmc hz2) (by kernel_rfl) h (by simp) (by simp [s,yV,XS.yi,XS.dm,XS.kicked,kickI,putI,if_pos hyg,if_pos hyg2]) (fun κ w1 h1=>fin (x':=⟨xd,some (c,p,⟨true,gg,0,was,some (putStep c p y m).1⟩)⟩) (m':=(putStep c p y m).2) (by first | rfl | (simp only [yV,XS.yi,XS.dm,XS.kicked,kickI,putI,if_pos hyg,if_pos hyg2]; rfl)) ?_)
     exact h1
    ·have hz2:¬ ((((putStep c p y m).1.st:Nat) : Int)=0):=by omega
     show Calls _ _ _ _ (fun e w'=>∃ v cd,Ev.dec cd=v∧e=.returned (.tuple #[.agg (yV ⟨xd,some (c,p,(kickStep c p ⟨true,gg,3,was,some y⟩ m).1)⟩ (Ev.subV 1 v) (Ev.subV 2 v)),.agg #[Ev.subV 0 v,.int .u64 (kickStep c p ⟨true,gg,3,was,some y⟩ m).2.ops]])∧Ev.Hold ⟨w,F⟩ [cA (Ev.subV 0 v) (kickStep c p ⟨true,gg,3,was,some y⟩ m).2,isA (Ev.subV 1 v) (XS.ts ⟨xd,some (c,p,(kickStep c p ⟨true,gg,3,was,some y⟩ m).1)⟩),isA (Ev.subV 2 v) (XS.hs ⟨xd,some (c,p,(kickStep c p ⟨true,gg,3,was,some y⟩ m).1)⟩)] w')
     rw [show kickStep c p ⟨true,gg,3,was,some y⟩ m=(⟨true,gg,3,was,some (putStep c p y m).1⟩,(putStep c p y m).2) by simp only [kickStep]; rw [if_neg hz]]
     refine startP (y3dn s y hy hy0 hmc hz2) (by kernel_rfl) h (by simp) (by simp [s,yV,XS.yi,XS.dm,XS.kicked,kickI,putI,if_pos hyg,if_pos hyg2]) (fun κ w1 h1=>fin (x':=⟨xd,some (c,p,⟨true,gg,3,was,some (putStep c p y m).1⟩)⟩) (m':=(putStep c p y m).2) (by first | rfl | (simp only [yV,XS.yi,XS.dm,XS.kicked,kickI,putI,if_pos hyg,if_pos hyg2]; rfl)) ?_)
     exact h1
   | false =>
    by_cases hz:(putStep c p y m).1.st=0
    ·have hz2:((((putStep c p y m).1.st:Nat) : Int)=0):=by omega
     show Calls _ _ _ _ (fun e w'=>∃ v cd,Ev.dec cd=v∧e=.returned (.tuple #[.agg (yV ⟨xd,some (c,p,(kickStep c p ⟨false,gg,3,was,some y⟩ m).1)⟩ (Ev.subV 1 v) (Ev.subV 2 v)),.agg #[Ev.subV 0 v,.int .u64 (kickStep c p ⟨false,gg,3,was,some y⟩ m).2.ops]])∧Ev.Hold ⟨w,F⟩ [cA (Ev.subV 0 v) (kickStep c p ⟨false,gg,3,was,some y⟩ m).2,isA (Ev.subV 1 v) (XS.ts ⟨xd,some (c,p,(kickStep c p ⟨false,gg,3,was,some y⟩ m).1)⟩),isA (Ev.subV 2 v) (XS.hs ⟨xd,some (c,p,(kickStep c p ⟨false,gg,3,was,some y⟩ m).1)⟩)] w')
     rw [show kickStep c p ⟨false,gg,3,was,some y⟩ m=(⟨false,gg,0,was,some (putStep c p y m).1⟩,(putStep c p y m).2) by simp only [kickStep]; rw [if_pos hz]]
     refine startP (y3rz s y hy hy0 hmc hz2) (by kernel_rfl) h (by simp) (by simp [s,yV,XS.yi,XS.dm,XS.kicked,kickI,putI,if_pos hyg,if_pos hyg2]) (fun κ w1 h1=>fin (x':=⟨xd,some (c,p,⟨false,gg,0,was,some (putStep c p y m).1⟩)⟩) (m':=(putStep c p y m).2) (by first | rfl | (simp only [yV,XS.yi,XS.dm,XS.kicked,kickI,putI,if_pos hyg,if_pos hyg2]; rfl)) ?_)
     exact h1
    ·have hz2:¬ ((((putStep c p y m).1.st:Nat) : Int)=0):=by omega
     show Calls _ _ _ _ (fun e w'=>∃ v cd,Ev.dec cd=v∧e=.returned (.tuple #[.agg (yV ⟨xd,some (c,p,(kickStep c p ⟨false,gg,3,was,some y⟩ m).1)⟩ (Ev.subV 1 v) (Ev.subV 2 v)),.agg #[Ev.subV 0 v,.int .u64 (kickStep c p ⟨false,gg,3,was,some y⟩ m).2.ops]])∧Ev.Hold ⟨w,F⟩ [cA (Ev.subV 0 v) (kickStep c p ⟨false,gg,3,was,some y⟩ m).2,isA (Ev.subV 1 v) (XS.ts ⟨xd,some (c,p,(kickStep c p ⟨false,gg,3,was,some y⟩ m).1)⟩),isA (Ev.subV 2 v) (XS.hs ⟨xd,some (c,p,(kickStep c p ⟨false,gg,3,was,some y⟩ m).1)⟩)] w')
     rw [show kickStep c p ⟨false,gg,3,was,some y⟩ m=(⟨false,gg,3,was,some (putStep c p y m).1⟩,(putStep c p y m).2) by simp only [kickStep]; rw [if_neg hz]]
     refine startP (y3rn s y hy hy0 hmc hz2) (by kernel_rfl) h (by simp) (by simp [s,yV,XS.yi,XS.dm,XS.kicked,kickI,putI,if_pos hyg,if_pos hyg2]) (fun κ w1 h1=>fin (x':=⟨xd,some (c,p,⟨false,gg,3,was,some (putStep c p y m).1⟩)⟩) (m':=(putStep c p y m).2) (by first | rfl | (simp only [yV,XS.yi,XS.dm,XS.kicked,kickI,putI,if_pos hyg,if_pos hyg2]; rfl)) ?_)
     exact h1
end
end Go.Proofs.Ytbcnbofkgkheeaa
